/- For all texts, steps and numbers the law AuditFollows returns true, and they read as they did; no condition. -/
import Derived.Laws.MakeOwn
import Derived.Lib.Builder
import Derived.Lib.UnsafeStr
import Derived.Laws.Externs
import Derived.Great.BuildSlice
import Derived.Deep.DeepCutAuto
import Derived.Deep.CutBlock
import Derived.Laws.BytesArg
import Derived.Laws.IdiomStrings
import Derived.Shelf.Strings.OnBuilder
import Derived.Shelf.LaysM
import Derived.Shelf.Strconv.Itoa3
import Derived.Test.YtbgefoamhdgnaaaGreatDoorProg
import Derived.Test.YtbgefoamhdgnaaaGreatDoorFb4
set_option maxRecDepth 100000
set_option maxHeartbeats 16000000
set_option linter.unusedVariables false
set_option linter.unusedSimpArgs false
namespace Go.Proofs.YtbgefoamhdgnaaaGreatDoor
section
open Go.RowKit Go.Lib Go.Sx
def PtA (x y z : Nat) (b : Bool) (p : Fin PP × Fin PP) : Prop := ∃ X Y Z, zI x y z b X Y Z ∧ Rep X Y Z p
theorem PtA.on {x y z : Nat} {b : Bool} {p : Fin PP × Fin PP} (h : PtA x y z b p) : OnP fd p := let ⟨_, _, _, _, h⟩ := h; h.2.2.2
theorem zero_pta : PtA 0 0 0 false (0, 1) := ⟨0, 1, 1, ⟨⟨by decide, by decide, by decide⟩, .inr ⟨rfl, by decide +kernel, by decide +kernel, by decide +kernel⟩⟩, qde⟩
theorem mk16 (w : World) : (Instr.makeSlice 246 (.int .i64 16) (.int .i64 16)).run Tryz.prog w = .ok (.slice (some ⟨w.heap.size, 0, none⟩) 16 16) (w.alloc (.cells (madeCells z53 208) 182)) := by
 obtain ⟨i, hi⟩ : ∃ i, Tryz.prog.info? 182 = some i := Option.isSome_iff_exists.1 (by kernel_rfl)
 have hz : (Tryz.prog.info? 182).map (·.zero) = some (some (.agg z53)) := by kernel_rfl
 have h1 : (Tryz.prog.info? 182).map (·.size) = some 13 := by kernel_rfl
 have h2 : (Tryz.prog.info? 182).map (fun i => decide (i.bytes ≤ 1000)) = some true := by kernel_rfl
 rw [hi] at hz h1 h2
 have hz := Option.some.inj hz
 have h1 := Option.some.inj h1
 have h2 := of_decide_eq_true (Option.some.inj h2)
 dsimp only at hz h1 h2
 have h := run_makeSlice (P := Tryz.prog) w 246 182 i _ Tryz.underlying246 hi hz .i64 .i64 16 16 (by decide) (by decide) (by rw [h1]; decide) (by omega) (by decide)
 rw [h1] at h
 exact h
abbrev Q4 : Type := Nat × Nat × Nat × Bool
abbrev ptv (q : Q4) : Array Value := pt q.1 q.2.1 q.2.2.1 q.2.2.2
def PtQ (q : Q4) (p : Fin PP × Fin PP) : Prop := PtA q.1 q.2.1 q.2.2.1 q.2.2.2 p
def tbl (τ : Nat → Q4) : List Value := (List.range 16).flatMap fun j => (ptv (τ j)).toList
def qbk (τ : Nat → Q4) : Array Value := (tbl τ).toArray
theorem fl_len (f : Nat → List Value) (z : Nat) (hf : ∀ j, (f j).length = z) : ∀ n, ((List.range n).flatMap f).length = n * z
 | 0 => by simp
 | n + 1 => by rw [List.range_succ, List.flatMap_append, List.length_append, fl_len f z hf n]; simp [hf, Nat.succ_mul]
theorem fl_get (f : Nat → List Value) (z : Nat) (hf : ∀ j, (f j).length = z) (j : Nat) : ∀ n, j < n → (((List.range n).flatMap f).drop (j * z)).take z = f j
 | 0, h => by omega
 | n + 1, h => by
  have hl := fl_len f z hf n
  rw [List.range_succ, List.flatMap_append]
  by_cases e : j = n
  · subst e; rw [← hl, List.drop_left, List.flatMap_singleton, List.take_of_length_le (by rw [hf]; exact Nat.le_refl _)]
  · have h2 : (j + 1) * z ≤ n * z := Nat.mul_le_mul_right _ (by omega)
    rw [Nat.succ_mul] at h2
    rw [List.drop_append_of_le_length (by omega), List.take_append_of_le_length (by rw [List.length_drop]; omega)]
    exact fl_get f z hf j n (by omega)
theorem fl_set (f : Nat → List Value) (z : Nat) (hf : ∀ j, (f j).length = z) (j : Nat) (v : List Value) : ∀ n, j < n → ((List.range n).flatMap f).take (j * z) ++ v ++ ((List.range n).flatMap f).drop (j * z + z) = (List.range n).flatMap fun i => if i = j then v else f i
 | 0, h => by omega
 | n + 1, h => by
  have hl := fl_len f z hf n
  rw [List.range_succ, List.flatMap_append, List.flatMap_append]
  by_cases e : j = n
  · subst e
    have h1 : (List.range j).flatMap (fun i => if i = j then v else f i) = (List.range j).flatMap f := by
     simp only [List.flatMap]
     exact congrArg _ (List.map_congr_left fun i hi => by rw [if_neg (by have := List.mem_range.1 hi; omega)])
    rw [h1, ← hl, List.take_left, List.drop_eq_nil_of_le (by simp [hf])]; simp
  · have h2 : (j + 1) * z ≤ n * z := Nat.mul_le_mul_right _ (by omega)
    rw [Nat.succ_mul] at h2
    rw [List.take_append_of_le_length (by omega), List.drop_append_of_le_length (by omega), ← List.append_assoc, fl_set f z hf j v n (by omega)]
    simp [show n ≠ j by omega]
theorem ptv_len (q : Q4) : (ptv q).toList.length = 13 := by rw [Array.length_toList, qo]
theorem tabA_size (τ : Nat → Q4) : (qbk τ).size = 208 := by unfold qbk tbl; rw [List.size_toArray, fl_len _ 13 fun j => ptv_len _]
theorem ix13 (j : Nat) : nad 0 (nmu (Int.toNat ((j : Nat) : Int)) 13) = j * 13 := by rw [qi, qh, Nat.zero_add, Int.toNat_natCast]
theorem tab_get (τ : Nat → Q4) (j : Nat) (hj : j < 16) : (qbk τ).extract (nad 0 (nmu (Int.toNat ((j : Nat) : Int)) 13)) (nad 0 (nmu (Int.toNat ((j : Nat) : Int)) 13) + 13) = ptv (τ j) := by
 rw [ix13]
 apply Array.ext'
 rw [qbk, List.extract_toArray, List.extract_eq_take_drop, Nat.add_sub_cancel_left]
 exact fl_get _ 13 (fun j => ptv_len _) j 16 hj
def upT (τ : Nat → Q4) (j : Nat) (q : Q4) : Nat → Q4 := fun i => if i = j then q else τ i
theorem tab_set (τ : Nat → Q4) (j : Nat) (hj : j < 16) (q : Q4) : ((qbk τ).toList.take (nad 0 (nmu (Int.toNat ((j : Nat) : Int)) 13)) ++ (ptv q).toList ++ (qbk τ).toList.drop (nad 0 (nmu (Int.toNat ((j : Nat) : Int)) 13) + (ptv q).size)).toArray = qbk (upT τ j q) := by
 rw [ix13, qo]
 refine congrArg List.toArray ((fl_set _ 13 (fun j => ptv_len _) j (ptv q).toList 16 hj).trans ?_)
 unfold tbl
 congr 1
 funext i
 unfold upT
 by_cases e : i = j
 · rw [if_pos e, if_pos e]
 · rw [if_neg e, if_neg e]
theorem tab_0 : madeCells z53 208 = qbk fun _ => (0, 0, 0, false) := by kernel_rfl
theorem z53_pt : z53 = ptv (0, 0, 0, false) := by kernel_rfl
theorem bd2 (x y : Int) : Tryz.prog.built 250 [(0, .int .u8 x), (1, .int .u8 y)] = some #[.int .u8 x, .int .u8 y] := by kernel_rfl
theorem sum_q (d : Nat) (hd : El SL d) (q1 q2 : Q4) (p1 p2 : Fin PP × Fin PP) (h1 : PtQ q1 p1) (h2 : PtQ q2 p2) (w : World) :
 Calls Tryz.prog 169 ([.agg (e4 d), .agg (ptv q1), .agg (ptv q2)] : List Value).toArray w fun e w' => ∃ q : Q4, PtQ q (QL qF fd p1 p2) ∧ e = .returned (.agg (ptv q)) ∧ Below w.heap.size w w' := by
 obtain ⟨X1, Y1, Z1, i1, r1⟩ := h1
 obtain ⟨X2, Y2, Z2, i2, r2⟩ := h2
 refine (add_of d SL hd.1 hd.2 _ _ _ _ X1 Y1 Z1 i1 _ _ _ _ X2 Y2 Z2 i2 w).mono ?_
 rintro e w' ⟨x, y, z, b, hpt, he, hb⟩
 exact ⟨(x, y, z, b), ⟨_, _, _, hpt, qbJ _ _ _ _ _ _ p1 p2 r1 r2⟩, he, hb⟩
theorem and_15 (q : Nat) (h : q < 256) : Qz .and .u8 (q : Int) 15 = ((q % 16 : Nat) : Int) := by
 have : (List.range 256).all (fun a => Qz .and .u8 (a : Int) 15 == ((a % 16 : Nat) : Int)) = true := by decide +kernel
 simpa using List.all_eq_true.1 this q (by simpa using h)
def vm (V r1 r2 : Nat) : Nat → Nat
 | 0 => V
 | 1 => 16 * V + r1
 | _ => 16 * (16 * V + r1) + r2
def rm (r1 r2 : Nat) (m : Nat) : Nat := if m = 0 then r1 else r2
theorem vm_next (V r1 r2 m : Nat) (h : m < 2) : vm V r1 r2 (m + 1) = 2 ^ 4 * vm V r1 r2 m + rm r1 r2 m := by
 rcases (show m = 0 ∨ m = 1 by omega) with rfl | rfl <;> rfl
theorem pmany_any (x y z n : Nat) (b : Bool) (p : Fin PP × Fin PP) (hp : PtA x y z b p) (hn : n < 115792089237316195423570985008687907853269984665640564039457584007913129639936) (w : World) :
 Calls Tryz.prog 124 #[.agg (pt x y z b), .agg (k32 n)] w fun e w' => ∃ x2 y2 z2 b2, PtA x2 y2 z2 b2 (qS qF fd p n) ∧ e = .returned (.agg (pt x2 y2 z2 b2)) ∧ Below w.heap.size w w' := by
 have hop : OnP fd p := hp.on
 obtain ⟨d, hd, kd⟩ := ex_slope
 obtain ⟨q0, hq0⟩ : ∃ q : Q4, q = (x, y, z, b) := ⟨_, rfl⟩
 have hp0 : PtQ q0 p := by rw [hq0]; exact hp
 rw [show pt x y z b = ptv q0 by rw [hq0]]
 clear hq0 hp
 refine (enter (vs := [.agg (ptv q0), .agg (k32 n)]) (R := fun v w' => ∃ q : Q4, PtQ q (qS qF fd p n) ∧ v = .agg (ptv q) ∧ Below w.heap.size w w') qc Tryz.func124 rfl Tryz.ntmps124 rfl (St.start w) ?_).mono (fun e w' ⟨v, he, q, h1, h2, h3⟩ => ⟨_, _, _, _, h1, by rw [he, h2], h3⟩)
 intro b2 b3 b4
 refine cv kd ?_
 intro b5
 refine s1e 3 #[.func (.func 169) #[.agg (e4 d)] #[]] rfl (by decide) rfl ?_
 refine .mk 16 16 (madeCells z53 208) 182 (fun w => mk16 w) (fun bT => ?_)
 rw [tab_0]
 intro b6
 refine s1e 5 #[.slice (some ⟨bT, 0, none⟩) 16 16] rfl (by decide) rfl ?_
 refine lp qc (fun x : Nat × (Nat → Q4) => 1 ≤ x.1 ∧ x.1 ≤ 16 ∧ ∀ j, j < x.1 → PtQ (x.2 j) (qS qF fd p j)) (fun x => ⟨[(2, ptr b2), (3, ptr b3), (4, ptr b4), (5, ptr b5), (6, ptr b6), (7, .int .i64 (x.1 : Int))], [cl b2 (ptv q0) 182, cl b3 (k32 n) 36, cl b4 z53 182, cl b5 #[.func (.func 169) #[.agg (e4 d)] #[]] 243, cl bT (qbk x.2) 182, cl b6 #[.slice (some ⟨bT, 0, none⟩) 16 16] 246], []⟩) (fun x => 16 - x.1) (1, fun _ => (0, 0, 0, false))
  ⟨Nat.le_refl _, by decide, fun j hj => by obtain rfl : j = 0 := by (try simp only at hj); omega
                                            exact zero_pta⟩ ⟨⟨rfl, rfl, rfl, rfl, rfl, rfl, trivial⟩, .refl _, rfl⟩ ?_
 rintro ⟨k, τ⟩ ⟨hk1, hk, hτ⟩
 simp only at hk1 hk hτ
 refine ld1 5 rfl rfl ?_
 refine cd (fun hlt => ?_) (fun hge => ?_)
 · obtain ⟨j, rfl⟩ : ∃ j, k = j + 1 := ⟨k - 1, by omega⟩
   have hj : j + 1 < 16 := by (try simp only at hlt); omega
   refine drs [cl b2 (ptv q0) 182, dead, dead, cl b5 #[.func (.func 169) #[.agg (e4 d)] #[]] 243, dead, cl b6 #[.slice (some ⟨bT, 0, none⟩) 16 16] 246] [] (.t 0 (.t 1 (.t 2 (.t 3 (.t 4 (.t 5 (.t 6 (.t 8 (.n 7 (.n 9 (.t 10 (.n 11 .nil)))))))))))) qc qe (by kernel_rfl) (.cons (.dead (.dead (.cons (.dead (.cons .nil)))))) ?_
   refine ld1 5 rfl rfl ?_
   refine ld1 3 rfl rfl ?_
   refine ld1 5 rfl rfl ?_
   refine .as ((j : Nat) : Int) (by (try push_cast); (try omega)) (by simp only [mn]; omega) (by simp only [mx]; omega) ?_
   refine ⟨by omega, by omega, ?_⟩
   refine ldN 0 rfl (qo _ _ _ _) ?_
   refine ldP 4 (d := ptv (τ j)) rfl (qo _ _ _ _) (tab_get τ j (by omega)) ?_
   refine ⟨.cons (.dead (.dead (.cons (.dead (.cons .nil))))), ?_⟩
   refine ce (v := fun q => .agg (ptv q)) (fun w _ => sum_q d hd (τ j) q0 _ _ (hτ j (by omega)) hp0 w) (fun q8 hq8 => ?_)
   refine ⟨.cons (.dead (.dead (.cons (.dead (.cons .nil))))), ?_⟩
   refine ⟨by omega, by omega, ?_⟩
   refine sP 4 rfl (by show nad 0 (nmu (Int.toNat (((j + 1 : Nat) : Nat) : Int)) 13) + (ptv q8).size ≤ (qbk τ).size; rw [ix13, qo, tabA_size]; omega) (by rw [Array.all_toList]; exact QW _ _ _ _) (tab_set τ (j + 1) hj q8) ?_ (by rw [qo]; kernel_rfl)
   refine ⟨.cons (.dead (.dead (.cons (.dead (.cons .nil))))), ?_⟩
   refine .as ((j + 1 + 1 : Nat) : Int) (by (try push_cast); (try omega)) (by simp only [mn]; omega) (by simp only [mx]; omega) ?_
   refine ⟨(j + 1 + 1, upT τ (j + 1) q8), ⟨by simp only; omega, by simp only; omega, fun i hi => ?_⟩, by simp only; omega, ⟨⟨rfl, rfl, rfl, rfl, rfl, rfl, trivial⟩, .refl _, rfl⟩⟩
   simp only at hi ⊢
   unfold upT
   by_cases e : i = j + 1
   · rw [if_pos e, e]; exact hq8
   · rw [if_neg e]; exact hτ i (by omega)
 · have hk16 : k = 16 := by (try simp only at hge); omega
   subst hk16
   intro b8
   refine ⟨.mk 0 32 32 rfl rfl rfl (by decide) (by decide) (by decide) (by simp) (.on (by decide) ?_)⟩
   refine inl qc Tryz.func170 rfl Tryz.ntmps170 rfl ?_
   intro bS
   refine bk ?_
   refine rfiO (C := ⟨Tryz.prog, tab, 61, [], w, none⟩) (L0 := [cl b2 (ptv q0) 182, cl b3 (k32 n) 36, cl b4 z53 182, cl b5 #[.func (.func 169) #[.agg (e4 d)] #[]] 243, cl bT (qbk τ) 182, cl b6 #[.slice (some ⟨bT, 0, none⟩) 16 16] 246, cl bS #[.slice (some ⟨b3, 0, none⟩) 32 32] 48]) (α := Q4) (β := Empty) qc rfl rfl rfl (bk8_itr bS b3 32 32 (dg 256 n) (by decide)).toO (fun k q => PtQ q (qS qF fd p (n / 256 ^ (32 - k)))) (fun _ q => [cl b8 (ptv q) 182]) (fun y => y.elim) (fun y => y.elim) (0, 0, 0, false)
    (by rw [show n / 256 ^ (32 - 0) = 0 by rw [show (256 : Nat) ^ (32 - 0) = 115792089237316195423570985008687907853269984665640564039457584007913129639936 by decide +kernel]; omega]; exact zero_pta) ?_ (fun w' hs => ⟨⟨hs.nth (k := 6) rfl, hs.lt (List.mem_of_getElem? (i := 1) rfl) rfl, fun j hj => by rw [hs.cell (k := 1) rfl j]; exact qP _ _ _ _ hj⟩, ?_⟩) ?_ ?_ ?_ (fun y => y.elim)
   · rw [← z53_pt]
     exact List.Perm.append_left [cl b2 (ptv q0) 182, cl b3 (k32 n) 36, cl b4 z53 182, cl b5 #[.func (.func 169) #[.agg (e4 d)] #[]] 243, cl bT (qbk τ) 182, cl b6 #[.slice (some ⟨bT, 0, none⟩) 16 16] 246] (List.Perm.swap _ _ [])
   · rintro x (hx | rfl | rfl) e he hw
     · exact hx.elim
     · rw [List.mem_singleton.1 he] at hw
       exact (QG hs.apart (i := 7) (j := 6) rfl rfl (by decide) _).1 hw (by simp)
     · rw [List.mem_singleton.1 he] at hw
       exact (QG hs.apart (i := 7) (j := 1) rfl rfl (by decide) _).1 hw (by simp)
   · rintro i args q j ⟨rfl, _, rfl, _⟩; rfl
   · rintro l k args q' j q6 w' ready busy ⟨rfl, hk, rfl, rfl⟩ hq6
     obtain ⟨q, hq⟩ : ∃ q, n / 256 ^ (32 - 1 - k) % 256 = q := ⟨_, rfl⟩
     have hql : q < 256 := by omega
     obtain ⟨V, hV⟩ : ∃ V, V = n / 256 ^ (32 - k) := ⟨_, rfl⟩
     have hnx : 256 * V + q = n / 256 ^ (32 - (k + 1)) := by
      rw [hV, ← hq, show 32 - k = 32 - 1 - k + 1 by omega, show 32 - (k + 1) = 32 - 1 - k by omega, Nat.pow_succ, ← Nat.div_div_eq_div_mul]; omega
     rw [← hV] at hq6
     rw [dgn, hq]
     refine ⟨rfl, ?_⟩
     refine ⟨by decide, ?_⟩
     refine bu (c := row .u8 2 fun m => ((rm (q / 16) (q % 16) m : Nat) : Int)) (by
      have e1 : (q : Int).fdiv (2 ^ (min (Int.toNat 4) 8)) = ((q / 16 : Nat) : Int) := shrB q 4 8 (by decide)
      have h := bd2 ((q : Int).fdiv (2 ^ (min (Int.toNat 4) 8))) (Qz .and .u8 (q : Int) 15)
      rw [e1, and_15 q hql] at h
      show Tryz.prog.built 250 [(0, .int .u8 ((q : Int).fdiv (2 ^ (min (Int.toNat 4) 8)))), (1, .int .u8 (Qz .and .u8 (q : Int) 15))] = _
      rw [e1, and_15 q hql, h]; rfl) ?_
     refine lp qc (fun x : Nat × Q4 => x.1 ≤ 2 ∧ PtQ x.2 (qS qF fd p (vm V (q / 16) (q % 16) x.1))) (fun x => ⟨[(5, ptr b5), (6, ptr b6), (8, ptr b8), (41, .agg (row .u8 2 fun m => ((rm (q / 16) (q % 16) m : Nat) : Int))), (42, .int .i64 (x.1 : Int))], [dead, dead, dead, ⟨b5, some (.cells #[.func (.func 169) #[.agg (e4 d)] #[]] 243 (0, 0)), true, none⟩, ⟨bT, some (.cells (qbk τ) 182 (0, 0)), true, none⟩, ⟨b6, some (.cells #[.slice (some ⟨bT, 0, none⟩) 16 16] 246 (0, 0)), true, none⟩, dead, cl b8 (ptv x.2) 182, ⟨l, some busy, false, none⟩], []⟩) (fun x => 2 - x.1) (0, q6) ⟨Nat.zero_le _, hq6⟩ ⟨⟨rfl, rfl, rfl, rfl, rfl, trivial⟩, .dead (.dead (.dead (.cons (.cons (.cons (.dead (.cons (.cons .nil)))))))), rfl⟩ ?_
     clear hq6
     rintro ⟨m, q6⟩ ⟨hm, hq6⟩
     simp only at hm hq6
     refine cd (fun h => ?_) (fun h => ?_)
     · have hm2 : m < 2 := by (try simp only at h); omega
       have hr16 : rm (q / 16) (q % 16) m < 16 := by unfold rm; split <;> omega
       refine ⟨by omega, by omega, .cell _ rfl (qY .u8 2 _ m hm2) ?_⟩
       refine lp qc (fun x : Nat × Q4 => x.1 ≤ 4 ∧ PtQ x.2 (qS qF fd p (2 ^ x.1 * vm V (q / 16) (q % 16) m))) (fun x => ⟨[(5, ptr b5), (6, ptr b6), (8, ptr b8), (12, .int .u8 ((rm (q / 16) (q % 16) m : Nat) : Int)), (41, .agg (row .u8 2 fun m => ((rm (q / 16) (q % 16) m : Nat) : Int))), (42, .int .i64 (m : Int)), (45, .int .i64 (x.1 : Int))], [dead, dead, dead, ⟨b5, some (.cells #[.func (.func 169) #[.agg (e4 d)] #[]] 243 (0, 0)), true, none⟩, ⟨bT, some (.cells (qbk τ) 182 (0, 0)), true, none⟩, ⟨b6, some (.cells #[.slice (some ⟨bT, 0, none⟩) 16 16] 246 (0, 0)), true, none⟩, dead, cl b8 (ptv x.2) 182, ⟨l, some busy, false, none⟩], []⟩) (fun x => 4 - x.1) (0, q6) ⟨Nat.zero_le _, by simp only [Nat.pow_zero, Nat.one_mul]; exact hq6⟩ ⟨⟨rfl, rfl, rfl, rfl, rfl, rfl, rfl, trivial⟩, .refl _, rfl⟩ ?_
       clear hq6
       rintro ⟨s, q7⟩ ⟨hs, hq7⟩
       simp only at hs hq7
       refine cd (fun h4 => ?_) (fun h4 => ?_)
       · refine ld1 3 rfl rfl ?_
         refine ldN 7 rfl (qo _ _ _ _) ?_
         refine ldN 7 rfl (qo _ _ _ _) ?_
         refine ce (v := fun q => .agg (ptv q)) (fun w _ => sum_q d hd q7 q7 _ _ hq7 hq7 w) (fun q8 hq8 => ?_)
         rw [← fld.mul_add p hop, ← Nat.two_mul, ← Nat.mul_assoc, Nat.mul_comm 2 (2 ^ s), ← Nat.pow_succ] at hq8
         refine sN 7 (d := ptv q8) rfl (by rw [qo, qo]) (by rw [Array.all_toList]; exact QW _ _ _ _) ?_ (by rw [qo]; kernel_rfl)
         refine .as ((s + 1 : Nat) : Int) (by (try push_cast); (try omega)) (by simp only [mn]; omega) (by simp only [mx]; omega) ?_
         exact ⟨(s + 1, q8), ⟨by (try simp only at h4); simp only; omega, hq8⟩, by (try simp only at h4); simp only; omega, ⟨⟨rfl, rfl, rfl, rfl, rfl, rfl, rfl, trivial⟩, .refl _, rfl⟩⟩
       · obtain rfl : s = 4 := by (try simp only at h4); omega
         refine drs [dead, dead, dead, ⟨b5, some (.cells #[.func (.func 169) #[.agg (e4 d)] #[]] 243 (0, 0)), true, none⟩, ⟨bT, some (.cells (qbk τ) 182 (0, 0)), true, none⟩, ⟨b6, some (.cells #[.slice (some ⟨bT, 0, none⟩) 16 16] 246 (0, 0)), true, none⟩, dead, dead, ⟨l, some busy, false, none⟩] [] (.t 0 (.t 2 (.t 3 (.t 4 (.t 5 (.n 1 (.n 6 (.n 7 .nil)))))))) qc qe (by kernel_rfl) (.dead (.dead (.dead (.cons (.cons (.cons (.dead (.dead (.cons .nil))))))))) ?_
         refine ld1 3 rfl rfl ?_
         refine ld1 5 rfl rfl ?_
         refine ⟨by omega, by omega, ?_⟩
         refine ldP 4 (d := ptv (τ (rm (q / 16) (q % 16) m))) rfl (qo _ _ _ _) (tab_get τ _ hr16) ?_
         refine ldN 7 rfl (qo _ _ _ _) ?_
         refine ⟨.dead (.dead (.dead (.cons (.cons (.cons (.dead (.dead (.cons .nil)))))))), ?_⟩
         refine ce (v := fun q => .agg (ptv q)) (fun w _ => sum_q d hd q7 (τ (rm (q / 16) (q % 16) m)) _ _ hq7 (hτ _ hr16) w) (fun q8 hq8 => ?_)
         rw [← fld.mul_add p hop, ← vm_next V _ _ m hm2] at hq8
         refine ⟨.dead (.dead (.dead (.cons (.cons (.cons (.dead (.dead (.cons .nil)))))))), ?_⟩
         refine sN 7 (d := ptv q8) rfl (by rw [qo, qo]) (by rw [Array.all_toList]; exact QW _ _ _ _) ?_ (by rw [qo]; kernel_rfl)
         refine ⟨.dead (.dead (.dead (.cons (.cons (.cons (.dead (.dead (.cons .nil)))))))), ?_⟩
         refine .as ((m + 1 : Nat) : Int) (by (try push_cast); (try omega)) (by simp only [mn]; omega) (by simp only [mx]; omega) ?_
         exact ⟨(m + 1, q8), ⟨by simp only; omega, hq8⟩, by simp only; omega, ⟨⟨rfl, rfl, rfl, rfl, rfl, trivial⟩, .refl _, rfl⟩⟩
     · obtain rfl : m = 2 := by (try simp only at h); omega
       refine ⟨q6, ?_, .drop (.drop (.drop (.drop (.drop (.drop (.drop (.cons (.cons .nil)))))))), fun e he x hx hn => absurd ?_ hn⟩
       · show PtQ q6 (qS qF fd p (n / 256 ^ (32 - (k + 1))))
         rw [← hnx, show 256 * V + q = vm V (q / 16) (q % 16) 2 by show _ = 16 * (16 * V + q / 16) + q % 16; omega]; exact hq6
       · rw [List.mem_singleton.1 he] at hx ⊢; simpa using hx
   · intro k q b0 hf hq
     obtain rfl : k = 32 := hf
     rw [Nat.sub_self, Nat.pow_zero, Nat.div_one] at hq
     refine ldN 7 rfl (qo _ _ _ _) ?_
     refine sN 2 (d := ptv q) rfl (by rw [qo]; rfl) (by rw [Array.all_toList]; exact QW _ _ _ _) ?_ (by rw [qo]; kernel_rfl)
     refine .mk 8 rfl ?_
     refine ldN 2 rfl (qo _ _ _ _) ?_
     exact ⟨fun w1 hs => ⟨q, hq, rfl, hs.below⟩⟩
end
section
open Go.RowKit Go.Lib
theorem dg0_tm (r b : Nat) (h : r % 2 = b) : (dg 4096 r 0).tmod 2 = (b : Int) := by
 rw [Int.tmod_eq_emod_of_nonneg (qac r 0)]
 have hz0 : dg 4096 r 0 % 2 = ((r % 2 : Nat) : Int) := by unfold dg; rw [Nat.pow_zero, Nat.div_one]; omega
 rw [hz0, h]
open Go.Sx
theorem rkeyp_any (X Y Z T : Nat) (hX : X < PP) (hY : Y < PP) (hZ : Z < PP) (w : World) :
 Calls Tryz.prog 44 #[.agg (rp X Y Z T)] w fun e w' => e = .returned (.agg (k32 (keyn X Y Z))) ∧ Below w.heap.size w w' := by
 have hov1 := fun w => qeH Y Z hY hZ w
 have hov2 := fun w => qeH X Z hX hZ w
 obtain ⟨QY, hQY⟩ : ∃ q, q = Y * pwm Z (PP - 2) % PP := ⟨_, rfl⟩
 obtain ⟨QX, hQX⟩ : ∃ q, q = X * pwm Z (PP - 2) % PP := ⟨_, rfl⟩
 rw [← hQY] at hov1
 rw [← hQX] at hov2
 have hQp : QY < PP := by rw [hQY]; exact Nat.mod_lt _ qw
 have hQl : QY < 57896044618658097711785492504343953926634992332820282019728792003956564819968 := Nat.lt_trans hQp PP_255
 refine qj (vs := [.agg (rp X Y Z T)]) qc Tryz.func44 rfl Tryz.ntmps44 rfl (St.start w) ?_
 intro b1 b2
 refine ldP 0 (d := r22 Y) rfl (qg _) (by exact rp_yx _ _ _ _) ?_
 refine ldP 0 (d := r22 Z) rfl (qg _) (by exact rp_zx _ _ _ _) ?_
 refine cv hov1 ?_
 refine cv (fun w => rkey_any QY (PP_256 QY hQp) w) ?_
 intro b3
 refine sN 2 (d := k32 QY) rfl (by rw [qf]; rfl) (qaa _) ?_ (by kernel_rfl)
 refine ldP 0 (d := r22 X) rfl (qg _) (by exact rp_xx _ _ _ _) ?_
 refine ldP 0 (d := r22 Z) rfl (qg _) (by exact rp_zx _ _ _ _) ?_
 refine cv hov2 ?_
 refine ⟨by decide, by decide, .cell _ rfl (by exact qP .i64 22 _ 0 (by decide)) ?_⟩
 refine ⟨qac _ _, by have := (qad 4096 QX 0 (by decide)).2; simp only [mx]; omega, by decide, ?_⟩
 rcases Nat.mod_two_eq_zero_or_one QX with hp | hp
 · have htm : dg 4096 QX 0 % 2 = (0 : Nat) := by rw [← dg0_tm QX 0 hp, Int.tmod_eq_emod_of_nonneg (qac QX 0)]
   refine cf (by rw [htm]; rfl) ?_
   refine ldN 2 rfl (qf _) ?_
   refine sN 1 (d := k32 QY) rfl (by rw [qf]; rfl) (qaa _) ?_ (by kernel_rfl)
   refine ldN 1 rfl (qf _) ?_
   refine rt ?_
   rw [hQX] at hp
   rw [hQY, qeT X Y Z hp]; rfl
 · have htm : dg 4096 QX 0 % 2 = (1 : Nat) := by rw [← dg0_tm QX 1 hp, Int.tmod_eq_emod_of_nonneg (qac QX 0)]
   refine ct (by rw [htm]; rfl) ?_
   obtain ⟨c, hc, hcl⟩ := qeb QY hQl
   refine ⟨by decide, by decide, ?_⟩
   refine ld1 2 rfl (v := .int .u8 c) (by rw [← hc]; exact qP .u8 32 _ 31 (by decide)) ?_
   refine .as ((c : Int) + 128) rfl (by simp only [mn]; omega) (by simp only [mx]; omega) ?_
   refine ⟨by decide, by decide, ?_⟩
   refine s1e 2 (k32 (QY + 57896044618658097711785492504343953926634992332820282019728792003956564819968)) rfl (by rw [qf]; decide) (by rw [← key_top QY hQl ((c : Int) + 128) (by rw [hc])]; exact zS _ _ _ _ _) ?_
   refine ldN 2 rfl (qf _) ?_
   refine sN 1 (d := k32 (QY + 57896044618658097711785492504343953926634992332820282019728792003956564819968)) rfl (by rw [qf]; rfl) (qaa _) ?_ (by kernel_rfl)
   refine ldN 1 rfl (qf _) ?_
   refine rt ?_
   rw [hQX] at hp
   rw [hQY, keyn_odd X Y Z hp]; rfl
end
section
open Go.RowKit Go.Lib
def negA (p : Fin PP × Fin PP) : Fin PP × Fin PP := (-p.1, p.2)
def PtG (p : Fin PP × Fin PP) (w : World) (e : Ending) (w' : World) : Prop := ∃ x y z b, PtA x y z b p ∧ e = .returned (.agg (pt x y z b)) ∧ Below w.heap.size w w'
def RqG (p : Fin PP × Fin PP) (w : World) (e : Ending) (w' : World) : Prop := ∃ X Y Z T : Nat, Rq X Y Z T p ∧ e = .returned (.agg (rp X Y Z T)) ∧ Below w.heap.size w w'
theorem ptp_g {X Y Z : Nat} {p : Fin PP × Fin PP} (h : Rep X Y Z p) {w w' : World} {e : Ending} (hp : PtP X Y Z w e w') : PtG p w e w' :=
 let ⟨x, y, z, b, h1, h2, h3⟩ := hp; ⟨x, y, z, b, ⟨X, Y, Z, h1, h⟩, h2, h3⟩
theorem g_gen (w : World) : Calls Tryz.prog 123 #[] w (PtG gG w) := (gen_any w).mono fun _ _ h => ptp_g qc9 h
theorem ispt_lt {x y z : Nat} {b : Bool} {X Y Z : Nat} (h : zI x y z b X Y Z) : X < PP := by
 obtain ⟨_, ⟨_, hx, _⟩ | ⟨_, hx, _⟩⟩ := h <;> (rw [← hx]; exact Nat.mod_lt _ qw)
theorem g_minus (x1 y1 z1 : Nat) (b1 : Bool) (p : Fin PP × Fin PP) (h1 : PtA x1 y1 z1 b1 p) (x2 y2 z2 : Nat) (b2 : Bool) (q : Fin PP × Fin PP) (h2 : PtA x2 y2 z2 b2 q) (w : World) :
 Calls Tryz.prog 125 #[.agg (pt x1 y1 z1 b1), .agg (pt x2 y2 z2 b2)] w (PtG (QL qF fd p (negA q)) w) := by
 obtain ⟨X1, Y1, Z1, i1, r1⟩ := h1
 obtain ⟨X2, Y2, Z2, i2, r2⟩ := h2
 exact (pminus_any x1 y1 z1 b1 X1 Y1 Z1 i1 x2 y2 z2 b2 X2 Y2 Z2 i2 w).mono fun _ _ h => ptp_g (qbJ _ _ _ _ _ _ p (negA q) r1 (neg_rep X2 Y2 Z2 q r2 (ispt_lt i2))) h
theorem g_key (x y z : Nat) (b : Bool) (p : Fin PP × Fin PP) (h : PtA x y z b p) (w : World) :
 Calls Tryz.prog 126 #[.agg (pt x y z b)] w fun e w' => e = .returned (.agg (k32 (qaM p))) ∧ Below w.heap.size w w' := by
 obtain ⟨X, Y, Z, i, r⟩ := h
 have := pkey_any x y z b X Y Z i w
 rw [keyn_rep X Y Z p r] at this
 exact this
theorem keyP_lt (p : Fin PP × Fin PP) : qaM p < 115792089237316195423570985008687907853269984665640564039457584007913129639936 := by
 have h1 := p.2.isLt
 have h2 : p.1.val % 2 < 2 := Nat.mod_lt _ (by decide)
 have := PP_255
 unfold qaM; omega
def qeu (n : Nat) : Fin PP × Fin PP := (fi (cof n).2.1, fi (cof n).2.2)
theorem cofP_key (p : Fin PP × Fin PP) (h : OnP fd p) : qeu (qaM p) = p := by
 unfold qeu; rw [cof_keyP p h]; exact Prod.ext (Q5 _) (Q5 _)
theorem g_of (n : Nat) (hn : n < 115792089237316195423570985008687907853269984665640564039457584007913129639936) (w : World) :
 Calls Tryz.prog 119 #[.agg (k32 n)] w fun e w' => ∃ x y z b, PtA x y z b (qeu n) ∧ e = .returned (.tuple #[.agg (pt x y z b), .bool (cof n).1]) ∧ Below w.heap.size w w' := by
 refine (pof_any n hn w).mono ?_
 rintro e w' ⟨x, y, z, b, h1, h2, h3⟩
 rw [qaJ] at h1
 exact ⟨x, y, z, b, ⟨_, _, _, h1, cof_rep n⟩, h2, h3⟩
theorem g_many (x y z n : Nat) (b : Bool) (p : Fin PP × Fin PP) (hp : PtA x y z b p) (hn : n < 115792089237316195423570985008687907853269984665640564039457584007913129639936) (w : World) :
 Calls Tryz.prog 124 #[.agg (pt x y z b), .agg (k32 n)] w (PtG (qS qF fd p n) w) := pmany_any x y z n b p hp hn w
theorem gr_key (X Y Z T : Nat) (p : Fin PP × Fin PP) (h : Rq X Y Z T p) (w : World) :
 Calls Tryz.prog 44 #[.agg (rp X Y Z T)] w fun e w' => e = .returned (.agg (k32 (qaM p))) ∧ Below w.heap.size w w' := by
 obtain ⟨⟨r, _⟩, x, y, z, _⟩ := h
 have := rkeyp_any X Y Z T x y z w
 rw [keyn_rep X Y Z p r] at this
 exact this
theorem gr_many (X Y Z T n : Nat) (p : Fin PP × Fin PP) (hp : Rq X Y Z T p) (hn : n < 115792089237316195423570985008687907853269984665640564039457584007913129639936) (w : World) :
 Calls Tryz.prog 45 #[.agg (rp X Y Z T), .agg (k32 n)] w (RqG (qS qF fd p n) w) := rmany_any X Y Z T n p hp hn w
theorem qd3 : OnP fd gG := qc9.2.2.2
theorem mul_LL : qS qF fd gG LL = (0, 1) := by
 have h := pmul_rep (GX, GY, 1) gG qc9 253 LL (by decide +kernel)
 obtain ⟨hx, hy, hz, _⟩ := h
 obtain ⟨o1, o2⟩ := order_val
 have e1 : fi (qdK (GX, GY, 1) 253 LL).1 = 0 := by rw [← Zg]; exact (ZN _ _).2 (o1.trans (Nat.zero_mod _).symm)
 have e2 : fi (qdK (GX, GY, 1) 253 LL).2.1 = fi (qdK (GX, GY, 1) 253 LL).2.2 := (ZN _ _).2 o2
 rw [e1] at hx
 rw [e2] at hy
 refine Prod.ext ?_ ?_
 · exact (fld.dom _ _ hx.symm).resolve_right hz
 · exact fld.cancel _ _ _ hz (by rw [← hy]; grind)
theorem mul_rest (n : Nat) : qS qF fd gG (n % LL) = qS qF fd gG n := by
 have h : qS qF fd gG n = QL qF fd (qS qF fd gG (LL * (n / LL))) (qS qF fd gG (n % LL)) := by
  rw [← fld.mul_add gG qd3, Nat.div_add_mod]
 rw [h, ← fld.mul_mul gG qd3, mul_LL]
 have h0 : ∀ k, qS qF fd ((0, 1) : Fin PP × Fin PP) k = (0, 1) := by
  intro k
  induction k with
  | zero => rfl
  | succ k ih => show QL qF fd (qS qF fd (0, 1) k) (0, 1) = (0, 1); rw [ih, fld.add_zero _ qbK]
 rw [h0, fld.zero_add _ (fld.on_mul gG qd3 _)]
end
section
open Go.RowKit Go.Sx
theorem pg {g : FuncId} {vs : Array Value} {w : World} {p : Fin PP × Fin PP} (h : Calls Tryz.prog g vs w (PtG p w)) : Calls Tryz.prog g vs w fun e w' => ∃ x : Nat × Nat × Nat × Bool, PtA x.1 x.2.1 x.2.2.1 x.2.2.2 p ∧ e = .returned (.agg (pt x.1 x.2.1 x.2.2.1 x.2.2.2)) ∧ Below w.heap.size w w' :=
 h.mono fun e w' ⟨x, y, z, b, h1, h2, h3⟩ => ⟨(x, y, z, b), h1, h2, h3⟩
theorem qv (n : Nat) : (k32 n).toList.all (·.oneCell') = true := by rw [qbq]; exact Zj _
def resN (bs : List UInt8) : Nat := leN (shaB bs) % L0
theorem sresidue_any (w : World) (v : Value) (bs : List UInt8) (h : Parts w v bs) (hn : bs.length ≤ 1000000) : Calls Tryz.prog 164 ([v] : List Value).toArray w fun e w' => e = .returned (.agg (k32 (resN bs))) ∧ Below w.heap.size w w' := by
 have hlen := shaB_len bs
 refine qj qc Tryz.func164 rfl Tryz.ntmps164 rfl (St.start w) ?_
 intro b2
 refine cvs (fun w' hs => long_p (h.below hs.below) hn) ?_
 unfold resN
 generalize shaB bs = D at *
 have hl : (Lib.byteCells D).length = 64 := by rw [Lib.byteCells_length, hlen]
 intro b3
 refine sN 1 rfl (by simp [hl]) (Zj D) ?_ (by kernel_rfl)
 refine ⟨.mk 0 64 64 rfl rfl rfl (by decide) (by decide) (by decide) (by simp) (.on (by decide) ?_)⟩
 refine cvs (v := .tuple #[.agg (k32 (leN D % L0)), .bool true]) (fun w' hs => ?_) ?_
 · have hrd : Rd w' (.slice (some ⟨b3, 0, none⟩) 64 64) (Lib.byteCells D) := Rd.ent hs 1 rfl hl.symm (by rw [List.drop_zero, List.take_of_length_le (by simpa using Nat.le_of_eq hl)])
   obtain ⟨a, c, hv, hb⟩ := byts_of hrd
   rw [hlen] at hv hb
   injection hv with h1 h2 h3
   subst h1 h3
   exact residue_any _ 64 64 (leN D) (by decide) (by rw [← hlen]; exact qcu D) w' hb
 intro b4
 refine sN 2 rfl (by rw [qf]; rfl) (qv _) ?_ (by kernel_rfl)
 refine ldN 2 rfl (qf _) ?_
 refine sN 0 rfl (by rw [qf]; rfl) (qv _) ?_ (by kernel_rfl)
 refine ldN 0 rfl (qf _) ?_
 exact rt rfl
theorem und123 : Tryz.prog.underlying 56 = some (.slice 48) := by kernel_rfl
theorem info_sl : (Tryz.prog.info? 48).map (fun i => (i.zero, i.size, i.bytes)) = some (some (.slice none 0 0), 1, 24) := by kernel_rfl
theorem bss1 (a : Option Addr) (l c : Nat) (w : World) : (Instr.buildSlice 56 1 #[(0, .slice a l c)]).run Tryz.prog w = .ok (.slice (some ⟨w.heap.size, 0, none⟩) 1 1) (w.alloc (.cells #[.slice a l c] 48)) := by
 obtain ⟨i, hi, hz, hs, hb⟩ := Qg info_sl
 exact run_buildSlice w _ _ 1 _ #[.slice a l c] i (.slice none 0 0) und123 hi hz (by rw [hs]; decide) (by rw [hs]; decide) (by rw [hs]; kernel_rfl)
theorem bss2 (a a2 : Option Addr) (l c l2 c2 : Nat) (w : World) : (Instr.buildSlice 56 2 #[(0, .slice a l c), (1, .slice a2 l2 c2)]).run Tryz.prog w = .ok (.slice (some ⟨w.heap.size, 0, none⟩) 2 2) (w.alloc (.cells #[.slice a l c, .slice a2 l2 c2] 48)) := by
 obtain ⟨i, hi, hz, hs, hb⟩ := Qg info_sl
 exact run_buildSlice w _ _ 2 _ #[.slice a l c, .slice a2 l2 c2] i (.slice none 0 0) und123 hi hz (by rw [hs]; decide) (by rw [hs]; decide) (by rw [hs]; kernel_rfl)
theorem bss3 (a a2 a3 : Option Addr) (l c l2 c2 l3 c3 : Nat) (w : World) : (Instr.buildSlice 56 3 #[(0, .slice a l c), (1, .slice a2 l2 c2), (2, .slice a3 l3 c3)]).run Tryz.prog w = .ok (.slice (some ⟨w.heap.size, 0, none⟩) 3 3) (w.alloc (.cells #[.slice a l c, .slice a2 l2 c2, .slice a3 l3 c3] 48)) := by
 obtain ⟨i, hi, hz, hs, hb⟩ := Qg info_sl
 exact run_buildSlice w _ _ 3 _ #[.slice a l c, .slice a2 l2 c2, .slice a3 l3 c3] i (.slice none 0 0) und123 hi hz (by rw [hs]; decide) (by rw [hs]; decide) (by rw [hs]; kernel_rfl)
theorem Zx {M : Bks} {B w : World} {L : List Ent} (hs : St M B w L) (k : Nat) {b n : Nat} {t : TypeId} {fz : Nat × Nat} {ro : Bool} (hk : L[k]? = some ⟨b, some (.cells (k32 n) t fz), ro, none⟩) : Rd w (.slice (some ⟨b, 0, none⟩) 32 32) (Lib.byteCells (qQ n)) := by
 have hl : (Lib.byteCells (qQ n)).length = 32 := by rw [Lib.byteCells_length, qt]
 rw [qbq] at hk
 exact Rd.ent hs k hk hl.symm (by rw [List.drop_zero, List.take_of_length_le (by simpa using Nat.le_of_eq hl)])
def qae (a p : Nat) (bs : List UInt8) : Nat := resN (qQ a ++ qQ p ++ bs)
theorem chal_any (w : World) (a p : Nat) (v : Value) (bs : List UInt8) (hrd : Rd w v (Lib.byteCells bs)) (hn : bs.length ≤ 100000) : Calls Tryz.prog 121 ([.agg (k32 a), .agg (k32 p), v] : List Value).toArray w fun e w' => e = .returned (.agg (k32 (qae a p bs))) ∧ Below w.heap.size w w' := by
 have hrd0 := hrd
 obtain ⟨va, vc, hv, _⟩ := hrd0
 rw [Lib.byteCells_length] at hv
 refine qj qc Tryz.func121 rfl Tryz.ntmps121 rfl (St.start w) ?_
 intro b3 b4 b6
 refine drs [] [5] (.t 0 (.t 1 (.t 2 (.n 3 (.n 4 (.n 5 .nil)))))) qc qe (by kernel_rfl) .nil ?_
 refine ⟨.mk 0 32 32 rfl rfl rfl (by decide) (by decide) (by decide) (by simp) (.on (by decide) ?_)⟩
 refine ⟨.mk 0 32 32 rfl rfl rfl (by decide) (by decide) (by decide) (by simp) (.on (by decide) ?_)⟩
 rw [hv]
 refine .mk #[.slice (some ⟨b3, 0, none⟩) 32 32, .slice (some ⟨b4, 0, none⟩) 32 32, .slice va bs.length vc] 48 (fun w => bss3 _ _ _ _ _ _ _ _ _ w) (fun bn => ?_)
 refine ⟨.nil, ?_⟩
 refine cvs (v := .agg (k32 (qae a p bs))) (fun w' hs => sresidue_any w' _ (qQ a ++ qQ p ++ bs) (Parts.made hs 3 [Lib.byteCells (qQ a), Lib.byteCells (qQ p), Lib.byteCells bs] 3 rfl rfl rfl (by simp [Lib.byteCells_append]) (fun i u xs hu hx => ?_) (by simp)) (by simp [qt]; omega)) ?_
 · match i, hu, hx with
   | 0, hu, hx => simp at hu hx; subst hu hx; exact Zx hs 0 rfl
   | 1, hu, hx => simp at hu hx; subst hu hx; exact Zx hs 1 rfl
   | 2, hu, hx => simp at hu hx; subst hu hx; rw [← hv]; exact hrd.below hs.below
 refine ⟨.nil, ?_⟩
 refine sN 2 rfl (by rw [qf]; rfl) (qv _) ?_ (by kernel_rfl)
 refine ldN 2 rfl (qf _) ?_
 exact rt rfl
end
section
open Go.RowKit Go.Sx
def qaS (l : List UInt8) : List UInt8 := (l.set 0 (UInt8.ofNat ((l.getD 0 0).toNat - (l.getD 0 0).toNat % 8))).set 31 (UInt8.ofNat ((l.getD 31 0).toNat % 64 + 64))
theorem qee (l : List UInt8) : (qaS l).length = l.length := by simp [qaS]
def secB (n : Nat) : List UInt8 := qaS ((shaB (qQ n)).take 32)
def qdt (n : Nat) : Nat := leN (secB n)
def qdu (n : Nat) : List UInt8 := (shaB (qQ n)).drop 32
theorem secB_len (n : Nat) : (secB n).length = 32 := by unfold secB; rw [qee, List.length_take, shaB_len]; rfl
theorem qci (n : Nat) : (qdu n).length = 32 := by unfold qdu; rw [List.length_drop, shaB_len]
theorem secN_lt (n : Nat) : qdt n < 115792089237316195423570985008687907853269984665640564039457584007913129639936 := by
 have := qcu (secB n)
 rw [secB_len] at this
 exact this
def pubP (n : Nat) : Fin PP × Fin PP := qS qF fd gG (qdt n)
def zb (n : Nat) : Nat := qaM (pubP n)
theorem bytes_set (l : List UInt8) (i : Nat) (b : UInt8) : (Lib.byteCells l).set i (.int .u8 b.toNat) = Lib.byteCells (l.set i b) := by unfold Lib.byteCells; rw [List.map_set]
end
section
open Go.RowKit Go.Sx
def rndN (n : Nat) (bs : List UInt8) : Nat := resN (qdu n ++ bs)
def firP (n : Nat) (bs : List UInt8) : Fin PP × Fin PP := qS qF fd gG (rndN n bs)
def qc4 (n : Nat) (bs : List UInt8) : Nat := qaM (firP n bs)
def sndN (n : Nat) (bs : List UInt8) : Nat := (qae (qc4 n bs) (zb n) bs * qdt n + rndN n bs) % L0
def qem (n : Nat) (bs : List UInt8) : List UInt8 := qQ (qc4 n bs) ++ qQ (sndN n bs)
theorem L0_lt : L0 < 115792089237316195423570985008687907853269984665640564039457584007913129639936 := by decide +kernel
theorem resN_lt (bs : List UInt8) : resN bs < 115792089237316195423570985008687907853269984665640564039457584007913129639936 := Nat.lt_trans (Nat.mod_lt _ (by decide +kernel)) L0_lt
end
section
open Go.RowKit Go.Sx
def qaB (D : List UInt8) : Nat := leN (D.take 32)
def qaE (D : List UInt8) : Nat := leN (D.drop 32)
def qbm (p : Nat) (D : List UInt8) (bs : List UInt8) : Fin PP × Fin PP := QL qF fd (qS qF fd gG (qaE D)) (negA (qS qF fd (qeu p) (qae (qaB D) p bs)))
def qan (p : Nat) (D : List UInt8) (bs : List UInt8) : Bool := (cof p).1 && decide (qaE D < L0) && decide (qaM (qbm p D bs) = qaB D)
theorem half0 (D : List UInt8) (h : D.length = 64) : (Lib.byteCells D).toArray.extract 0 (0 + 32) = k32 (qaB D) := by
 unfold qaB
 rw [← qaf _ (by rw [List.length_take, h]; rfl)]
 simp [Lib.byteCells, List.map_take]
theorem half1 (D : List UInt8) (h : D.length = 64) : (Lib.byteCells D).toArray.extract 32 (32 + 32) = k32 (qaE D) := by
 unfold qaE
 rw [← qaf _ (by rw [List.length_drop, h])]
 apply Array.ext'
 simp only [List.extract_toArray, List.extract_eq_take_drop, Lib.byteCells, List.map_drop]
 exact List.take_of_length_le (by simp [h])
theorem sigF_lt (D : List UInt8) (h : D.length = 64) : qaB D < 115792089237316195423570985008687907853269984665640564039457584007913129639936 := by
 have := qcu (D.take 32)
 rw [List.length_take, h] at this; exact this
theorem sigS_lt (D : List UInt8) (h : D.length = 64) : qaE D < 115792089237316195423570985008687907853269984665640564039457584007913129639936 := by
 have := qcu (D.drop 32)
 rw [List.length_drop, h] at this; exact this
theorem leN_go (k : Nat) : ∀ n, leN ((List.range k).map fun i => UInt8.ofNat (n / 256 ^ i % 256)) = n % 256 ^ k := by
 induction k with
 | zero => intro n; rw [Nat.pow_zero, Nat.mod_one]; rfl
 | succ k ih =>
  intro n
  rw [List.range_succ_eq_map, List.map_cons, List.map_map, leN]
  have e : ((fun i => UInt8.ofNat (n / 256 ^ i % 256)) ∘ Nat.succ) = fun i => UInt8.ofNat (n / 256 / 256 ^ i % 256) := by
   funext i
   show UInt8.ofNat (n / 256 ^ (i + 1) % 256) = _
   rw [Nat.pow_succ, Nat.mul_comm, ← Nat.div_div_eq_div_mul]
  rw [e, ih (n / 256), Nat.pow_succ, Nat.mul_comm (256 ^ k), Nat.mod_mul, UInt8.toNat_ofNat']
  simp
theorem qbS (n : Nat) (h : n < 115792089237316195423570985008687907853269984665640564039457584007913129639936) : leN (qQ n) = n := by
 unfold qQ
 rw [leN_go]; exact Nat.mod_eq_of_lt h
theorem le32_inj (a b : Nat) (ha : a < 115792089237316195423570985008687907853269984665640564039457584007913129639936) (hb : b < 115792089237316195423570985008687907853269984665640564039457584007913129639936) : qQ a = qQ b ↔ a = b := by
 have key := qbS
 constructor
 · intro h; rw [← key a ha, ← key b hb, h]
 · rintro rfl; rfl
theorem eq_k32 {C : Cx} {L : List Ent} {m n : Nat} {a b : Operand} {next : Value → List Ent → Prop} (hP : C.P = Tryz.prog) (hm : m < 115792089237316195423570985008687907853269984665640564039457584007913129639936) (hn : n < 115792089237316195423570985008687907853269984665640564039457584007913129639936) (go : next (.bool (decide (m = n))) L) :
 ZV C (do eqGuard .eql 36 a b (.agg (k32 m)) (.agg (k32 n)); binOp .eql 36 (.agg (k32 m)) (.agg (k32 n))) L next := by
 rw [qbq, qbq]
 refine eqB (e := 5) (n := 32) (by rw [hP]; kernel_rfl) (by rw [hP]; kernel_rfl) (by rw [hP]; kernel_rfl) (by rw [hP]; kernel_rfl) (qt m) (qt n) ?_
 rw [show decide (qQ m = qQ n) = decide (m = n) from decide_eq_decide.2 (le32_inj m n hm hn)]
 exact go
theorem one_bool (b : Bool) : oneOf [.bool b] = .bool b := rfl
theorem Qm (p : Nat) (hp : p < 115792089237316195423570985008687907853269984665640564039457584007913129639936) (D : List UInt8) (hD : D.length = 64) (v : Value) (bs : List UInt8) (w : World) (h : Parts w v bs) (hn : bs.length ≤ 10000) :
 Calls Tryz.prog 84 ([.agg (k32 p), qdg D, v] : List Value).toArray w fun e w' => e = .returned (.bool (qan p D bs)) ∧ Below w.heap.size w w' := by
 have hof := fun w => (g_of p hp w).mono (fun e w' ⟨x, y, z, b, h1, h2, h3⟩ => (⟨(x, y, z, b), h1, h2, h3⟩ : ∃ x : Nat × Nat × Nat × Bool, PtA x.1 x.2.1 x.2.2.1 x.2.2.2 (qeu p) ∧ e = Ending.returned (.tuple #[.agg (pt x.1 x.2.1 x.2.2.1 x.2.2.2), .bool (cof p).1]) ∧ Below w.heap.size w w'))
 have hF := sigF_lt D hD
 have hS := sigS_lt D hD
 have hls := fun w => kleast_any (qaE D) hS w
 have hf0 := half0 D hD
 have hf1 := half1 D hD
 have hrb : qan p D bs = ((cof p).1 && decide (qaE D < L0) && decide (qaM (qbm p D bs) = qaB D)) := rfl
 have hm1 := fun x y z b h w => pg (g_many x y z (qaE D) b gG h hS w)
 have hm2 := fun x y z b h w => pg (g_many x y z (qae (qaB D) p bs) b (qeu p) h (resN_lt _) w)
 have hmi := fun x1 y1 z1 b1 h1 x2 y2 z2 b2 h2 w => pg (g_minus x1 y1 z1 b1 (qS qF fd gG (qaE D)) h1 x2 y2 z2 b2 (qS qF fd (qeu p) (qae (qaB D) p bs)) h2 w)
 have hky := fun x y z b h w => g_key x y z b (qbm p D bs) h w
 have hkl := keyP_lt (qbm p D bs)
 rw [hrb]
 have hch : ∀ w' v', Rd w' v' (Lib.byteCells bs) → Calls Tryz.prog 121 ([.agg (k32 (qaB D)), .agg (k32 p), v'] : List Value).toArray w' fun e w'' => e = .returned (.agg (k32 (qae (qaB D) p bs))) ∧ Below w'.heap.size w' w'' := fun w' v' hr => chal_any w' (qaB D) p v' bs hr (by omega)
 unfold qbm at hky hkl ⊢
 generalize qaB D = F at *
 generalize qaE D = S at *
 generalize qae F p bs = H at *
 generalize hA : qS qF fd gG S = A at *
 generalize hB : qS qF fd (qeu p) H = B at *
 generalize QL qF fd A (negA B) = Q at *
 generalize qeu p = P at *
 generalize (cof p).1 = ok at *
 refine qj qc Tryz.func84 rfl Tryz.ntmps84 rfl (St.start w) ?_
 intro b3 b4
 refine cutp (α := Nat × Nat) (fun _ => True) (fun x => ⟨[(2, v), (3, ptr b3), (4, ptr b4), (7, ptr x.1), (8, ptr x.2)], [cl b3 (k32 p) 36, cl x.1 (k32 F) 36, cl x.2 (k32 S) 36], []⟩) ?_ ?_
 · refine drs [dead, cl b4 (Lib.byteCells D).toArray 41] [9] (.t 0 (.t 1 (.t 2 (.t 3 (.t 4 (.t 5 (.b 6 7 (.n 7 (.n 8 (.n 9 .nil))) (.n 6 (.n 8 (.n 9 .nil)))))))))) qc qe (by kernel_rfl) (.dead (.cons .nil)) ?_
   refine ⟨.mk 0 32 64 rfl rfl rfl (by decide) (by decide) (by decide) (by simp) (.on (by decide) ?_)⟩
   refine ⟨by decide, ?_⟩
   refine ldP 1 rfl (d := k32 F) (qf _) hf0 ?_
   refine ⟨.mk 32 64 64 rfl rfl rfl (by decide) (by decide) (by decide) (by simp) (.on (by decide) ?_)⟩
   refine ⟨by decide, ?_⟩
   refine ldP 1 rfl (d := k32 S) (qf _) hf1 ?_
   refine ⟨?_, ?_⟩
   · intro b7
     refine ⟨.dead (.cons .nil), ?_⟩
     intro b8
     refine ⟨.dead (.cons .nil), ?_⟩
     refine sN 2 rfl (by rw [qf]; rfl) (qv _) ?_ (by kernel_rfl)
     refine ⟨.dead (.cons .nil), ?_⟩
     refine sN 3 rfl (by rw [qf]; rfl) (qv _) ?_ (by kernel_rfl)
     exact ⟨(b7, b8), trivial, ⟨rfl, rfl, rfl, rfl, rfl, trivial⟩, ⟨_, .refl _, .cons (.drop (.cons (.cons .nil)))⟩, rfl⟩
   · intro b8
     refine ⟨.dead (.cons .nil), ?_⟩
     intro b7
     refine ⟨.dead (.cons .nil), ?_⟩
     refine sN 3 rfl (by rw [qf]; rfl) (qv _) ?_ (by kernel_rfl)
     refine ⟨.dead (.cons .nil), ?_⟩
     refine sN 2 rfl (by rw [qf]; rfl) (qv _) ?_ (by kernel_rfl)
     exact ⟨(b7, b8), trivial, ⟨rfl, rfl, rfl, rfl, rfl, trivial⟩, ⟨[cl b3 (k32 p) 36, cl b8 (k32 S) 36, cl b7 (k32 F) 36], .cons _ (.swap _ _ _), .cons (.drop (.cons (.cons .nil)))⟩, rfl⟩
 · rintro ⟨b7, b8⟩ _
   refine ldN 0 rfl (qf _) ?_
   refine ce (fun w _ => hof w) (fun g hg => ?_)
   intro b9
   refine sN 3 rfl (by rw [qo]; rfl) (by rw [Array.all_toList]; exact QW _ _ _ _) ?_ (by kernel_rfl)
   cases ok with
   | false =>
    refine cf rfl ?_
    refine cf rfl ?_
    refine cf rfl ?_
    refine ct rfl ?_
    refine ct rfl ?_
    exact rt rfl
   | true =>
    refine ct rfl ?_
    refine ldN 2 rfl (qf _) ?_
    refine ct rfl ?_
    refine cv (fun w => hls w) ?_
    refine ct rfl ?_
    refine cf rfl ?_
    cases hSL : decide (S < L0) with
    | false =>
     refine ct rfl ?_
     exact rt rfl
    | true =>
     refine cf rfl ?_
     refine cut (α := Nat) (fun _ => True) (fun b11 => ⟨[(2, v), (3, ptr b3), (7, ptr b7), (8, ptr b8), (9, ptr b9), (11, ptr b11)], [dead, cl b7 (k32 F) 36, cl b8 (k32 S) 36, cl b9 (pt g.1 g.2.1 g.2.2.1 g.2.2.2) 182, cl b11 (k32 H) 36], []⟩) ?_ ?_
     · refine drs [cl b3 (k32 p) 36, cl b7 (k32 F) 36] [6] (.t 0 (.t 1 (.t 2 (.b 3 5 (.b 4 5 (.n 5 (.n 6 .nil)) (.n 4 (.n 6 .nil))) (.n 3 (.n 4 (.n 6 .nil))))))) qc qe (by kernel_rfl) (.cons (.cons .nil)) ?_
       refine ldN 1 rfl (qf _) ?_
       refine ldN 0 rfl (qf _) ?_
       refine ⟨?_, ?_⟩
       · refine co (fun w' hs => concat_p (h.below hs.below) (by omega)) (fun r hr => ?_)
         refine ⟨.cons (.cons .nil), ?_⟩
         refine ⟨?_, ?_⟩
         · refine cvs (fun w' hs => hch w' _ (Rd.own hs 4 rfl hr)) ?_
           refine ⟨.cons (.cons .nil), ?_⟩
           intro b11
           refine ⟨.cons (.cons .nil), ?_⟩
           refine sN 5 rfl (by rw [qf]; rfl) (qv _) ?_ (by kernel_rfl)
           exact ⟨b11, trivial, ⟨rfl, rfl, rfl, rfl, rfl, rfl, trivial⟩, .dead (.cons (.cons (.cons (.drop (.cons .nil))))), rfl⟩
         · intro b11
           refine ⟨.cons (.cons .nil), ?_⟩
           refine cvs (fun w' hs => hch w' _ (Rd.own hs 4 rfl hr)) ?_
           refine ⟨.cons (.cons .nil), ?_⟩
           refine sN 5 rfl (by rw [qf]; rfl) (qv _) ?_ (by kernel_rfl)
           exact ⟨b11, trivial, ⟨rfl, rfl, rfl, rfl, rfl, rfl, trivial⟩, .dead (.cons (.cons (.cons (.drop (.cons .nil))))), rfl⟩
       · intro b11
         refine ⟨.cons (.cons .nil), ?_⟩
         refine co (fun w' hs => concat_p (h.below hs.below) (by omega)) (fun r hr => ?_)
         refine ⟨.cons (.cons .nil), ?_⟩
         refine cvs (fun w' hs => hch w' _ (Rd.own hs 5 rfl hr)) ?_
         refine ⟨.cons (.cons .nil), ?_⟩
         refine sN 4 rfl (by rw [qf]; rfl) (qv _) ?_ (by kernel_rfl)
         exact ⟨b11, trivial, ⟨rfl, rfl, rfl, rfl, rfl, rfl, trivial⟩, .dead (.cons (.cons (.cons (.cons .nil)))), rfl⟩
     · intro b11 _
       refine drs [dead, cl b7 (k32 F) 36, cl b8 (k32 S) 36, cl b9 (pt g.1 g.2.1 g.2.2.1 g.2.2.2) 182, cl b11 (k32 H) 36] [] (.t 1 (.t 3 (.t 4 (.t 8 (.n 0 (.n 2 (.n 5 (.n 6 (.n 7 (.n 9 (.n 10 .nil))))))))))) qc qe (by kernel_rfl) (.dead (.cons (.cons (.cons (.cons .nil))))) ?_
       have hK : ∀ L' : List Ent, Sub [dead, cl b7 (k32 F) 36, cl b8 (k32 S) 36, cl b9 (pt g.1 g.2.1 g.2.2.1 g.2.2.2) 182, cl b11 (k32 H) 36] ([dead, cl b7 (k32 F) 36, cl b8 (k32 S) 36, cl b9 (pt g.1 g.2.1 g.2.2.1 g.2.2.2) 182, cl b11 (k32 H) 36] ++ L') := fun L' => qk _
       refine ldN 2 rfl (qf _) ?_
       refine ldN 3 rfl (qo _ _ _ _) ?_
       refine ldN 4 rfl (qf _) ?_
       refine ldN 1 rfl (qf _) ?_
       refine ce (fun w _ => pg (g_gen w)) (fun q hq => ?_)
       refine ⟨hK [], ?_⟩
       refine ce (fun w _ => hm1 _ _ _ _ hq w) (fun q1 hq1 => ?_)
       refine ⟨hK [], ?_⟩
       refine ce (fun w _ => hm2 _ _ _ _ hg w) (fun q2 hq2 => ?_)
       refine ⟨hK [], ?_⟩
       refine ce (fun w _ => hmi _ _ _ _ hq1 _ _ _ _ hq2 w) (fun q3 hq3 => ?_)
       refine ⟨hK [], ?_⟩
       refine cv (fun w => hky _ _ _ _ hq3 w) ?_
       refine ⟨hK [], ?_⟩
       generalize qaM Q = kq at *
       refine eq_k32 (m := kq) (n := F) rfl hkl hF ?_
       refine ⟨hK [], ?_⟩
       refine ⟨hK [], ?_⟩
       refine rt ?_
       rw [Bool.and_self, Bool.true_and]
       exact one_bool _
end
section
open Go.RowKit Go.Sx
abbrev TB : Nat := 228
theorem infoTB : (Tryz.prog.info? TB).map (·.size) = some 2 := by kernel_rfl
theorem undPB : Tryz.prog.underlying 226 = some (.pointer TB) := by kernel_rfl
theorem undUP : Tryz.prog.underlying 331 = some .unsafePointer := by kernel_rfl
theorem undP8 : Tryz.prog.underlying 292 = some (.pointer 5) := by kernel_rfl
theorem cells8 : Tryz.prog.cellsOf 5 = 1 := by kernel_rfl
theorem liesTB : liesAt Tryz.prog Tryz.prog.depth TB (2 / Tryz.prog.cellsOf TB) 0 TB 1 = true := by kernel_rfl
theorem shapeTB {w : World} {b : Nat} {c : Array Value} (h : w.heap[b]? = some (.cells c TB (0, 0))) (hc : c.size = 2) : w.shape? b = some (TB, 2) := by simp [World.shape?, h, hc]
theorem toUp (w : World) (b : Nat) (h : w.shape? b = some (TB, 2)) : (convert 226 331 (ptr b)).run Tryz.prog w = .ok (ptr b) w := by
 cases hi : Tryz.prog.info? TB with
 | none => have := infoTB; rw [hi] at this; cases this
 | some i => have h2 := infoTB; rw [hi] at h2; exact Lib.run_to_unsafe w ⟨b, 0, none⟩ undPB undUP hi (by have h3 : i.size = 2 := Option.some.inj h2; omega) h (Nat.zero_lt_succ 1)
theorem fromUp (w : World) (b : Nat) (h : w.shape? b = some (TB, 2)) : (convert 331 226 (ptr b)).run Tryz.prog w = .ok (ptr b) w := by
 cases hi : Tryz.prog.info? TB with
 | none => have := infoTB; rw [hi] at this; cases this
 | some i => exact Lib.run_from_unsafe w ⟨b, 0, none⟩ undUP undPB hi h liesTB
theorem neqP (w : World) (b : Nat) : (binOp .neq 226 (ptr b) (ptr b)).run Tryz.prog w = .ok (.bool false) w := by
 cases hi : Tryz.prog.info? TB with
 | none => have := infoTB; rw [hi] at this; cases this
 | some i => exact Lib.run_neq_ptr_same w ⟨b, 0, none⟩ undPB hi
theorem noEsc (w : World) (v : Value) : (callFunc 245 #[v]).run Tryz.prog w = .ok (.value v) w := by
 rw [run_callFunc_extern Tryz.func245 (by kernel_rfl) (by kernel_rfl) (by kernel_rfl) (e := Extern.AbiNoEscape.same) (by kernel_rfl)]
 rfl
section
variable {N : Nat} {M : Bks} {B : World} {F : Option Nat} {L : List Ent} {next : Value → List Ent → Prop}
theorem bCheck (k : Nat) {b : Nat} {p s : Value} (hk : L[k]? = some (cl b #[p, s] TB)) (hp : p = .pointer none ∨ p = ptr b) (go : next (.tuple #[]) (L.set k (cl b #[ptr b, s] TB))) : zJ ⟨Tryz.prog, tab, N, M, B, F⟩ 206 [ptr b] L next := by
 refine inl (C := ⟨Tryz.prog, tab, N, M, B, F⟩) qc Tryz.func206 rfl Tryz.ntmps206 rfl ?_
 rcases hp with rfl | rfl
 · refine ld1 k hk rfl ?_
   refine ct rfl ?_
   refine semV (fun w hs => toUp w b (shapeTB (hs.nth hk) rfl)) ?_
   refine qd9 rfl rfl rfl (fun w hs => noEsc w _) ?_
   refine semV (fun w hs => fromUp w b (shapeTB (hs.nth hk) rfl)) ?_
   refine s1 k hk (Nat.zero_lt_succ 1) ?_
   exact bk go
 · refine ld1 k hk rfl ?_
   refine cf rfl ?_
   refine ld1 k hk rfl ?_
   refine semV (v := .bool false) (fun w hs => ?_) ?_
   · exact neqP w b
   refine cf rfl ?_
   refine bk ?_
   rwa [set_same hk] at go
theorem bs1 (x : Int) (w : World) : (Instr.buildSlice 48 1 #[(0, .int .u8 x)]).run Tryz.prog w = .ok (.slice (some ⟨w.heap.size, 0, none⟩) 1 1) (w.alloc (.cells #[.int .u8 x] 5)) := by
 obtain ⟨i, hi, hz, hs, hb⟩ := Qg Qj
 exact run_buildSlice w _ _ 1 _ #[.int .u8 x] i (.int .u8 0) Zq hi hz (by rw [hs]; decide) (by rw [hs]; decide) (by rw [hs]; kernel_rfl)
theorem bByte (k kr : Nat) {b n : Nat} {p : Value} {r : Sx.Own} {xs : List Value} {x : Int} (hk : L[k]? = some (cl b #[p, sv r n] TB)) (hp : p = .pointer none ∨ p = ptr b) (hr : L[kr]? = some (se r xs 5)) (hkr : k ≠ kr) (hR : Rw 1 n r xs) (hn : n ≤ 1000000000)
 (go : ∀ r', Rw 1 (n + 1) r' (xs ++ [.int .u8 x]) → next .nilIface ((L.set k (cl b #[ptr b, sv r' (n + 1)] TB)).set kr (se r' (xs ++ [.int .u8 x]) 5))) : zJ ⟨Tryz.prog, tab, N, M, B, F⟩ 208 [ptr b, .int .u8 x] L next := by
 refine inl (C := ⟨Tryz.prog, tab, N, M, B, F⟩) qc Tryz.func208 rfl Tryz.ntmps208 rfl ?_
 refine bCheck k hk hp ?_
 refine ld1 k (at_set hk) rfl ?_
 refine .mk _ _ (bs1 x) (fun b' => ?_)
 have hr2 : (L.set k (cl b #[ptr b, sv r n] TB) ++ [cl b' #[.int .u8 x] 5])[kr]? = some (se r xs 5) := at_app (len_set hr hkr)
 refine ap kr (news := [.int .u8 x]) (m := 1) qc rfl Qj rfl hr2 hR (srcE (C := ⟨Tryz.prog, tab, 17, M, B, none⟩) (e' := 5) (tx := 48) (z := 1) rfl qc (src _ (at_new) rfl) rfl (by simp [Value.oneCell'])) (by omega) (by unfold maxLen; omega) (fun r' hR' => ?_)
 have hk3 : ((L.set k (cl b #[ptr b, sv r n] TB) ++ [cl b' #[.int .u8 x] 5]).set kr (se r' (xs ++ [.int .u8 x]) 5))[k]? = some (cl b #[ptr b, sv r n] TB) := len_set (at_app (at_set hk)) (Ne.symm hkr)
 refine s1 k hk3 (Nat.lt_succ_self 1) ?_ (h1 := by cases r' <;> rfl) (hv := by cases r' <;> rfl)
 exact bkS (sub3 hkr hk hr) (go r' hR')
theorem bStr (k kr : Nat) {b : Nat} {p : Value} {r : Sx.Own} {l : List UInt8} (hk : L[k]? = some (cl b #[p, sv r l.length] TB)) (hr : L[kr]? = some (se r (Lib.byteCells l) 5)) (hkr : k ≠ kr) (hR : Rw 1 l.length r (Lib.byteCells l)) (hl : l ≠ [])
 (go : next (.string ⟨l.toArray⟩) (L.set kr dead)) : zJ ⟨Tryz.prog, tab, N, M, B, F⟩ 157 [ptr b] L next := by
 refine inl (C := ⟨Tryz.prog, tab, N, M, B, F⟩) qc Tryz.func157 rfl Tryz.ntmps157 rfl ?_
 cases r with
 | none => have := hR.2; have h0 : l.length = 0 := this; exact absurd (List.eq_nil_of_length_eq_zero h0) hl
 | some q =>
 obtain ⟨g, cap, j⟩ := q
 obtain ⟨h1, h2, h3, h4⟩ := hR
 have hpos : 0 < l.length := List.length_pos_iff.2 hl
 have hk' : (L.set kr dead)[k]? = _ := len_set hk (Ne.symm hkr)
 refine dr (L.set kr dead) 99 (.t 0 (.t 1 (.t 2 (.t 3 (.t 5 (.t 6 (.t 7 (.t 8 (.t 9 (.n 4 (.n 10 (.n 11 .nil)))))))))))) qc qe (by kernel_rfl) (sub_dead kr) ?_
 refine ld1 k hk' rfl ?_
 refine ld1 k hk' rfl ?_
 refine biV rfl (fun w hs => Lib.run_unsafeSliceData_row w _ _ _ _ _ (by omega)) ?_
 refine ⟨sub_dead kr, ?_⟩
 refine biW rfl (fun w hs => ?_)
 have hg := hs.nth hr
 have hw : w.shape? g = some (5, cap) := by simp only [World.shape?, hg]; simp; rw [← List.length_append, h4]; omega
 refine ⟨_, _, L.set kr dead, Lib.run_unsafeString_row w _ _ _ _ undP8 cells8 g cap hw l hl h2 (by unfold maxLen at h3; omega) (fun i x hx => ?_), ?_, ⟨Sub.refl _, ⟨Sub.refl _, bk go⟩⟩⟩
 · rw [Qp, hs.cell hr]
   have hi := (List.getElem?_eq_some_iff.1 hx).1
   obtain rfl : l[i] = x := (List.getElem?_eq_some_iff.1 hx).2
   simp [Lib.byteCells, List.getElem?_append, hi]
 · have hlt := (Array.getElem?_eq_some_iff.1 hg).1
   have hz : l.length ≠ 0 := by omega
   refine hs.lose hr (o' := .cells (Lib.byteCells l ++ j).toArray 5 (0, 0 + l.length)) ?_ ?_ (fun i hi hne => ?_) ?_ ?_ ?_ <;> unfold World.freeze <;> rw [if_neg hz]
   · simp
   · simp [Array.getElem?_modify, hg]
   · simp [Array.getElem?_modify]
     exact fun h => absurd h (Ne.symm hne)
theorem bStr0 (k : Nat) {b c : Nat} {p : Value} {a : Option Addr} (hk : L[k]? = some (cl b #[p, .slice a 0 c] TB)) (ha : a = none ∨ c ≠ 0)
 (go : next (.string ⟨#[]⟩) L) : zJ ⟨Tryz.prog, tab, N, M, B, F⟩ 157 [ptr b] L next := by
 refine inl (C := ⟨Tryz.prog, tab, N, M, B, F⟩) qc Tryz.func157 rfl Tryz.ntmps157 rfl ?_
 refine dr L 99 (.t 0 (.t 1 (.t 2 (.t 3 (.t 5 (.t 6 (.t 7 (.t 8 (.t 9 (.n 4 (.n 10 (.n 11 .nil)))))))))))) qc qe (by kernel_rfl) (Sub.refl L) ?_
 refine ld1 k hk rfl ?_
 refine ld1 k hk rfl ?_
 refine biV (v := .pointer a) rfl (fun w hs => ?_) ?_
 · rcases ha with rfl | hc
   · rfl
   · cases a with
     | none => rfl
     | some a => exact Lib.run_unsafeSliceData_row w _ _ _ _ _ hc
 refine ⟨Sub.refl _, ?_⟩
 refine biV rfl (fun w hs => Lib.run_unsafeString_none w _ _ _ _) ?_
 exact ⟨Sub.refl _, ⟨Sub.refl _, bk go⟩⟩
end
end
section
open Go.Sx
def sgn (s : ByteArray) (j : Nat) : UInt8 := s.data.getD j 0
theorem chP {s : ByteArray} {i : Int} (j : Nat) (hi : i = j) (hj : j < s.size) {next : Value → Prop} (go : next (.int .u8 (sgn s j).toNat)) : ChP s i next := by
 subst hi
 refine ⟨by omega, by simpa using hj, ?_⟩
 have : s[(j : Int).toNat]'(by simpa using hj) = sgn s j := by
  unfold sgn
  have hj' : j < s.data.size := hj
  simp only [Int.toNat_natCast]
  show s.data[j] = _
  simp [Array.getD]
  intro h; omega
 rw [this]; exact go
theorem shrN (a n : Nat) (hn : n ≤ 64) : (a : Int).fdiv (2 ^ (min ((n : Nat) : Int).toNat 64)) = ((a / 2 ^ n : Nat) : Int) := by
 rw [Int.toNat_natCast, Nat.min_eq_left hn, Int.fdiv_eq_ediv_of_nonneg _ (by exact Int.le_of_lt (Int.pow_pos (by decide)))]
 norm_cast
theorem shlN (a n : Nat) (hn : n ≤ 64) : (a : Int) * 2 ^ (min ((n : Nat) : Int).toNat 64) = ((a * 2 ^ n : Nat) : Int) := by
 rw [Int.toNat_natCast, Nat.min_eq_left hn]
 norm_cast
theorem wrapI (a : Nat) (h : a < 9223372036854775808) : IntKind.i64.wrap (a : Int) = a := by rw [IntKind.wrap_i64]; omega
theorem orN (a b : Nat) (ha : a < 9223372036854775808) (hb : b < 9223372036854775808) : Qz .or .i64 (a : Int) (b : Int) = ((a ||| b : Nat) : Int) := by
 have h : a ||| b < 2 ^ 63 := Nat.or_lt_two_pow (by omega) (by omega)
 show IntKind.i64.wrap ((BitVec.ofInt 64 (a : Int) ||| BitVec.ofInt 64 (b : Int)).toNat : Int) = _
 simp only [BitVec.ofInt_natCast, BitVec.toNat_or, BitVec.toNat_ofNat]
 rw [Nat.mod_eq_of_lt (by omega), Nat.mod_eq_of_lt (by omega)]
 exact wrapI _ (by omega)
theorem andN (a b : Nat) (ha : a < 9223372036854775808) (hb : b < 9223372036854775808) : Qz .and .i64 (a : Int) (b : Int) = ((a &&& b : Nat) : Int) := by
 have h : a &&& b ≤ a := Nat.and_le_left
 show IntKind.i64.wrap ((BitVec.ofInt 64 (a : Int) &&& BitVec.ofInt 64 (b : Int)).toNat : Int) = _
 simp only [BitVec.ofInt_natCast, BitVec.toNat_and, BitVec.toNat_ofNat]
 rw [Nat.mod_eq_of_lt (by omega), Nat.mod_eq_of_lt (by omega)]
 exact wrapI _ (by omega)
theorem or_add (x c j : Nat) (hc : c < 2 ^ j) : x * 2 ^ j ||| c = x * 2 ^ j + c := by
 rw [← Nat.shiftLeft_eq]; exact (Nat.shiftLeft_add_eq_or_of_lt hc x).symm
abbrev Cs := List UInt8 × Nat × Nat
def cs1 (sg : ByteArray) (k : Nat) (s : Cs) : Cs := if k ≤ s.2.2 then (s.1 ++ [sgn sg (s.2.1 / 2 ^ (s.2.2 - k))], s.2.1 % 2 ^ (s.2.2 - k), s.2.2 - k) else s
def csF (sg : ByteArray) (k : Nat) (s : Cs) : Cs := cs1 sg k (cs1 sg k (cs1 sg k s))
def csB (sg : ByteArray) (k : Nat) (s : Cs) (c : Nat) : Cs := csF sg k (s.1, s.2.1 * 256 + c, s.2.2 + 8)
def Qh (sg : ByteArray) (k : Nat) (bs : List UInt8) : Cs := bs.foldl (fun s c => csB sg k s c.toNat) ([], 0, 0)
def QH (sg : ByteArray) (k : Nat) (bs : List UInt8) : List UInt8 := if 0 < (Qh sg k bs).2.2 then (Qh sg k bs).1 ++ [sgn sg ((Qh sg k bs).2.1 * 2 ^ (k - (Qh sg k bs).2.2))] else (Qh sg k bs).1
theorem ZT (sg : ByteArray) (k : Nat) (s : Cs) (h : s.2.2 < k) : cs1 sg k s = s := by unfold cs1; rw [if_neg (by omega)]
theorem qed (sg : ByteArray) (k : Nat) (s : Cs) (h : k ≤ s.2.2) : (cs1 sg k s).2.2 = s.2.2 - k := by unfold cs1; rw [if_pos h]
theorem csF_done (sg : ByteArray) (k : Nat) (s : Cs) (h : s.2.2 < k) : csF sg k s = s := by
 unfold csF
 rw [ZT sg k s h, ZT sg k s h, ZT sg k s h]
theorem csF_lt (sg : ByteArray) (k : Nat) (s : Cs) (h : s.2.2 < 4 * k) : (csF sg k s).2.2 < k := by
 unfold csF
 by_cases h1 : k ≤ s.2.2
 · have e1 := qed sg k s h1
   by_cases h2 : k ≤ (cs1 sg k s).2.2
   · have e2 := qed sg k _ h2
     by_cases h3 : k ≤ (cs1 sg k (cs1 sg k s)).2.2
     · have e3 := qed sg k _ h3; omega
     · rw [ZT sg k _ (by omega)]; omega
   · rw [ZT sg k (cs1 sg k s) (by omega), ZT sg k (cs1 sg k s) (by omega)]; omega
 · rw [ZT sg k s (by omega), ZT sg k s (by omega), ZT sg k s (by omega)]; omega
theorem csF_step (sg : ByteArray) (k : Nat) (s : Cs) (h : s.2.2 < 4 * k) : csF sg k (cs1 sg k s) = csF sg k s := by
 have h1 := csF_lt sg k s h
 show cs1 sg k (csF sg k s) = _
 exact ZT sg k _ h1
structure CsI (k n : Nat) (s : Cs) : Prop where
 bits : s.2.1 < 2 ^ s.2.2
 sum : s.1.length * k + s.2.2 = 8 * n
theorem CsI.step {k n : Nat} {s : Cs} {sg : ByteArray} (h : CsI k n s) : CsI k n (cs1 sg k s) := by
 unfold cs1
 split
 · rename_i hk
   refine ⟨Nat.mod_lt _ (Nat.two_pow_pos _), ?_⟩
   have := h.sum
   simp only [List.length_append, List.length_singleton, Nat.add_mul]
   omega
 · exact h
theorem CsI.full {k n : Nat} {s : Cs} {sg : ByteArray} (h : CsI k n s) : CsI k n (csF sg k s) := h.step.step.step
theorem CsI.byte {k n : Nat} {s : Cs} (h : CsI k n s) (c : Nat) (hc : c < 256) : CsI k (n + 1) (s.1, s.2.1 * 256 + c, s.2.2 + 8) := by
 refine ⟨?_, ?_⟩
 · have := h.bits
   show s.2.1 * 256 + c < 2 ^ (s.2.2 + 8)
   rw [Nat.pow_add]; omega
 · have := h.sum
   show s.1.length * k + (s.2.2 + 8) = _
   omega
theorem qec (sg : ByteArray) (k : Nat) (bs : List UInt8) (i : Nat) (h : i < bs.length) : Qh sg k (bs.take (i + 1)) = csB sg k (Qh sg k (bs.take i)) bs[i].toNat := by
 unfold Qh
 rw [List.take_succ_eq_append_getElem h, List.foldl_append]; rfl
theorem cs_top (k b h : Nat) (hb : b < 2 ^ h) (hh : k ≤ h) : b / 2 ^ (h - k) < 2 ^ k := by
 rw [Nat.div_lt_iff_lt_mul (Nat.two_pow_pos _), ← Nat.pow_add]
 have : k + (h - k) = h := by omega
 rw [this]; exact hb
theorem qaR (sg : ByteArray) (k : Nat) (hk : 3 ≤ k) (bs : List UInt8) : CsI k bs.length (Qh sg k bs) ∧ (Qh sg k bs).2.2 < k := by
 induction hn : bs.length generalizing bs with
 | zero =>
  have : bs = [] := List.eq_nil_of_length_eq_zero hn
  subst this
  exact ⟨⟨Nat.one_pos, by show 0 * k + 0 = 8 * 0; omega⟩, by show 0 < k; omega⟩
 | succ n ih =>
  have h0 : n < bs.length := by omega
  have e : bs = bs.take (n + 1) := by rw [List.take_of_length_le (by omega)]
  rw [e, qec sg k bs n h0]
  obtain ⟨h1, h2⟩ := ih (bs.take n) (by simp; omega)
  have hc : bs[n].toNat < 256 := UInt8.toNat_lt _
  refine ⟨(h1.byte _ hc).full, csF_lt sg k _ ?_⟩
  show (Qh sg k (bs.take n)).2.2 + 8 < 4 * k
  omega
end
section
open Go.RowKit Go.Sx
abbrev TA : Nat := 223
theorem rd_at {w : World} {v : Value} {xs : List Value} (h : Rd w v xs) (hx : xs ≠ []) : ∃ b o c, v = .slice (some ⟨b, o, none⟩) xs.length c ∧ b < w.heap.size ∧ ∀ j u, xs[j]? = some u → w.cell? ⟨b, o + j, none⟩ = some u := by
 obtain ⟨a, c, h0, h1⟩ := h
 obtain ⟨b, o, rfl, h2, h3⟩ := h1 hx
 exact ⟨b, o, c, h0, h2, h3⟩
def csFr (b0 b1 k : Nat) (v : Value) (n i : Nat) (s : Cs) : Fr := [(2, ptr b0), (5, ptr b1), (6, .int .i64 s.2.1), (7, .int .i64 s.2.2), (10, v), (11, .int .i64 n), (12, .int .i64 i)]
def csL (sg : ByteArray) (b0 b1 k : Nat) (s : Cs) (r : Sx.Own) (p : Value) : List Ent := [cl b0 #[.string sg, .int .i64 k] TA, cl b1 #[p, sv r s.1.length] TB, se r (Lib.byteCells s.1) 5]
theorem code_any (sg : ByteArray) (k : Nat) (hk : 3 ≤ k ∧ k ≤ 8) (hsg : sg.size = 2 ^ k) (v : Value) (bs : List UInt8) (hbs : bs.length ≤ 1000000) (w : World) (hv : Rd w v (Lib.byteCells bs)) :
 Calls Tryz.prog 158 ([.agg #[.string sg, .int .i64 k], v] : List Value).toArray w fun e w' => e = .returned (.string ⟨(QH sg k bs).toArray⟩) ∧ Below w.heap.size w w' := by
 have hv0 := hv
 obtain ⟨va, vc, hv1, _⟩ := hv
 rw [Lib.byteCells_length] at hv1
 refine qj qc Tryz.func158 rfl Tryz.ntmps158 rfl (St.start w) ?_
 intro b0 b1
 subst hv1
 refine lp qc (fun x : Nat × Sx.Own × Value => x.1 ≤ bs.length ∧ (Rw 1 (Qh sg k (bs.take x.1)).1.length x.2.1 (Lib.byteCells (Qh sg k (bs.take x.1)).1) ∧ ((Qh sg k (bs.take x.1)).1 = [] → x.2.1 = none)) ∧ (x.2.2 = .pointer none ∨ x.2.2 = ptr b1))
  (fun x => ⟨csFr b0 b1 k (.slice va bs.length vc) bs.length x.1 (Qh sg k (bs.take x.1)), csL sg b0 b1 k (Qh sg k (bs.take x.1)) x.2.1 x.2.2, []⟩) (fun x => bs.length - x.1) (0, none, .pointer none) ⟨Nat.zero_le _, ⟨Rw.nil 1, fun _ => rfl⟩, .inl rfl⟩ ⟨⟨rfl, rfl, rfl, rfl, rfl, rfl, rfl, trivial⟩, .cons (.cons (.pad .nil)), rfl⟩ ?_
 rintro ⟨i, r, p⟩ ⟨hi, ⟨hR, hr0⟩, hp⟩
 simp only at hi hR hp hr0
 refine cd (fun h => ?_) (fun h => ?_)
 · have hlt : i < bs.length := by (try simp only at h); omega
   obtain ⟨hI, hh⟩ := qaR sg k hk.1 (bs.take i)
   have htl : (bs.take i).length = i := by simp; omega
   rw [htl] at hI
   have htake := qec sg k bs i hlt
   generalize Qh sg k (bs.take i) = s at *
   generalize hT : Qh sg k (bs.take (i + 1)) = T at *
   have hc : bs[i].toNat < 256 := UInt8.toNat_lt _
   have hne : Lib.byteCells bs ≠ [] := by intro h0; have h1 := congrArg List.length h0; rw [Lib.byteCells_length] at h1; exact absurd h1 (by simp only [List.length_nil]; omega)
   obtain ⟨b, o, c, e, hb, hcell⟩ := rd_at hv0 hne
   injection e with e1 e2 e3
   subst e1 e3
   have hcell := hcell i (.int .u8 bs[i].toNat) (by simp [Lib.byteCells, hlt])
   generalize bs[i].toNat = ch at *
   have hp2 : (2 : Nat) ^ s.2.2 ≤ 2 ^ 8 := Nat.pow_le_pow_right (by decide) (by omega)
   have hb1 := hI.bits
   have hI2 := hI.byte ch hc
   have hor : Qz .or .i64 ((s.2.1 * 256 : Nat) : Int) ((ch : Nat) : Int) = ((s.2.1 * 256 + ch : Nat) : Int) := by rw [orN _ _ (by omega) (by omega)]; exact congrArg Nat.cast (or_add s.2.1 ch 8 hc)
   refine ⟨by (try simp only); omega, by (try simp only); omega, ?_⟩
   refine ldo (v := .int .u8 ch) (by rw [qi, qh]; simpa using hcell) hb ?_
   refine ⟨by decide, .as ((s.2.1 * 256 : Nat) : Int) (by simp [IntKind.bits]) (by simp only [mn]; omega) (by simp only [mx]; omega) ?_⟩
   refine .same (by simp only [mn]; omega) (by simp only [mx]; omega) ?_
   refine .as ((s.2.2 + 8 : Nat) : Int) (by simp) (by simp only [mn]; omega) (by simp only [mx]; omega) ?_
   refine lp qc (fun y : Cs × Sx.Own × Value => (csF sg k y.1 = T ∧ y.1.2.2 < 4 * k ∧ y.1.2.2 ≤ 16) ∧ CsI k (i + 1) y.1 ∧ (Rw 1 y.1.1.length y.2.1 (Lib.byteCells y.1.1) ∧ (y.1.1 = [] → y.2.1 = none)) ∧ (y.2.2 = .pointer none ∨ y.2.2 = ptr b1))
    (fun y => ⟨csFr b0 b1 k (.slice (some ⟨b, o, none⟩) bs.length vc) bs.length i y.1, csL sg b0 b1 k y.1 y.2.1 y.2.2, []⟩) (fun y => y.1.2.2) ((s.1, s.2.1 * 256 + ch, s.2.2 + 8), r, p) ⟨⟨htake.symm, by (try simp only); omega, by (try simp only); omega⟩, hI2, ⟨hR, hr0⟩, hp⟩
    ⟨⟨rfl, rfl, congrArg (fun z => some (Value.int .i64 z)) hor, rfl, rfl, rfl, rfl, trivial⟩, .cons (.cons (.cons .nil)), rfl⟩ ?_
   clear h hR hr0 hp hor hI2 hb1 hp2 hI hh htake hcell
   rintro ⟨s, r, p⟩ ⟨⟨hF, hs4, hs16⟩, hI, ⟨hR, hr0⟩, hp⟩
   simp only at hF hs4 hs16 hI hR hr0 hp
   have hb1 := hI.bits
   have hsum := hI.sum
   refine ld1 0 rfl rfl ?_
   refine cd (fun h => ?_) (fun h => ?_)
   · have hge : k ≤ s.2.2 := by (try simp only at h); omega
     have hstep := csF_step sg k s hs4
     have hI3 : CsI k (i + 1) (cs1 sg k s) := hI.step
     have e1 : cs1 sg k s = (s.1 ++ [sgn sg (s.2.1 / 2 ^ (s.2.2 - k))], s.2.1 % 2 ^ (s.2.2 - k), s.2.2 - k) := if_pos hge
     rw [e1] at hstep hI3
     have htop := cs_top k s.2.1 s.2.2 hb1 hge
     have hp2 : (2 : Nat) ^ (s.2.2 - k) ≤ 2 ^ 16 := Nat.pow_le_pow_right (by decide) (by omega)
     have hp3 : (2 : Nat) ^ s.2.2 ≤ 2 ^ 16 := Nat.pow_le_pow_right (by decide) (by omega)
     have hp1 : 0 < (2 : Nat) ^ (s.2.2 - k) := Nat.two_pow_pos _
     have hand : Qz .and .i64 ((s.2.1 : Nat) : Int) ((2 ^ (s.2.2 - k) - 1 : Nat) : Int) = ((s.2.1 % 2 ^ (s.2.2 - k) : Nat) : Int) := by rw [andN _ _ (by omega) (by omega), Nat.and_two_pow_sub_one_eq_mod]
     have hlen : s.1.length ≤ 8 * (i + 1) := by have := Nat.le_mul_of_pos_right s.1.length (show 0 < k by omega); omega
     refine ld1 0 rfl rfl ?_
     refine .as ((s.2.2 - k : Nat) : Int) (by (try simp only); omega) (by simp only [mn]; omega) (by simp only [mx]; omega) ?_
     refine dr [cl b0 #[.string sg, .int .i64 k] TA] 99 (.t 0 (.t 1 (.t 2 (.t 3 (.t 4 (.t 5 (.n 6 .nil))))))) qc qe (by kernel_rfl) (.cons .nil) ?_
     refine ld1 0 rfl rfl ?_
     refine ⟨by (try simp only); omega, ?_⟩
     refine chP (s.2.1 / 2 ^ (s.2.2 - k)) (shrN _ _ (by omega)) (by omega) ?_
     refine bByte 1 2 rfl hp rfl (by decide) hR (by (try simp only); omega) (fun r' hR' => ?_)
     refine ⟨.cons .nil, ?_⟩
     refine ⟨by (try simp only); omega, ?_⟩
     refine .as ((2 ^ (s.2.2 - k) : Nat) : Int) (by have := shlN 1 (s.2.2 - k) (by omega); simpa [IntKind.bits] using this) (by simp only [mn]; omega) (by simp only [mx]; omega) ?_
     refine .as ((2 ^ (s.2.2 - k) - 1 : Nat) : Int) (by (try simp only); omega) (by simp only [mn]; omega) (by simp only [mx]; omega) ?_
     refine ⟨((s.1 ++ [sgn sg (s.2.1 / 2 ^ (s.2.2 - k))], s.2.1 % 2 ^ (s.2.2 - k), s.2.2 - k), r', ptr b1), ⟨⟨hstep.trans hF, by (try simp only); omega, by (try simp only); omega⟩, hI3, ⟨?_, fun h => by simp at h⟩, .inr rfl⟩, by (try simp only); omega, ⟨⟨rfl, rfl, congrArg (fun z => some (Value.int .i64 z)) hand, rfl, rfl, rfl, rfl, trivial⟩, ?_, rfl⟩⟩
     · simp only [List.length_append, Lib.byteCells_append]; exact hR'
     · simp only [csL, List.length_append, List.length_singleton, Lib.byteCells_append]; exact .cons (.cons (.cons .nil))
   · have hlt2 : s.2.2 < k := by (try simp only at h); omega
     obtain rfl : s = T := (csF_done sg k s hlt2).symm.trans hF
     refine .as ((i + 1 : Nat) : Int) (by simp) (by simp only [mn]; omega) (by simp only [mx]; omega) ?_
     refine ⟨(i + 1, r, p), ?_, by (try simp only); omega, ?_⟩ <;> simp only [hT]
     · exact ⟨by omega, ⟨hR, hr0⟩, hp⟩
     · exact ⟨⟨rfl, rfl, rfl, rfl, rfl, rfl, rfl, trivial⟩, .cons (.cons (.cons .nil)), rfl⟩
 · obtain rfl : i = bs.length := by (try simp only at h); omega
   rw [List.take_length] at hR hr0
   simp only [List.take_length]
   obtain ⟨hI, hh⟩ := qaR sg k hk.1 bs
   have hcode : QH sg k bs = if 0 < (Qh sg k bs).2.2 then (Qh sg k bs).1 ++ [sgn sg ((Qh sg k bs).2.1 * 2 ^ (k - (Qh sg k bs).2.2))] else (Qh sg k bs).1 := rfl
   rw [hcode]
   generalize Qh sg k bs = s at *
   have hb1 := hI.bits
   have hsum := hI.sum
   have hlen : s.1.length ≤ 8 * bs.length := by have := Nat.le_mul_of_pos_right s.1.length (show 0 < k by omega); omega
   refine cd (fun h => ?_) (fun h => ?_)
   · have h0 : 0 < s.2.2 := by (try simp only at h); omega
     rw [if_pos h0]
     have hj : s.2.1 * 2 ^ (k - s.2.2) < 2 ^ k := by
      have e : (2 : Nat) ^ k = 2 ^ s.2.2 * 2 ^ (k - s.2.2) := by rw [← Nat.pow_add]; congr 1; omega
      rw [e]; exact (Nat.mul_lt_mul_right (Nat.two_pow_pos _)).2 hb1
     have hk8 : (2 : Nat) ^ k ≤ 2 ^ 8 := Nat.pow_le_pow_right (by decide) hk.2
     refine dr [cl b0 #[.string sg, .int .i64 k] TA] 99 (.t 0 (.t 1 (.t 2 (.t 3 (.t 4 (.t 5 (.t 6 (.t 7 (.t 8 (.n 9 .nil)))))))))) qc qe (by kernel_rfl) (.cons .nil) ?_
     refine ld1 0 rfl rfl ?_
     refine ld1 0 rfl rfl ?_
     refine .as ((k - s.2.2 : Nat) : Int) (by (try simp only); omega) (by simp only [mn]; omega) (by simp only [mx]; omega) ?_
     refine ⟨by (try simp only); omega, ?_⟩
     refine .as ((s.2.1 * 2 ^ (k - s.2.2) : Nat) : Int) (shlN _ _ (by omega)) (by simp only [mn]; omega) (by simp only [mx]; omega) ?_
     refine chP (s.2.1 * 2 ^ (k - s.2.2)) rfl (by omega) ?_
     refine bByte 1 2 rfl hp rfl (by decide) hR (by (try simp only); omega) (fun r' hR' => ?_)
     refine ⟨.cons .nil, ?_⟩
     refine bStr (l := s.1 ++ [sgn sg (s.2.1 * 2 ^ (k - s.2.2))]) (p := ptr b1) (r := r') 1 2 (by rw [List.length_append]; rfl) (by rw [Lib.byteCells_append]; rfl) (by decide) (by rw [List.length_append, Lib.byteCells_append]; exact hR') (by simp) ?_
     exact rt rfl
   · have h0 : ¬ 0 < s.2.2 := by (try simp only at h); omega
     rw [if_neg h0]
     by_cases hs : s.1 = []
     · have := hr0 hs
       subst this
       refine bStr0 1 (b := b1) (p := p) (a := none) (c := 0) rfl (.inl rfl) ?_
       exact rt (by rw [hs]; rfl)
     · refine bStr 1 2 rfl rfl (by decide) hR hs ?_
       exact rt rfl
end
section
open Go.RowKit Go.Lib
theorem bd24L2 : Tryz.prog.built 36 [(0, .int .u8 237), (1, .int .u8 211), (2, .int .u8 245), (3, .int .u8 92), (4, .int .u8 26), (5, .int .u8 99), (6, .int .u8 18), (7, .int .u8 88), (8, .int .u8 214), (9, .int .u8 156), (10, .int .u8 247), (11, .int .u8 162), (12, .int .u8 222), (13, .int .u8 249), (14, .int .u8 222), (15, .int .u8 20), (16, .int .u8 0), (17, .int .u8 0), (18, .int .u8 0), (19, .int .u8 0), (20, .int .u8 0), (21, .int .u8 0), (22, .int .u8 0), (23, .int .u8 0), (24, .int .u8 0), (25, .int .u8 0), (26, .int .u8 0), (27, .int .u8 0), (28, .int .u8 0), (29, .int .u8 0), (30, .int .u8 0), (31, .int .u8 16)] = some (k32 L0) := by kernel_rfl
open Go.Sx
theorem rorder_any (w : World) : Calls Tryz.prog 188 #[] w fun e w' => e = .returned (.agg (k32 L0)) ∧ Below w.heap.size w w' := by
 refine qj (vs := []) qc Tryz.func188 rfl Tryz.ntmps188 rfl (St.start w) ?_
 intro b0
 refine bu (c := k32 L0) bd24L2 ?_
 refine sN 0 rfl (by rw [qf]; rfl) (Zw _ _ _) ?_ (by kernel_rfl)
 refine ldN 0 rfl (qf _) ?_
 exact rt rfl
def Ints (w : World) (b len : Nat) (g : Nat → Int) : Prop := b < w.heap.size ∧ ∀ j, j < len → w.cell? ⟨b, j, none⟩ = some (.int .i64 (g j))
section ints
variable {w w' : World} {b len : Nat} {g : Nat → Int}
end ints
def i34 (n : Nat) : Array Value := row .i64 34 (dg 256 n)
def z131 : Array Value := (#[.int .i64 0, .int .i64 0, .int .i64 0, .int .i64 0, .int .i64 0, .int .i64 0, .int .i64 0, .int .i64 0, .int .i64 0, .int .i64 0, .int .i64 0, .int .i64 0, .int .i64 0, .int .i64 0, .int .i64 0, .int .i64 0, .int .i64 0, .int .i64 0, .int .i64 0, .int .i64 0, .int .i64 0, .int .i64 0, .int .i64 0, .int .i64 0, .int .i64 0, .int .i64 0, .int .i64 0, .int .i64 0, .int .i64 0, .int .i64 0, .int .i64 0, .int .i64 0, .int .i64 0, .int .i64 0] : Array Value)
theorem z131i : z131 = i34 0 := by kernel_rfl
def upf (v k : Nat) : Nat → Int := fun j => if k < j then dg 256 v (j - 1) else dg 256 v j
theorem upf_33 (v : Nat) : row .i64 34 (upf v 33) = i34 v := Qb _ _ _ _ fun j hj => by unfold upf; rw [if_neg (by omega)]
theorem upf_upd (v k : Nat) (x : Int) (h : x = dg 256 v k) : upd (upf v (k + 1)) (k + 1) x = upf v k := by
 funext j
 unfold upd upf
 by_cases e : j = k + 1
 · rw [if_pos e, if_pos (by omega), h, e]; rfl
 · rw [if_neg e]
   by_cases e2 : k + 1 < j
   · rw [if_pos e2, if_pos (by omega)]
   · rw [if_neg e2, if_neg (by omega)]
theorem upf_at (v k : Nat) : upf v (k + 1) k = dg 256 v k := by unfold upf; rw [if_neg (by omega)]
theorem upf_0 (v c : Nat) (hc : c < 256) : row .i64 34 (upd (upf v 0) 0 (c : Int)) = i34 (256 * v + c) := by
 refine Qb _ _ _ _ fun j hj => ?_
 unfold upd upf
 by_cases e : j = 0
 · subst e; rw [if_pos rfl]; unfold dg; rw [Nat.pow_zero, Nat.div_one]; omega
 · rw [if_neg e, if_pos (by omega)]
   obtain ⟨i, rfl⟩ : ∃ i, j = i + 1 := ⟨j - 1, by omega⟩
   unfold dg
   rw [Nat.add_sub_cancel, Nat.pow_succ, Nat.mul_comm (256 ^ i) 256, ← Nat.div_div_eq_div_mul, show (256 * v + c) / 256 = v by omega]
def qbN (m n k : Nat) : Nat → Int := fun j => if j < k then dg 256 m j else dg 256 n j
theorem mixi_at (m n k : Nat) : qbN m n k k = dg 256 n k := by unfold qbN; rw [if_neg (by omega)]
theorem qbM (m n k : Nat) (x : Int) (h : x = dg 256 m k) : upd (qbN m n k) k x = qbN m n (k + 1) := by
 funext j
 unfold upd qbN
 by_cases e : j = k
 · rw [if_pos e, if_pos (by omega), h, e]
 · rw [if_neg e]
   by_cases e2 : j < k
   · rw [if_pos e2, if_pos (by omega)]
   · rw [if_neg e2, if_neg (by omega)]
theorem mixi_0 (m n : Nat) : row .i64 34 (qbN m n 0) = i34 n := Qb _ _ _ _ (fun j hj => by unfold qbN; rw [if_neg (by omega)])
theorem mixi_34 (m n : Nat) : row .i64 34 (qbN m n 34) = i34 m := Qb _ _ _ _ (fun j hj => by unfold qbN; rw [if_pos hj])
theorem sub8 (d n l k c x y : Nat) (h : n / 256 ^ k = d / 256 ^ k + l / 256 ^ k + c) (hc : c < 2) (hx : n / 256 ^ k % 256 = x) (hy : l / 256 ^ k % 256 = y) :
 (x < y + c → d / 256 ^ k % 256 = x + 256 - y - c ∧ n / 256 ^ (k + 1) = d / 256 ^ (k + 1) + l / 256 ^ (k + 1) + 1) ∧ (y + c ≤ x → d / 256 ^ k % 256 = x - y - c ∧ n / 256 ^ (k + 1) = d / 256 ^ (k + 1) + l / 256 ^ (k + 1) + 0) := by
 rw [Nat.pow_succ, ← Nat.div_div_eq_div_mul, ← Nat.div_div_eq_div_mul, ← Nat.div_div_eq_div_mul]
 generalize n / 256 ^ k = N at *
 generalize d / 256 ^ k = D at *
 generalize l / 256 ^ k = L at *
 omega
theorem top_lt (n l k : Nat) (h : ∀ j, k < j → j < 34 → dg 256 n j = dg 256 l j) (hk : k < 34) (hn : n < 256 ^ 34) (hl : l < 256 ^ 34) (hne : dg 256 n k ≠ dg 256 l k) : decide (dg 256 n k < dg 256 l k) = decide (n < l) := by
 have key : ∀ i, i ≤ 33 - k → n / 256 ^ (34 - i) = l / 256 ^ (34 - i) := by
  intro i
  induction i with
  | zero => intro _; rw [Nat.sub_zero, Nat.div_eq_of_lt hn, Nat.div_eq_of_lt hl]
  | succ i ih =>
   intro hi
   have h1 := ih (by omega)
   have h2 := h (34 - (i + 1)) (by omega) (by omega)
   unfold dg at h2
   rw [show 34 - i = 34 - (i + 1) + 1 by omega, Nat.pow_succ, ← Nat.div_div_eq_div_mul, ← Nat.div_div_eq_div_mul] at h1
   omega
 have h1 := key (33 - k) (Nat.le_refl _)
 rw [show 34 - (33 - k) = k + 1 by omega, Nat.pow_succ, ← Nat.div_div_eq_div_mul, ← Nat.div_div_eq_div_mul] at h1
 unfold dg at hne ⊢
 generalize hp : 256 ^ k = p at *
 by_cases h0 : n < l
 · have h3 : n / p ≤ l / p := Nat.div_le_div_right (by omega)
   rw [decide_eq_true h0, decide_eq_true (by omega)]
 · have h3 : l / p ≤ n / p := Nat.div_le_div_right (by omega)
   rw [decide_eq_false h0, decide_eq_false (by omega)]
theorem top_eq (n l : Nat) (h : ∀ j, j < 34 → dg 256 n j = dg 256 l j) (hn : n < 256 ^ 34) (hl : l < 256 ^ 34) : n = l := by
 have key : ∀ i, i ≤ 34 → n / 256 ^ (34 - i) = l / 256 ^ (34 - i) := by
  intro i
  induction i with
  | zero => intro _; rw [Nat.sub_zero, Nat.div_eq_of_lt hn, Nat.div_eq_of_lt hl]
  | succ i ih =>
   intro hi
   have h1 := ih (by omega)
   have h2 := h (34 - (i + 1)) (by omega)
   unfold dg at h2
   rw [show 34 - i = 34 - (i + 1) + 1 by omega, Nat.pow_succ, ← Nat.div_div_eq_div_mul, ← Nat.div_div_eq_div_mul] at h1
   omega
 have := key 34 (Nat.le_refl _)
 rwa [Nat.sub_self, Nat.pow_zero, Nat.div_one, Nat.div_one] at this
theorem L0_val : L0 = 7237005577332262213973186563042994240857116359379907606001950938285454250989 := rfl
theorem p256_34 : (256 : Nat) ^ 34 = 7588550360256754183279148073529370729071901715047420004889892225542594864082845696 := by decide +kernel
theorem dg8 (n j : Nat) : 0 ≤ dg 256 n j ∧ dg 256 n j < 256 := by unfold dg; omega
theorem L0_top (j : Nat) (h : 32 ≤ j) : dg 256 L0 j = 0 := by
 unfold dg
 rw [Nat.div_eq_of_lt (Nat.lt_of_lt_of_le (show L0 < 256 ^ 32 by decide +kernel) (Nat.pow_le_pow_right (by decide) h))]; rfl
end
section
open Go.RowKit Go.Sx
def IntsA (w : World) (a : Option Addr) (len : Nat) (g : Nat → Int) : Prop := len = 0 ∨ ∃ b, a = some ⟨b, 0, none⟩ ∧ Ints w b len g
theorem down_step (N m : Nat) : N / 256 ^ (m + 1) * 256 + N / 256 ^ m % 256 = N / 256 ^ m := by
 rw [Nat.pow_succ, ← Nat.div_div_eq_div_mul]; omega
abbrev ptq (b : Nat) : Value := .pointer (some ⟨b, 0, none⟩)
theorem k32_os (n : Nat) : (k32 n).toList.all (·.oneCell') = true := by unfold k32 row; exact List.all_eq_true.2 fun v hv => Zv _ _ _ v hv
theorem adq (i : Nat) : nad 0 (nmu (Int.toNat (i : Int)) 1) = i := by rw [qi, qh, Nat.zero_add, Nat.mul_one, Int.toNat_natCast]
theorem rgq (kd : IntKind) (n : Nat) (f : Nat → Int) (i : Nat) (h : i < n) : (row kd n f)[nad 0 (nmu (Int.toNat (i : Int)) 1)]? = some (.int kd (f i)) := by rw [adq]; exact qP _ _ _ _ h
theorem rzq (kd : IntKind) (n : Nat) (f : Nat → Int) (i : Nat) (h : i < n) : nad 0 (nmu (Int.toNat (i : Int)) 1) < (row kd n f).size := by rw [adq, qR]; exact h
theorem rsq (kd : IntKind) (n : Nat) (f g : Nat → Int) (i : Nat) (x : Int) (h : upd f i x = g) : (row kd n f).setIfInBounds (nad 0 (nmu (Int.toNat (i : Int)) 1)) (.int kd x) = row kd n g := by rw [adq, zS, h]
abbrev qel : Array Value := #[.int .u8 0, .int .u8 0, .int .u8 0, .int .u8 0, .int .u8 0, .int .u8 0, .int .u8 0, .int .u8 0, .int .u8 0, .int .u8 0, .int .u8 0, .int .u8 0, .int .u8 0, .int .u8 0, .int .u8 0, .int .u8 0, .int .u8 0, .int .u8 0, .int .u8 0, .int .u8 0, .int .u8 0, .int .u8 0, .int .u8 0, .int .u8 0, .int .u8 0, .int .u8 0, .int .u8 0, .int .u8 0, .int .u8 0, .int .u8 0, .int .u8 0, .int .u8 0]
theorem rest_any (a : Option Addr) (len cap N : Nat) (hlen : len ≤ 1000) (hN : N < 256 ^ len) (w : World) (hI : IntsA w a len (dg 256 N)) :
 Calls Tryz.prog 133 #[.slice a len cap] w fun e w' => e = .returned (.agg (k32 (N % L0))) ∧ Below w.heap.size w w' := by
 refine qj qc Tryz.func133 rfl Tryz.ntmps133 rfl (St.start w) (vs := [.slice a len cap]) ?_
 intro b2
 refine cv rorder_any ?_
 intro b3
 refine sN 1 rfl (by rw [qf]; rfl) (k32_os _) ?_ (by kernel_rfl)
 intro b4
 refine .as ((len : Int) - 1) (by omega) (by simp only [mn]; omega) (by simp only [mx]; omega) ?_
 have h0 : i34 0 = i34 (N / 256 ^ len % L0) := by rw [Nat.div_eq_of_lt hN, Nat.zero_mod]
 refine lp qc (fun m : Nat => m ≤ len) (fun m => ⟨[(0, .slice a len cap), (2, ptq b2), (3, ptq b3), (4, ptq b4), (5, .int .i64 ((m : Int) - 1))], [cl b2 qel 36, cl b3 (k32 L0) 36, cl b4 (i34 (N / 256 ^ m % L0)) 264], []⟩) (fun m => m) len (Nat.le_refl _) (by rw [← h0, ← z131i]; exact ⟨⟨rfl, rfl, rfl, rfl, rfl, trivial⟩, .cons (.cons (.cons .nil)), rfl⟩) ?_
 intro m hm
 refine cd (fun h => ?_) (fun h => ?_)
 · obtain ⟨i, rfl⟩ : ∃ i, m = i + 1 := ⟨m - 1, by omega⟩
   rcases hI with h1 | ⟨b, rfl, hIb⟩
   · omega
   have hcell := hIb.2 i (by omega)
   have hbl := hIb.1
   have hds := down_step N i
   obtain ⟨c, hc⟩ : ∃ c, N / 256 ^ i % 256 = c := ⟨_, rfl⟩
   have lc : c < 256 := by rw [← hc]; exact Nat.mod_lt _ (by decide)
   rw [dg_nat, hc] at hcell
   rw [hc] at hds
   have hTv : N / 256 ^ (i + 1) % L0 < L0 := Nat.mod_lt _ (by decide)
   have hcong : (256 * (N / 256 ^ (i + 1) % L0) + c) % L0 = N / 256 ^ i % L0 := by
    rw [← hds, Nat.add_mod, Nat.mul_mod, Nat.mod_mod, ← Nat.mul_mod, ← Nat.add_mod, Nat.mul_comm]
   generalize N / 256 ^ (i + 1) % L0 = V at hTv hcong ⊢
   generalize hR : N / 256 ^ i % L0 = R at hcong
   rw [show ((i + 1 : Nat) : Int) - 1 = (i : Int) by omega]
   refine lp qc (fun s : Nat => s ≤ 33) (fun s => ⟨[(0, .slice (some ⟨b, 0, none⟩) len cap), (2, ptq b2), (3, ptq b3), (4, ptq b4), (5, .int .i64 (i : Int)), (6, .int .i64 (s : Int))], [cl b2 qel 36, cl b3 (k32 L0) 36, cl b4 (row .i64 34 (upf V s)) 264], []⟩) (fun s => s) 33 (Nat.le_refl _) (by rw [upf_33]; exact ⟨⟨rfl, rfl, rfl, rfl, rfl, rfl, trivial⟩, .cons (.cons (.cons .nil)), rfl⟩) ?_
   intro s hs
   refine cd (fun h => ?_) (fun h => ?_)
   · obtain ⟨t, rfl⟩ : ∃ t, s = t + 1 := ⟨s - 1, by omega⟩
     refine .as ((t : Int)) (by omega) (by simp only [mn]; omega) (by simp only [mx]; omega) ?_
     refine ⟨by omega, by omega, ?_⟩
     refine ld1 2 rfl (rgq .i64 34 _ t (by omega)) ?_
     refine ⟨by omega, by omega, ?_⟩
     refine s1e 2 _ rfl (rzq _ _ _ _ (by omega)) (rsq .i64 34 _ (upf V t) (t + 1) _ (upf_upd V t _ (upf_at V t))) ?_
     refine .as ((t : Int)) (by omega) (by simp only [mn]; omega) (by simp only [mx]; omega) ?_
     exact ⟨t, by omega, by omega, ⟨⟨rfl, rfl, rfl, rfl, rfl, rfl, trivial⟩, .cons (.cons (.cons .nil)), rfl⟩⟩
   · obtain rfl : s = 0 := by omega
     refine ⟨by omega, by omega, ?_⟩
     refine ldo (by rw [adq]; exact hcell) hbl ?_
     refine ⟨by decide, by decide, ?_⟩
     refine s1e 2 (i34 (256 * V + c)) rfl (by show 0 < (row .i64 34 (upf V 0)).size; rw [qR]; decide) (by show (row .i64 34 (upf V 0)).setIfInBounds 0 (.int .i64 (c : Int)) = _; rw [zS]; exact upf_0 V c lc) ?_
     refine lpe qc 4 (β := Unit) (fun _ => True) (fun _ => ⟨[(0, .slice (some ⟨b, 0, none⟩) len cap), (2, ptq b2), (3, ptq b3), (4, ptq b4), (5, .int .i64 (i : Int))], [cl b2 qel 36, cl b3 (k32 L0) 36, cl b4 (i34 R) 264], []⟩) (α := Nat) (fun X => X % L0 = R ∧ X < 256 * L0) (fun X => ⟨[(0, .slice (some ⟨b, 0, none⟩) len cap), (2, ptq b2), (3, ptq b3), (4, ptq b4), (5, .int .i64 (i : Int))], [cl b2 qel 36, cl b3 (k32 L0) 36, cl b4 (i34 X) 264], []⟩) (fun X => X / L0) (256 * V + c) ⟨hcong, by omega⟩ ⟨⟨rfl, rfl, rfl, rfl, rfl, trivial⟩, .cons (.cons (.cons .nil)), rfl⟩ ?_ ?_
     · rintro X ⟨hX1, hX2⟩
       have hXb : X < 256 ^ 34 := by rw [p256_34]; rw [L0_val] at hX2; omega
       have hLb : L0 < 256 ^ 34 := by rw [p256_34, L0_val]; omega
       refine lpe qc 6 (β := Unit) (fun _ => True) (fun _ => ⟨[(0, .slice (some ⟨b, 0, none⟩) len cap), (2, ptq b2), (3, ptq b3), (4, ptq b4), (5, .int .i64 (i : Int)), (7, .bool (decide (X < L0)))], [cl b2 qel 36, cl b3 (k32 L0) 36, cl b4 (i34 X) 264], []⟩) (α := Nat) (fun s => s ≤ 34 ∧ ∀ j, s ≤ j → j < 34 → dg 256 X j = dg 256 L0 j) (fun s => ⟨[(0, .slice (some ⟨b, 0, none⟩) len cap), (2, ptq b2), (3, ptq b3), (4, ptq b4), (5, .int .i64 (i : Int)), (7, .bool false), (8, .int .i64 ((s : Int) - 1))], [cl b2 qel 36, cl b3 (k32 L0) 36, cl b4 (i34 X) 264], []⟩) (fun s => s) 34 ⟨Nat.le_refl _, fun j h1 h2 => by omega⟩ ⟨⟨rfl, rfl, rfl, rfl, rfl, rfl, rfl, trivial⟩, .cons (.cons (.cons .nil)), rfl⟩ ?_ ?_
       · rintro s ⟨hs, hsm⟩
         refine cd (fun h => ?_) (fun h => ?_)
         · obtain ⟨j, rfl⟩ : ∃ j, s = j + 1 := ⟨s - 1, by omega⟩
           rw [show ((j + 1 : Nat) : Int) - 1 = (j : Int) by omega]
           have fin : ∀ y : Int, dg 256 L0 j = y → dg 256 X j ≠ y → decide (dg 256 X j < y) = decide (X < L0) := fun y hy hne => by
            rw [← hy] at hne ⊢; exact top_lt X L0 j (fun q h1 h2 => hsm q (by omega) h2) (by omega) hXb hLb hne
           have go : ∀ y : Int, dg 256 L0 j = y → dg 256 X j = y → ∀ q, j ≤ q → q < 34 → dg 256 X q = dg 256 L0 q := fun y hy he q h1 h2 => by
            by_cases e : q = j
            · rw [e, he, hy]
            · exact hsm q (by omega) h2
           have dl := dg8 L0 j
           refine cd (fun h32 => ?_) (fun h32 => ?_)
           · refine ⟨by omega, by omega, ?_⟩
             refine ld1 1 rfl (rgq .u8 32 (dg 256 L0) j (by omega)) ?_
             refine .same (by simp only [mn]; omega) (by simp only [mx]; omega) ?_
             refine ⟨by omega, by omega, ?_⟩
             refine ld1 2 rfl (rgq .i64 34 (dg 256 X) j (by omega)) ?_
             refine cne (fun hne => ?_) (fun he => ?_)
             · refine ⟨by omega, by omega, ?_⟩
               refine ld1 2 rfl (rgq .i64 34 (dg 256 X) j (by omega)) ?_
               exact ⟨(), trivial, ⟨rfl, rfl, rfl, rfl, rfl, congrArg (fun b => some (Value.bool b)) (fin _ rfl hne), trivial⟩, .cons (.cons (.cons .nil)), rfl⟩
             · refine .as ((j : Int) - 1) (by omega) (by simp only [mn]; omega) (by simp only [mx]; omega) ?_
               exact ⟨j, ⟨by omega, go _ rfl he⟩, by omega, ⟨⟨rfl, rfl, rfl, rfl, rfl, rfl, rfl, trivial⟩, .cons (.cons (.cons .nil)), rfl⟩⟩
           · have hy0 := L0_top j (by omega)
             refine ⟨by omega, by omega, ?_⟩
             refine ld1 2 rfl (rgq .i64 34 (dg 256 X) j (by omega)) ?_
             refine cne (fun hne => ?_) (fun he => ?_)
             · refine ⟨by omega, by omega, ?_⟩
               refine ld1 2 rfl (rgq .i64 34 (dg 256 X) j (by omega)) ?_
               exact ⟨(), trivial, ⟨rfl, rfl, rfl, rfl, rfl, congrArg (fun b => some (Value.bool b)) (fin _ hy0 hne), trivial⟩, .cons (.cons (.cons .nil)), rfl⟩
             · refine .as ((j : Int) - 1) (by omega) (by simp only [mn]; omega) (by simp only [mx]; omega) ?_
               exact ⟨j, ⟨by omega, go _ hy0 he⟩, by omega, ⟨⟨rfl, rfl, rfl, rfl, rfl, rfl, rfl, trivial⟩, .cons (.cons (.cons .nil)), rfl⟩⟩
         · obtain rfl : s = 0 := by omega
           have hfin : false = decide (X < L0) := by rw [top_eq X L0 (fun j hj => hsm j (Nat.zero_le _) hj) hXb hLb]; exact (decide_eq_false (Nat.lt_irrefl _)).symm
           exact ⟨(), trivial, ⟨rfl, rfl, rfl, rfl, rfl, congrArg (fun b => some (Value.bool b)) hfin, trivial⟩, .cons (.cons (.cons .nil)), rfl⟩
       · intro _ _
         refine cd (fun hl => ?_) (fun hl => ?_)
         · have hXR : X = R := by rw [← hX1]; exact (Nat.mod_eq_of_lt hl).symm
           subst hXR
           exact ⟨(), trivial, ⟨⟨rfl, rfl, rfl, rfl, rfl, trivial⟩, .cons (.cons (.cons .nil)), rfl⟩⟩
         · obtain ⟨Y, hY⟩ : ∃ Y, X = Y + L0 := ⟨X - L0, by omega⟩
           have hY1 : Y % L0 = R := by rw [← hX1, hY, Nat.add_mod_right]
           have hY2 : Y < 256 * L0 := by omega
           have hY3 : Y / L0 < X / L0 := by rw [hY, Nat.add_div_right _ (by decide)]; omega
           have H0 : X / 256 ^ 0 = Y / 256 ^ 0 + L0 / 256 ^ 0 + 0 := by rw [Nat.pow_zero, Nat.div_one, Nat.div_one, Nat.div_one]; omega
           refine lp qc (fun x : Nat × Nat => x.1 ≤ 34 ∧ x.2 < 2 ∧ X / 256 ^ x.1 = Y / 256 ^ x.1 + L0 / 256 ^ x.1 + x.2) (fun x => ⟨[(0, .slice (some ⟨b, 0, none⟩) len cap), (2, ptq b2), (3, ptq b3), (4, ptq b4), (5, .int .i64 (i : Int)), (10, .int .i64 (x.2 : Int)), (11, .int .i64 (x.1 : Int))], [cl b2 qel 36, cl b3 (k32 L0) 36, cl b4 (row .i64 34 (qbN Y X x.1)) 264], []⟩) (fun x => 34 - x.1) (0, 0) ⟨Nat.zero_le _, by decide, H0⟩ (by rw [mixi_0]; exact ⟨⟨rfl, rfl, rfl, rfl, rfl, rfl, rfl, trivial⟩, .cons (.cons (.cons .nil)), rfl⟩) ?_
           rintro ⟨k, cc⟩ ⟨hk, hcc, h0⟩
           dsimp only at hk hcc h0 ⊢
           refine cd (fun h => ?_) (fun h => ?_)
           · have hlt : k < 34 := by omega
             obtain ⟨x, hx⟩ : ∃ x, X / 256 ^ k % 256 = x := ⟨_, rfl⟩
             obtain ⟨y, hy⟩ : ∃ y, L0 / 256 ^ k % 256 = y := ⟨_, rfl⟩
             have lx : x < 256 := by rw [← hx]; exact Nat.mod_lt _ (by decide)
             have ly : y < 256 := by rw [← hy]; exact Nat.mod_lt _ (by decide)
             have lz : Y / 256 ^ k % 256 < 256 := Nat.mod_lt _ (by decide)
             refine ⟨by omega, by omega, ?_⟩
             refine ld1 2 rfl (v := .int .i64 (x : Int)) (by rw [rgq _ _ _ _ hlt, mixi_at, dg_nat, hx]) ?_
             refine .same (by simp only [mn]; omega) (by simp only [mx]; omega) ?_
             refine cd (fun h32 => ?_) (fun h32 => ?_)
             · refine ⟨by omega, by omega, ?_⟩
               refine ld1 1 rfl (v := .int .u8 (y : Int)) (by unfold k32; rw [rgq _ _ _ _ (by omega), dg_nat, hy]) ?_
               refine .same (by simp only [mn]; omega) (by simp only [mx]; omega) ?_
               refine .same (by simp only [mn]; omega) (by simp only [mx]; omega) ?_
               by_cases hng : x < y + cc
               · skip
                 obtain ⟨s1, s2⟩ := (sub8 Y X L0 k cc x y h0 hcc hx hy).1 (by omega)
                 refine cd (fun hn => ?_) (fun hn => absurd (by omega) hn)
                 refine .as ((Y / 256 ^ k % 256 : Nat) : Int) (by omega) (by simp only [mn]; omega) (by simp only [mx]; omega) ?_
                 refine ⟨by omega, by omega, ?_⟩
                 refine s1e 2 _ rfl (rzq _ _ _ _ hlt) (rsq .i64 34 _ (qbN Y X (k + 1)) k _ (qbM Y X k _ rfl)) ?_
                 refine .as (((k + 1 : Nat) : Int)) (by omega) (by simp only [mn]; omega) (by simp only [mx]; omega) ?_
                 exact ⟨(k + 1, 1), ⟨by omega, by show (_ : Nat) < 2; omega, s2⟩, by omega, ⟨⟨rfl, rfl, rfl, rfl, rfl, rfl, rfl, trivial⟩, .cons (.cons (.cons .nil)), rfl⟩⟩
               · skip
                 obtain ⟨s1, s2⟩ := (sub8 Y X L0 k cc x y h0 hcc hx hy).2 (by omega)
                 refine cd (fun hn => absurd hn (by omega)) (fun hn => ?_)
                 rw [show (x : Int) - (cc : Int) - (y : Int) = ((Y / 256 ^ k % 256 : Nat) : Int) by omega]
                 refine ⟨by omega, by omega, ?_⟩
                 refine s1e 2 _ rfl (rzq _ _ _ _ hlt) (rsq .i64 34 _ (qbN Y X (k + 1)) k _ (qbM Y X k _ rfl)) ?_
                 refine .as (((k + 1 : Nat) : Int)) (by omega) (by simp only [mn]; omega) (by simp only [mx]; omega) ?_
                 exact ⟨(k + 1, 0), ⟨by omega, by show (_ : Nat) < 2; omega, s2⟩, by omega, ⟨⟨rfl, rfl, rfl, rfl, rfl, rfl, rfl, trivial⟩, .cons (.cons (.cons .nil)), rfl⟩⟩
             · have hy0 : L0 / 256 ^ k % 256 = 0 := by have := L0_top k (by omega); rw [dg_nat] at this; omega
               by_cases hng : x < 0 + cc
               · skip
                 obtain ⟨s1, s2⟩ := (sub8 Y X L0 k cc x 0 h0 hcc hx hy0).1 (by omega)
                 refine cd (fun hn => ?_) (fun hn => absurd (by omega) hn)
                 refine .as ((Y / 256 ^ k % 256 : Nat) : Int) (by omega) (by simp only [mn]; omega) (by simp only [mx]; omega) ?_
                 refine ⟨by omega, by omega, ?_⟩
                 refine s1e 2 _ rfl (rzq _ _ _ _ hlt) (rsq .i64 34 _ (qbN Y X (k + 1)) k _ (qbM Y X k _ rfl)) ?_
                 refine .as (((k + 1 : Nat) : Int)) (by omega) (by simp only [mn]; omega) (by simp only [mx]; omega) ?_
                 exact ⟨(k + 1, 1), ⟨by omega, by show (_ : Nat) < 2; omega, s2⟩, by omega, ⟨⟨rfl, rfl, rfl, rfl, rfl, rfl, rfl, trivial⟩, .cons (.cons (.cons .nil)), rfl⟩⟩
               · skip
                 obtain ⟨s1, s2⟩ := (sub8 Y X L0 k cc x 0 h0 hcc hx hy0).2 (by omega)
                 refine cd (fun hn => absurd hn (by omega)) (fun hn => ?_)
                 rw [show (x : Int) - (cc : Int) = ((Y / 256 ^ k % 256 : Nat) : Int) by omega]
                 refine ⟨by omega, by omega, ?_⟩
                 refine s1e 2 _ rfl (rzq _ _ _ _ hlt) (rsq .i64 34 _ (qbN Y X (k + 1)) k _ (qbM Y X k _ rfl)) ?_
                 refine .as (((k + 1 : Nat) : Int)) (by omega) (by simp only [mn]; omega) (by simp only [mx]; omega) ?_
                 exact ⟨(k + 1, 0), ⟨by omega, by show (_ : Nat) < 2; omega, s2⟩, by omega, ⟨⟨rfl, rfl, rfl, rfl, rfl, rfl, rfl, trivial⟩, .cons (.cons (.cons .nil)), rfl⟩⟩
           · obtain rfl : k = 34 := by omega
             rw [mixi_34]
             exact ⟨Y, ⟨hY1, hY2⟩, hY3, ⟨⟨rfl, rfl, rfl, rfl, rfl, trivial⟩, .cons (.cons (.cons .nil)), rfl⟩⟩
     · intro _ _
       refine .as ((i : Int) - 1) (by omega) (by simp only [mn]; omega) (by simp only [mx]; omega) ?_
       rw [← hR]
       exact ⟨i, by omega, by omega, ⟨⟨rfl, rfl, rfl, rfl, rfl, trivial⟩, .cons (.cons (.cons .nil)), rfl⟩⟩
 · obtain rfl : m = 0 := by omega
   rw [Nat.pow_zero, Nat.div_one]
   generalize N % L0 = r
   intro b13
   have hz : qel = row .u8 32 (qc2 r 0) := (show qel = k32 0 by kernel_rfl).trans (mixb_0 r).symm
   refine lp qc (fun k : Nat => k ≤ 32) (fun k => ⟨[(2, ptq b2), (4, ptq b4), (13, ptq b13), (14, .int .i64 (k : Int))], [cl b2 qel 36, dead, cl b4 (i34 r) 264, cl b13 (row .u8 32 (qc2 r k)) 36], []⟩) (fun k => 32 - k) 0 (Nat.zero_le _) (by rw [← hz]; exact ⟨⟨rfl, rfl, rfl, rfl, trivial⟩, .cons (.dead (.cons (.cons .nil))), rfl⟩) ?_
   intro k hk
   refine cd (fun h => ?_) (fun h => ?_)
   · have hlt : k < 32 := by omega
     have hb := dg8 r k
     refine ⟨by omega, by omega, ?_⟩
     refine ld1 2 rfl (rgq .i64 34 (dg 256 r) k (by omega)) ?_
     refine .same (by simp only [mn]; omega) (by simp only [mx]; omega) ?_
     refine ⟨by omega, by omega, ?_⟩
     refine s1e 3 _ rfl (rzq _ _ _ _ hlt) (rsq .u8 32 _ (qc2 r (k + 1)) k _ (mixb_upd r k _ rfl)) ?_
     refine .as (((k + 1 : Nat) : Int)) (by omega) (by simp only [mn]; omega) (by simp only [mx]; omega) ?_
     exact ⟨k + 1, by omega, by omega, ⟨rfl, rfl, rfl, rfl, trivial⟩, .cons (.dead (.cons (.cons .nil))), rfl⟩
   · obtain rfl : k = 32 := by omega
     rw [mixb_32]
     refine ldN 3 rfl (qf _) ?_
     refine sN 0 rfl (by rw [qf]; rfl) (k32_os _) ?_ (by kernel_rfl)
     refine ldN 0 rfl (qf _) ?_
     exact rt rfl
end
section
open Go.RowKit Go.Lib Go.Sx
theorem info3 : (Tryz.prog.info? 3).map (fun i => (i.zero, i.size, i.bytes)) = some (some (.int .i64 0), 1, 8) := by kernel_rfl
theorem undI : Tryz.prog.underlying 54 = some (.slice 3) := by kernel_rfl
theorem bsI (x : Int) (w : World) : (Instr.buildSlice 54 1 #[(0, .int .i64 x)]).run Tryz.prog w = .ok (.slice (some ⟨w.heap.size, 0, none⟩) 1 1) (w.alloc (.cells #[.int .i64 x] 3)) := by
 obtain ⟨i, hi, hz, hs, hb⟩ := Qg info3
 exact run_buildSlice w _ _ 1 _ #[.int .i64 x] i (.int .i64 0) undI hi hz (by rw [hs]; decide) (by rw [hs]; decide) (by rw [hs]; kernel_rfl)
theorem own_ints {M : Bks} {B w : World} {L : List Ent} (hs : St M B w L) {k n : Nat} {r : Sx.Own} {f : Nat → Int} (hk : L[k]? = some (se r (Qc .i64 n f) 3)) (hR : Rw 1 n r (Qc .i64 n f)) : ∃ a c, sv r n = .slice a n c ∧ IntsA w a n f := by
 rcases r with _ | ⟨b, c, j⟩
 · obtain rfl : n = 0 := hR.2
   exact ⟨none, 0, rfl, .inl rfl⟩
 · refine ⟨_, c, rfl, .inr ⟨b, rfl, hs.lt (List.mem_of_getElem? hk) rfl, fun i hi => ?_⟩⟩
   have hc := hs.cell (k := k) (b := b) (c := (Qc .i64 n f ++ j).toArray) (t := 3) (fz := (0, 0)) (ro := false) hk i
   rw [hc, List.getElem?_toArray, List.getElem?_append_left (by rw [zy]; exact hi)]
   simp [Qc, hi]
theorem refres_any (a : Option Addr) (len cap n : Nat) (hlen : len ≤ 1000) (hn : n < 256 ^ len) (w : World) (hb : Byts w a len n) :
 Calls Tryz.prog 132 #[.slice a len cap] w fun e w' => e = .returned (.agg (k32 (n % L0))) ∧ Below w.heap.size w w' := by
 refine qj (vs := [.slice a len cap]) qc Tryz.func132 rfl Tryz.ntmps132 rfl (St.start w) ?_
 intro b2
 refine lp qc (fun x : Nat × Sx.Own => x.1 ≤ len ∧ Rw 1 x.1 x.2 (Qc .i64 x.1 (dg 256 n))) (fun x => ⟨[(0, .slice a len cap), (2, ptr b2), (3, sv x.2 x.1), (4, .int .i64 (x.1 : Int))], [cl b2 ((#[.int .u8 0, .int .u8 0, .int .u8 0, .int .u8 0, .int .u8 0, .int .u8 0, .int .u8 0, .int .u8 0, .int .u8 0, .int .u8 0, .int .u8 0, .int .u8 0, .int .u8 0, .int .u8 0, .int .u8 0, .int .u8 0, .int .u8 0, .int .u8 0, .int .u8 0, .int .u8 0, .int .u8 0, .int .u8 0, .int .u8 0, .int .u8 0, .int .u8 0, .int .u8 0, .int .u8 0, .int .u8 0, .int .u8 0, .int .u8 0, .int .u8 0, .int .u8 0] : Array Value)) 36, se x.2 (Qc .i64 x.1 (dg 256 n)) 3], []⟩) (fun x => len - x.1) (0, none) ⟨Nat.zero_le _, Rw.nil 1⟩ ⟨⟨rfl, rfl, rfl, rfl, trivial⟩, .cons (.pad .nil), rfl⟩ ?_
 rintro ⟨k, r⟩ ⟨hk, hR⟩
 simp only at hk hR
 refine cd (fun h => ?_) (fun h => ?_)
 · have hlt : k < len := by (try simp only at h); omega
   rcases hb with h0 | ⟨b, o, rfl, hbl, hcb⟩
   · omega
   refine ⟨by omega, by omega, ?_⟩
   refine ldo (v := .int .u8 (dg 256 n k)) (by rw [qi, qh, Nat.mul_one, Int.toNat_natCast]; exact hcb k hlt) hbl ?_
   have hd := dg8 n k
   refine .same (by simp only [mn]; omega) (by simp only [mx]; omega) ?_
   refine .mk #[.int .i64 (dg 256 n k)] 3 (fun w => bsI _ w) (fun bn => ?_)
   refine ap1 1 2 qc rfl info3 rfl rfl hR rfl rfl (by omega) (by unfold maxLen; omega) (fun r' hR' => ?_)
   have hl2 : Qc .i64 k (dg 256 n) ++ [Value.int .i64 (dg 256 n k)] = Qc .i64 (k + 1) (dg 256 n) := (qeF _ _ _).symm
   rw [hl2] at hR' ⊢
   refine .as ((k + 1 : Nat) : Int) (by push_cast; rfl) (by simp only [mn]; omega) (by simp only [mx]; omega) ?_
   exact ⟨(k + 1, r'), ⟨hlt, hR'⟩, by simp only; omega, ⟨⟨rfl, rfl, rfl, rfl, trivial⟩, .cons (.cons (.drop .nil)), rfl⟩⟩
 · obtain rfl : k = len := by (try simp only at h); omega
   refine cvs (v := .agg (k32 (n % L0))) (fun w' hs => by
    obtain ⟨a2, c2, e, hia⟩ := own_ints hs (k := 1) rfl hR
    rw [e]
    exact rest_any a2 k c2 n hlen hn w' hia) ?_
   refine sN 0 rfl (by rw [qf]; rfl) (Zw _ _ _) ?_ (by kernel_rfl)
   refine ldN 0 rfl (qf _) ?_
   exact rt rfl
end
section
open Go.RowKit Go.Sx
theorem put_step (A : List UInt8) (hA : A.length = 32) (i : Nat) (hi : i < 32) : ((Lib.byteCells A).take (i + 1) ++ (List.replicate 32 (Value.int .u8 0)).drop (i + 1)).toArray = ((Lib.byteCells A).take i ++ (List.replicate 32 (Value.int .u8 0)).drop i).toArray.setIfInBounds (nad 0 (nmu (Int.toNat (i : Int)) 1)) (.int .u8 (A.getD i 0).toNat) := by
 have hl : (Lib.byteCells A).length = 32 := by rw [Lib.byteCells_length, hA]
 rw [qi, qh, Nat.zero_add, Nat.mul_one, Int.toNat_natCast, List.setIfInBounds_toArray, QJ _ _ _ (by rw [hl]; rfl) i (by omega) (qaX A i (by omega))]
theorem put_size (A : List UInt8) (hA : A.length = 32) (i : Nat) (hi : i ≤ 32) : ((Lib.byteCells A).take i ++ (List.replicate 32 (Value.int .u8 0)).drop i).toArray.size = 32 := by
 have hl : (Lib.byteCells A).length = 32 := by rw [Lib.byteCells_length, hA]
 simp [hl]; omega
theorem put_all (A : List UInt8) (hA : A.length = 32) : ((Lib.byteCells A).take 32 ++ (List.replicate 32 (Value.int .u8 0)).drop 32).toArray = k32 (leN A) := by
 have hl : (Lib.byteCells A).length = 32 := by rw [Lib.byteCells_length, hA]
 rw [← qaf A hA, List.take_of_length_le (by omega)]; simp
theorem take_at (D : List UInt8) (i : Nat) (hi : i < 32) : (D.take 32).getD i 0 = D.getD i 0 := by simp [List.getD, hi]
theorem drop_at (D : List UInt8) (i : Nat) : (D.drop 32).getD i 0 = D.getD (i + 32) 0 := by simp [List.getD, Nat.add_comm]
theorem cut_any (D : List UInt8) (hD : D.length = 64) (w : World) : Calls Tryz.prog 74 ([qdg D] : List Value).toArray w fun e w' => e = .returned (.tuple #[.agg (k32 (qaB D)), .agg (k32 (qaE D))]) ∧ Below w.heap.size w w' := by
 have hA : (D.take 32).length = 32 := by rw [List.length_take, hD]; rfl
 have hB : (D.drop 32).length = 32 := by rw [List.length_drop, hD]
 refine qj qc Tryz.func74 rfl Tryz.ntmps74 rfl (St.start w) ?_
 intro b1 b2 b3 b4 b5
 refine lp qc (fun i : Nat => i ≤ 32) (fun i => ⟨[(1, ptr b1), (2, ptr b2), (3, ptr b3), (4, ptr b4), (5, ptr b5), (6, .int .i64 i)], [cl b1 (Lib.byteCells D).toArray 41, cl b2 (List.replicate 32 (Value.int .u8 0)).toArray 36, cl b3 (List.replicate 32 (Value.int .u8 0)).toArray 36,
  cl b4 ((Lib.byteCells (D.take 32)).take i ++ (List.replicate 32 (Value.int .u8 0)).drop i).toArray 36, cl b5 ((Lib.byteCells (D.drop 32)).take i ++ (List.replicate 32 (Value.int .u8 0)).drop i).toArray 36], []⟩) (fun i => 32 - i) 0 (Nat.zero_le _)
  ⟨⟨rfl, rfl, rfl, rfl, rfl, rfl, trivial⟩, .cons (.cons (.cons (.cons (.cons .nil)))), rfl⟩ ?_
 intro i hi
 refine cd (fun h => ?_) (fun h => ?_)
 · have hlt : i < 32 := by omega
   refine ⟨by omega, by omega, ?_⟩
   refine ld1 0 rfl (v := .int .u8 ((D.take 32).getD i 0).toNat) (by rw [take_at D i hlt, qi, qh, Nat.zero_add, Nat.mul_one, Int.toNat_natCast, List.getElem?_toArray]; exact qaX D i (by omega)) ?_
   refine ⟨by omega, by omega, s1e 3 _ rfl (by rw [put_size _ hA i hi, qi, qh, Nat.zero_add, Nat.mul_one, Int.toNat_natCast]; exact hlt) (put_step _ hA i hlt).symm ?_⟩
   refine .as ((i + 32 : Nat) : Int) (by omega) (by simp only [mn]; omega) (by simp only [mx]; omega) ?_
   refine ⟨by omega, by omega, ?_⟩
   refine ld1 0 rfl (v := .int .u8 ((D.drop 32).getD i 0).toNat) (by rw [drop_at D i, qi, qh, Nat.zero_add, Nat.mul_one, Int.toNat_natCast, List.getElem?_toArray]; exact qaX D _ (by omega)) ?_
   refine ⟨by omega, by omega, s1e 4 _ rfl (by rw [put_size _ hB i hi, qi, qh, Nat.zero_add, Nat.mul_one, Int.toNat_natCast]; exact hlt) (put_step _ hB i hlt).symm ?_⟩
   refine .as ((i + 1 : Nat) : Int) (by omega) (by simp only [mn]; omega) (by simp only [mx]; omega) ?_
   exact ⟨i + 1, by omega, by omega, ⟨rfl, rfl, rfl, rfl, rfl, rfl, trivial⟩, .cons (.cons (.cons (.cons (.cons .nil)))), rfl⟩
 · obtain rfl : i = 32 := by omega
   rw [put_all _ hA, put_all _ hB]
   have e1 : leN (D.take 32) = qaB D := rfl
   have e2 : leN (D.drop 32) = qaE D := rfl
   rw [e1, e2]
   refine drs [dead, dead, dead, cl b4 (k32 (qaB D)) 36, cl b5 (k32 (qaE D)) 36] [3] (.t 0 (.t 1 (.n 2 (.n 3 .nil)))) qc qe (by kernel_rfl) (.dead (.dead (.dead (.cons (.cons .nil))))) ?_
   refine ldN 3 rfl (qf _) ?_
   refine ldN 4 rfl (qf _) ?_
   refine sN 1 rfl (by rw [qf]; rfl) (qv _) ?_ (by kernel_rfl)
   refine ⟨.dead (.dead (.dead (.cons (.cons .nil)))), ?_⟩
   refine sN 2 rfl (by rw [qf]; rfl) (qv _) ?_ (by kernel_rfl)
   refine ldN 1 rfl (qf _) ?_
   refine ldN 2 rfl (qf _) ?_
   exact rt rfl
theorem qbA (w : World) (v : Value) (bs : List UInt8) (hrd : Rd w v (Lib.byteCells bs)) (hn : bs.length ≤ 1000000) : Calls Tryz.prog 89 ([v] : List Value).toArray w fun e w' => e = .returned (.agg (k32 (resN bs))) ∧ Below w.heap.size w w' := by
 have hlen := shaB_len bs
 refine qj qc Tryz.func89 rfl Tryz.ntmps89 rfl (St.start w) ?_
 intro b2
 refine cvs (fun w' hs => qeK v bs w' (hrd.below hs.below) hn) ?_
 unfold resN
 generalize shaB bs = D at *
 have hl : (Lib.byteCells D).length = 64 := by rw [Lib.byteCells_length, hlen]
 intro b3
 refine sN 1 rfl (by simp [hl]) (Zj D) ?_ (by kernel_rfl)
 refine ⟨.mk 0 64 64 rfl rfl rfl (by decide) (by decide) (by decide) (by simp) (.on (by decide) ?_)⟩
 refine cvs (v := .agg (k32 (leN D % L0))) (fun w' hs => ?_) ?_
 · have hrd : Rd w' (.slice (some ⟨b3, 0, none⟩) 64 64) (Lib.byteCells D) := Rd.ent hs 1 rfl hl.symm (by rw [List.drop_zero, List.take_of_length_le (by simpa using Nat.le_of_eq hl)])
   obtain ⟨a, c, hv, hb⟩ := byts_of hrd
   rw [hlen] at hv hb
   injection hv with h1 h2 h3
   subst h1 h3
   exact refres_any _ 64 64 (leN D) (by decide) (by rw [← hlen]; exact qcu D) w' hb
 refine sN 0 rfl (by rw [qf]; rfl) (qv _) ?_ (by kernel_rfl)
 refine ldN 0 rfl (qf _) ?_
 exact rt rfl
theorem qaU (l : List UInt8) (i : Nat) (h : i < l.length) : (Lib.byteCells l).toArray[i]? = some (.int .u8 (l.getD i 0).toNat) := by rw [List.getElem?_toArray]; exact qaX l i h
theorem qe3 (l : List UInt8) (i : Nat) (b : UInt8) (x : Int) (hx : x = b.toNat) : (Lib.byteCells l).toArray.setIfInBounds i (.int .u8 x) = (Lib.byteCells (l.set i b)).toArray := by
 rw [hx, List.setIfInBounds_toArray, bytes_set]
theorem qcP (n : Nat) (w : World) : Calls Tryz.prog 43 ([.agg (k32 n)] : List Value).toArray w fun e w' => e = .returned (.tuple #[.agg (k32 (qdt n)), .agg (k32 (leN (qdu n)))]) ∧ Below w.heap.size w w' := by
 have hlen := shaB_len (qQ n)
 have hse : qdt n = leN (qaS ((shaB (qQ n)).take 32)) := rfl
 have hsa : leN (qdu n) = qaE (shaB (qQ n)) := rfl
 rw [hse, hsa]
 refine qj qc Tryz.func43 rfl Tryz.ntmps43 rfl (St.start w) ?_
 intro b1 b2 b3
 refine ⟨.mk 0 32 32 rfl rfl rfl (by decide) (by decide) (by decide) (by simp) (.on (by decide) ?_)⟩
 refine cvs (fun w' hs => qeK _ (qQ n) w' (Zx hs 0 rfl) (by rw [qt]; decide)) ?_
 refine cv (fun w => cut_any _ hlen w) ?_
 have hHl : ((shaB (qQ n)).take 32).length = 32 := by rw [List.length_take, hlen]; rfl
 have hF : k32 (qaB (shaB (qQ n))) = (Lib.byteCells ((shaB (qQ n)).take 32)).toArray := (qaf _ hHl).symm
 generalize qaE (shaB (qQ n)) = S at *
 rw [hF]
 generalize (shaB (qQ n)).take 32 = H at *
 have hHc : (Lib.byteCells H).length = 32 := by rw [Lib.byteCells_length, hHl]
 intro b4 b5
 refine sN 3 rfl (by simp [hHc]) (Zj H) ?_ (by kernel_rfl)
 refine sN 4 rfl (by rw [qf]; rfl) (qv _) ?_ (by kernel_rfl)
 have hb0 := (H.getD 0 0).toNat_lt
 refine ⟨by decide, by decide, ld1 3 rfl (qaU H 0 (by omega)) ?_⟩
 refine ⟨by decide, by decide, ld1 3 rfl (qaU H 0 (by omega)) ?_⟩
 refine ⟨by omega, by simp only [mx]; omega, by decide, ?_⟩
 refine .as ((UInt8.ofNat ((H.getD 0 0).toNat - (H.getD 0 0).toNat % 8)).toNat : Int) (by rw [UInt8.toNat_ofNat']; omega) (by simp only [mn]; omega) (by have := (UInt8.ofNat ((H.getD 0 0).toNat - (H.getD 0 0).toNat % 8)).toNat_lt; simp only [mx]; omega) ?_
 refine ⟨by decide, by decide, s1e 3 _ rfl (by rw [List.size_toArray, hHc]; decide) (qe3 H 0 _ _ rfl) ?_⟩
 generalize hx0 : UInt8.ofNat ((H.getD 0 0).toNat - (H.getD 0 0).toNat % 8) = x0
 have h31 : (H.set 0 x0).getD 31 0 = H.getD 31 0 := by simp [List.getD]
 have hb1 := (H.getD 31 0).toNat_lt
 have hl1 : (H.set 0 x0).length = 32 := by simp [hHl]
 refine ⟨by decide, by decide, ld1 3 rfl (qaU (H.set 0 x0) 31 (by omega)) ?_⟩
 rw [h31]
 refine ⟨by omega, by simp only [mx]; omega, by decide, ?_⟩
 refine .as ((UInt8.ofNat ((H.getD 31 0).toNat % 64 + 64)).toNat : Int) (by rw [UInt8.toNat_ofNat']; omega) (by simp only [mn]; omega) (by have := (UInt8.ofNat ((H.getD 31 0).toNat % 64 + 64)).toNat_lt; simp only [mx]; omega) ?_
 refine ⟨by decide, by decide, s1e 3 _ rfl (by rw [List.size_toArray, Lib.byteCells_length, hl1]; decide) (qe3 (H.set 0 x0) 31 _ _ rfl) ?_⟩
 have hcl : (H.set 0 x0).set 31 (UInt8.ofNat ((H.getD 31 0).toNat % 64 + 64)) = qaS H := by unfold qaS; rw [hx0]
 rw [hcl, qaf (qaS H) (by rw [qee, hHl])]
 generalize leN (qaS H) = a at *
 refine drs [dead, dead, dead, cl b4 (k32 a) 36, cl b5 (k32 S) 36] [3] (.t 0 (.t 1 (.n 2 (.n 3 .nil)))) qc qe (by kernel_rfl) (.dead (.dead (.dead (.cons (.cons .nil))))) ?_
 refine ldN 3 rfl (qf _) ?_
 refine ldN 4 rfl (qf _) ?_
 refine sN 1 rfl (by rw [qf]; rfl) (qv _) ?_ (by kernel_rfl)
 refine ⟨.dead (.dead (.dead (.cons (.cons .nil)))), ?_⟩
 refine sN 2 rfl (by rw [qf]; rfl) (qv _) ?_ (by kernel_rfl)
 refine ldN 1 rfl (qf _) ?_
 refine ldN 2 rfl (qf _) ?_
 exact rt rfl
theorem qdC (w : World) : Calls Tryz.prog 46 ([] : List Value).toArray w (RqG gG w) := by
 have hPP : GX < PP ∧ GY < PP := by decide +kernel
 have hx := fun w => rof_any GX w
 have hy := fun w => rof_any GY w
 rw [show GX % 2 ^ 255 % PP = GX by decide +kernel] at hx
 rw [show GY % 2 ^ 255 % PP = GY by decide +kernel] at hy
 have h1 := fun w => qc6 1 (by decide) w
 rw [show 1 % PP = 1 by decide +kernel] at h1
 have ht := fun w => q9 GX GY hPP.1 hPP.2 w
 refine (qj (v0 := .agg (rp GX GY 1 (GX * GY % PP))) qc Tryz.func46 rfl Tryz.ntmps46 rfl (St.start w) ?_).mono (fun e w' ⟨h1, h2⟩ => ?_)
 · intro b0
   refine bu (c := k32 GX) (by kernel_rfl) ?_
   refine cv (fun w => hx w) ?_
   intro b1
   refine sN 1 rfl (by rw [qg]; rfl) (QK _) ?_ (by kernel_rfl)
   refine bu (c := k32 GY) (by kernel_rfl) ?_
   refine cv (fun w => hy w) ?_
   intro b2
   refine sN 2 rfl (by rw [qg]; rfl) (QK _) ?_ (by kernel_rfl)
   refine drs [dead, cl b1 (r22 GX) 101, cl b2 (r22 GY) 101] [7] (.t 0 (.t 1 (.t 2 (.t 3 (.t 4 (.t 5 (.t 6 (.n 7 .nil)))))))) qc qe (by kernel_rfl) (.dead (.cons (.cons .nil))) ?_
   refine ldN 1 rfl (qg _) ?_
   refine ldN 2 rfl (qg _) ?_
   refine cz (fun w => h1 w) ?_
   refine ldN 1 rfl (qg _) ?_
   refine ldN 2 rfl (qg _) ?_
   refine cz (fun w => ht w) ?_
   refine bu (c := rp GX GY 1 (GX * GY % PP)) (by kernel_rfl) ?_
   refine sN 0 rfl (by rw [Qv]; rfl) (by rw [Array.all_toList]; exact qbl _ _ _ _) ?_ (by kernel_rfl)
   refine ldN 0 rfl (Qv _ _ _ _) ?_
   exact rt rfl
 · refine ⟨GX, GY, 1, GX * GY % PP, ⟨⟨qc9, ?_⟩, hPP.1, hPP.2, by decide +kernel, Nat.mod_lt _ qw⟩, h1, h2⟩
   rw [Qq, Qa, zF]
   show _ = fi GX * fi GY * 1
   grind
theorem rg {g : FuncId} {vs : Array Value} {w : World} {p : Fin PP × Fin PP} (h : Calls Tryz.prog g vs w (RqG p w)) : Calls Tryz.prog g vs w fun e w' => ∃ x : Nat × Nat × Nat × Nat, Rq x.1 x.2.1 x.2.2.1 x.2.2.2 p ∧ e = .returned (.agg (rp x.1 x.2.1 x.2.2.1 x.2.2.2)) ∧ Below w.heap.size w w' :=
 h.mono fun e w' ⟨x, y, z, t, h1, h2, h3⟩ => ⟨(x, y, z, t), h1, h2, h3⟩
theorem qaF (n : Nat) (w : World) : Calls Tryz.prog 12 ([.agg (k32 n)] : List Value).toArray w fun e w' => e = .returned (.agg (k32 (zb n))) ∧ Below w.heap.size w w' := by
 have hm := fun X Y Z T h w => rg (gr_many X Y Z T (qdt n) gG h (secN_lt n) w)
 have hk := fun X Y Z T h w => gr_key X Y Z T (pubP n) h w
 have hpp : pubP n = qS qF fd gG (qdt n) := rfl
 have hpn : zb n = qaM (pubP n) := rfl
 have hs := fun w => qcP n w
 rw [← hpp] at hm
 rw [hpn]
 generalize leN (qdu n) = sa at *
 generalize qdt n = se at *
 generalize pubP n = Q at *
 generalize qaM Q = kq at *
 refine qj qc Tryz.func12 rfl Tryz.ntmps12 rfl (St.start w) ?_
 intro b1 b2
 refine ldN 0 rfl (qf _) ?_
 refine cv (fun w => hs w) ?_
 intro b3 b4
 refine sN 2 rfl (by rw [qf]; rfl) (qv _) ?_ (by kernel_rfl)
 refine sN 3 rfl (by rw [qf]; rfl) (qv _) ?_ (by kernel_rfl)
 refine drs [dead, dead, cl b3 (k32 se) 36] [4] (.t 1 (.n 0 (.n 2 (.n 3 (.n 4 .nil))))) qc qe (by kernel_rfl) (.dead (.dead (.cons .nil))) ?_
 refine ldN 2 rfl (qf _) ?_
 refine ce (fun w _ => rg (qdC w)) (fun g hg => ?_)
 refine ⟨.dead (.dead (.cons .nil)), ?_⟩
 refine ce (fun w _ => hm _ _ _ _ hg w) (fun q hq => ?_)
 refine ⟨.dead (.dead (.cons .nil)), ?_⟩
 refine cv (fun w => hk _ _ _ _ hq w) ?_
 refine ⟨.dead (.dead (.cons .nil)), ?_⟩
 refine sN 1 rfl (by rw [qf]; rfl) (qv _) ?_ (by kernel_rfl)
 refine ldN 1 rfl (qf _) ?_
 exact rt rfl
end
section
open Go.RowKit Go.Lib Go.Sx
theorem mkL (w : World) : (Instr.makeSlice 54 (.int .i64 67) (.int .i64 67)).run Tryz.prog w = .ok (.slice (some ⟨w.heap.size, 0, none⟩) 67 67) (w.alloc (.cells (row .i64 67 fun _ => 0) 3)) := by
 obtain ⟨i0, hi, hz0, hz1, hz2⟩ := info_parts info3
 have h := run_makeSlice (P := Tryz.prog) w 54 3 i0 _ Tryz.underlying54 hi hz0 .i64 .i64 67 67 (by decide) (by decide) (by rw [hz1]; decide) (by rw [hz2]; decide) (by decide)
 rw [hz1] at h
 have e : madeCells (Value.int .i64 0).cells 67 = row .i64 67 fun _ => 0 := by
  apply Array.ext_getElem?
  intro j
  by_cases hj : j < 67
  · rw [qP _ _ _ _ hj]; simp [madeCells, Value.cells, hj, Nat.mod_one]
  · rw [ZY _ _ _ _ hj]; simp [madeCells]; omega
 have h2 : madeCells (Value.int .i64 0).cells ((67 : Int).toNat * 1) = row .i64 67 fun _ => 0 := e
 rw [h2] at h
 exact h
theorem sumf_32 (n : Nat) (hn : n < 115792089237316195423570985008687907853269984665640564039457584007913129639936) : qn 256 (dg 256 n) 32 = n := by
 have := zj 256 n 32
 rw [Nat.mod_eq_of_lt (by rw [p256_32]; exact hn)] at this
 exact this
theorem mul8 (x y : Int) (hx0 : 0 ≤ x) (hx : x < 256) (hy0 : 0 ≤ y) (hy : y < 256) : 0 ≤ x * y ∧ x * y ≤ 65025 :=
 ⟨Int.mul_nonneg hx0 hy0, by have := Int.mul_le_mul (show x ≤ 255 by omega) (show y ≤ 255 by omega) hy0 (by decide); omega⟩
theorem carry8 (h : Nat → Int) (i : Nat) (hi : i < 66) : qn 256 (upd (upd h (i + 1) (h (i + 1) + h i / 256)) i (h i % 256)) 67 = qn 256 h 67 := by
 rw [Qt _ _ _ _ _ (by omega), Qt _ _ _ _ _ (by omega), qs _ _ _ _ (by omega), Int.pow_succ]
 have e : h i = 256 * (h i / 256) + h i % 256 := by omega
 generalize h i / 256 = q at *
 generalize h i % 256 = r at *
 rw [e]
 generalize (256 : Int) ^ i = P
 grind
theorem bytes67 (V : Nat) (h : Nat → Int) (hb : ∀ j, j < 66 → 0 ≤ h j ∧ h j < 256) (h66 : 0 ≤ h 66) (hV : V < 256 ^ 66) (hs : qn 256 h 67 = V) : ∀ j, j < 67 → h j = dg 256 V j := by
 have h0 := Qf 256 (by decide) h 66 (fun i hi => (hb i hi).1)
 have hp : ((256 : Int) ^ 66) = ((256 ^ 66 : Nat) : Int) := by rw [Int.natCast_pow]; rfl
 have hs2 : qn 256 h 66 + h 66 * 256 ^ 66 = V := hs
 have hz : h 66 = 0 := by
  rcases Int.lt_or_le 0 (h 66) with h1 | h1
  · have h2 : 1 * (256 : Int) ^ 66 ≤ h 66 * 256 ^ 66 := Int.mul_le_mul_of_nonneg_right (by omega) (Int.le_of_lt (Int.pow_pos (by decide)))
    rw [hp] at h2 hs2
    generalize 256 ^ 66 = P at *
    omega
  · omega
 exact zL 256 h V 67 (fun i hi => by
  by_cases e : i = 66
  · rw [e, hz]; exact ⟨Int.le_refl 0, (by decide : (0 : Int) < 256)⟩
  · exact hb i (by omega)) hs
theorem p256_66 : (256 : Nat) ^ 66 = 878694100496718043517683302282418331810487718418343092402491322775749527474899974671687634004666183037093927858109549828751614463963730408009475621262727315456 := by decide +kernel
abbrev TK : Nat := 36
abbrev sl67 (b : Nat) : Value := .slice (some ⟨b, 0, none⟩) 67 67
theorem t3_add (A B C : Nat) (i : Nat) (h : Nat → Int) (hi : i < 67) (hs : qn 256 h 67 = qn 256 (dg 256 C) i + qn 256 (dg 256 A) i * B) :
 qn 256 (upd h i (h i + dg 256 C i)) 67 = qn 256 (dg 256 C) (i + 1) + qn 256 (dg 256 A) i * B := by
 rw [Qt _ _ _ _ _ hi, hs]
 show _ = qn 256 (dg 256 C) i + dg 256 C i * 256 ^ i + qn 256 (dg 256 A) i * B
 generalize (256 : Int) ^ i = P
 grind
theorem t3_mul (A B C : Nat) (i k : Nat) (h : Nat → Int) (hi : i + k < 67) (hs : qn 256 h 67 = qn 256 (dg 256 C) (i + 1) + qn 256 (dg 256 A) i * B + dg 256 A i * 256 ^ i * qn 256 (dg 256 B) k) :
 qn 256 (upd h (i + k) (h (i + k) + dg 256 A i * dg 256 B k)) 67 = qn 256 (dg 256 C) (i + 1) + qn 256 (dg 256 A) i * B + dg 256 A i * 256 ^ i * qn 256 (dg 256 B) (k + 1) := by
 rw [Qt _ _ _ _ _ hi, hs]
 show _ = _ + dg 256 A i * 256 ^ i * (qn 256 (dg 256 B) k + dg 256 B k * 256 ^ k)
 rw [Int.pow_add]
 generalize (256 : Int) ^ i = P
 generalize (256 : Int) ^ k = R
 grind
theorem upd_bd (h : Nat → Int) (s : Nat) (x M M' : Int) (hx : 0 ≤ x ∧ x ≤ M') (hM : M ≤ M') (hb : ∀ j, j < 67 → 0 ≤ h j ∧ h j ≤ M) : ∀ j, j < 67 → 0 ≤ upd h s x j ∧ upd h s x j ≤ M' := fun j hj => by
 unfold upd
 by_cases e : j = s
 · rw [if_pos e]; exact hx
 · rw [if_neg e]; have := hb j hj; omega
abbrev qc1 (b : Nat) : Value := .pointer (some ⟨b, 0, none⟩)
theorem rtimes3_any (A B C : Nat) (hA : A < 115792089237316195423570985008687907853269984665640564039457584007913129639936) (hB : B < 115792089237316195423570985008687907853269984665640564039457584007913129639936) (hC : C < 115792089237316195423570985008687907853269984665640564039457584007913129639936) (w : World) :
 Calls Tryz.prog 90 #[.agg (k32 A), .agg (k32 B), .agg (k32 C)] w fun e w' => e = .returned (.agg (k32 ((A * B + C) % L0))) ∧ Below w.heap.size w w' := by
 have hsA := sumf_32 A hA
 have hsB := sumf_32 B hB
 have hsC := sumf_32 C hC
 have hV : A * B + C < 256 ^ 66 := by
  rw [p256_66]
  have h1 : A * B < 115792089237316195423570985008687907853269984665640564039457584007913129639936 * 115792089237316195423570985008687907853269984665640564039457584007913129639936 := Nat.mul_lt_mul'' hA hB
  omega
 have hre := fun a cap w h => rest_any a 67 cap (A * B + C) (by decide) (Nat.lt_of_lt_of_le hV (Nat.pow_le_pow_right (by decide) (by decide))) w h
 refine qj qc Tryz.func90 rfl Tryz.ntmps90 rfl (St.start w) ?_
 intro b3 b4 b5 b6
 refine .mk 67 67 (row .i64 67 fun _ => 0) 3 (fun w => mkL w) (fun bl => ?_)
 refine lp qc (fun x : Nat × (Nat → Int) => x.1 ≤ 32 ∧ (∀ j, j < 67 → 0 ≤ x.2 j ∧ x.2 j ≤ (x.1 : Int) * 2081055) ∧ qn 256 x.2 67 = qn 256 (dg 256 C) x.1 + qn 256 (dg 256 A) x.1 * B) (fun x => ⟨[(3, qc1 b3), (4, qc1 b4), (5, qc1 b5), (6, qc1 b6), (7, sl67 bl), (8, .int .i64 x.1)], [cl b3 (k32 A) TK, cl b4 (k32 B) TK, cl b5 (k32 C) TK, cl b6 (#[.int .u8 0, .int .u8 0, .int .u8 0, .int .u8 0, .int .u8 0, .int .u8 0, .int .u8 0, .int .u8 0, .int .u8 0, .int .u8 0, .int .u8 0, .int .u8 0, .int .u8 0, .int .u8 0, .int .u8 0, .int .u8 0, .int .u8 0, .int .u8 0, .int .u8 0, .int .u8 0, .int .u8 0, .int .u8 0, .int .u8 0, .int .u8 0, .int .u8 0, .int .u8 0, .int .u8 0, .int .u8 0, .int .u8 0, .int .u8 0, .int .u8 0, .int .u8 0] : Array Value) TK, cl bl (row .i64 67 x.2) 3], []⟩) (fun x => 32 - x.1) (0, fun _ => 0) ⟨by decide, fun j _ => ⟨Int.le_refl 0, (by decide : (0 : Int) ≤ 0 * 2081055)⟩, by rw [zr _ _ _ (fun _ _ => rfl)]; show (0 : Int) = 0 + 0 * B; omega⟩ ⟨⟨rfl, rfl, rfl, rfl, rfl, rfl, trivial⟩, .refl _, rfl⟩ ?_
 rintro ⟨i, h⟩ ⟨hi, hbd, hs⟩
 simp only at hi hbd hs
 refine cd (fun hlt => ?_) (fun hge => ?_)
 · have hlt' : i < 32 := by (try simp only at hlt); omega
   obtain ⟨c0, c1⟩ := dg8 C i
   obtain ⟨z0, z1⟩ := hbd i (by omega)
   refine dr _ 12 (.t 0 (.t 1 (.t 2 (.t 3 (.t 4 (.t 5 (.t 6 (.t 7 (.t 8 (.t 9 (.t 10 (.t 11 (.n 12 .nil))))))))))))) qc qe (by kernel_rfl) (.refl _) ?_
   refine ⟨by (try simp only); omega, by (try simp only); omega, ?_⟩
   refine ld1 4 rfl (qY _ _ _ _ (by omega)) ?_
   refine ⟨by (try simp only); omega, by (try simp only); omega, ?_⟩
   refine ld1 2 rfl (qY _ _ _ _ hlt') ?_
   refine .same (by simp only [mn]; omega) (by simp only [mx]; omega) ?_
   refine .same (by simp only [mn]; omega) (by simp only [mx]; omega) ?_
   refine ⟨by (try simp only); omega, by (try simp only); omega, ?_⟩
   refine s1e 4 (row .i64 67 (upd h i (h i + dg 256 C i))) rfl (QV _ _ _ _ (by omega)) (zz _ _ _ _ _ _ rfl) ?_
   refine lp qc (fun x : Nat × (Nat → Int) => x.1 ≤ 32 ∧ (∀ j, j < 67 → 0 ≤ x.2 j ∧ x.2 j ≤ (i : Int) * 2081055 + 255 + (x.1 : Int) * 65025) ∧ qn 256 x.2 67 = qn 256 (dg 256 C) (i + 1) + qn 256 (dg 256 A) i * B + dg 256 A i * 256 ^ i * qn 256 (dg 256 B) x.1) (fun x => ⟨[(3, qc1 b3), (4, qc1 b4), (5, qc1 b5), (6, qc1 b6), (7, sl67 bl), (8, .int .i64 i), (9, .int .i64 x.1)], [cl b3 (k32 A) TK, cl b4 (k32 B) TK, cl b5 (k32 C) TK, cl b6 (#[.int .u8 0, .int .u8 0, .int .u8 0, .int .u8 0, .int .u8 0, .int .u8 0, .int .u8 0, .int .u8 0, .int .u8 0, .int .u8 0, .int .u8 0, .int .u8 0, .int .u8 0, .int .u8 0, .int .u8 0, .int .u8 0, .int .u8 0, .int .u8 0, .int .u8 0, .int .u8 0, .int .u8 0, .int .u8 0, .int .u8 0, .int .u8 0, .int .u8 0, .int .u8 0, .int .u8 0, .int .u8 0, .int .u8 0, .int .u8 0, .int .u8 0, .int .u8 0] : Array Value) TK, cl bl (row .i64 67 x.2) 3], []⟩) (fun x => 32 - x.1) (0, upd h i (h i + dg 256 C i)) ⟨Nat.zero_le _, upd_bd _ _ _ ((i : Int) * 2081055) _ ⟨by omega, by (try simp only); omega⟩ (by (try simp only); omega) hbd, by
    rw [t3_add A B C i h (by omega) hs]; show _ = _ + dg 256 A i * 256 ^ i * 0; omega⟩ ⟨⟨rfl, rfl, rfl, rfl, rfl, rfl, rfl, trivial⟩, .refl _, rfl⟩ ?_
   clear hs hbd c0 c1 z0 z1
   rintro ⟨k, g⟩ ⟨hk, hbd, hs⟩
   simp only at hk hbd hs
   refine cd (fun hkl => ?_) (fun hkg => ?_)
   · have hk' : k < 32 := by (try simp only at hkl); omega
     obtain ⟨x0, x1⟩ := dg8 A i
     obtain ⟨y0, y1⟩ := dg8 B k
     obtain ⟨p0, p1⟩ := mul8 _ _ x0 x1 y0 y1
     obtain ⟨z0, z1⟩ := hbd (i + k) (by omega)
     refine dr _ 21 (.t 0 (.t 1 (.t 2 (.t 3 (.t 4 (.t 5 (.t 6 (.t 7 (.t 8 (.t 9 (.t 10 (.t 11 (.t 12 (.t 13 (.t 14 (.t 15 (.t 16 (.t 17 (.t 18 (.t 19 (.t 20 (.n 21 .nil)))))))))))))))))))))) qc qe (by kernel_rfl) (.refl _) ?_
     refine .as ((i + k : Nat) : Int) (by (try simp only); (try push_cast); (try omega)) (by simp only [mn]; omega) (by simp only [mx]; omega) ?_
     refine .as ((i + k : Nat) : Int) (by (try simp only); (try push_cast); (try omega)) (by simp only [mn]; omega) (by simp only [mx]; omega) ?_
     refine ⟨by (try simp only); omega, by (try simp only); omega, ?_⟩
     refine ld1 4 rfl (qY _ _ _ _ (by omega)) ?_
     refine ⟨by (try simp only); omega, by (try simp only); omega, ?_⟩
     refine ld1 0 rfl (qY _ _ _ _ hlt') ?_
     refine .same (by simp only [mn]; omega) (by simp only [mx]; omega) ?_
     refine ⟨by (try simp only); omega, by (try simp only); omega, ?_⟩
     refine ld1 1 rfl (qY _ _ _ _ hk') ?_
     refine .same (by simp only [mn]; omega) (by simp only [mx]; omega) ?_
     refine .same (by simp only [mn]; omega) (by simp only [mx]; omega) ?_
     refine .same (by simp only [mn]; omega) (by simp only [mx]; omega) ?_
     refine ⟨by (try simp only); omega, by (try simp only); omega, ?_⟩
     refine s1e 4 (row .i64 67 (upd g (i + k) (g (i + k) + dg 256 A i * dg 256 B k))) rfl (QV _ _ _ _ (by omega)) (zz _ _ _ _ _ _ rfl) ?_
     refine .as ((k + 1 : Nat) : Int) (by (try simp only); (try push_cast); (try omega)) (by simp only [mn]; omega) (by simp only [mx]; omega) ?_
     exact ⟨(k + 1, upd g (i + k) (g (i + k) + dg 256 A i * dg 256 B k)), ⟨hk', upd_bd _ _ _ ((i : Int) * 2081055 + 255 + (k : Int) * 65025) _ ⟨by omega, by (try simp only); (try push_cast); omega⟩ (by (try simp only); (try push_cast); omega) hbd, t3_mul A B C i k g (by omega) hs⟩, by (try simp only); omega, ⟨⟨rfl, rfl, rfl, rfl, rfl, rfl, rfl, trivial⟩, .refl _, rfl⟩⟩
   · obtain rfl : k = 32 := by (try simp only at hkg); omega
     refine .as ((i + 1 : Nat) : Int) (by (try simp only); (try push_cast); (try omega)) (by simp only [mn]; omega) (by simp only [mx]; omega) ?_
     refine ⟨(i + 1, g), ⟨hlt', fun j hj => ?_, ?_⟩, by (try simp only); omega, ⟨⟨rfl, rfl, rfl, rfl, rfl, rfl, trivial⟩, .refl _, rfl⟩⟩
     · have := hbd j hj
       simp only
       push_cast
       omega
     · show qn 256 g 67 = qn 256 (dg 256 C) (i + 1) + (qn 256 (dg 256 A) i + dg 256 A i * 256 ^ i) * B
       rw [hs, hsB, Int.add_mul]; omega
 · obtain rfl : i = 32 := by (try simp only at hge); omega
   rw [hsA, hsC] at hs
   have hV2 : qn 256 h 67 = ((A * B + C : Nat) : Int) := by rw [hs]; push_cast; omega
   clear hs
   generalize A * B + C = V at *
   refine lp qc (fun x : Nat × (Nat → Int) => x.1 ≤ 66 ∧ (∀ j, j < x.1 → 0 ≤ x.2 j ∧ x.2 j < 256) ∧ (∀ j, x.1 ≤ j → j < 67 → 0 ≤ x.2 j ∧ x.2 j ≤ if j = x.1 then 80000000 else 70000000) ∧ qn 256 x.2 67 = (V : Int)) (fun x => ⟨[(3, qc1 b3), (4, qc1 b4), (5, qc1 b5), (6, qc1 b6), (7, sl67 bl), (10, .int .i64 x.1)], [cl b3 (k32 A) TK, cl b4 (k32 B) TK, cl b5 (k32 C) TK, cl b6 (#[.int .u8 0, .int .u8 0, .int .u8 0, .int .u8 0, .int .u8 0, .int .u8 0, .int .u8 0, .int .u8 0, .int .u8 0, .int .u8 0, .int .u8 0, .int .u8 0, .int .u8 0, .int .u8 0, .int .u8 0, .int .u8 0, .int .u8 0, .int .u8 0, .int .u8 0, .int .u8 0, .int .u8 0, .int .u8 0, .int .u8 0, .int .u8 0, .int .u8 0, .int .u8 0, .int .u8 0, .int .u8 0, .int .u8 0, .int .u8 0, .int .u8 0, .int .u8 0] : Array Value) TK, cl bl (row .i64 67 x.2) 3], []⟩) (fun x => 66 - x.1) (0, h) ⟨Nat.zero_le _, fun j hj => by (try simp only at hj); omega, fun j _ hj => by have := hbd j hj; show 0 ≤ h j ∧ h j ≤ _; split <;> omega, hV2⟩ ⟨⟨rfl, rfl, rfl, rfl, rfl, rfl, trivial⟩, .refl _, rfl⟩ ?_
   clear hbd hV2
   rintro ⟨k, g⟩ ⟨hk, hlo, hhi, hs⟩
   simp only at hk hlo hhi hs
   refine cd (fun hkl => ?_) (fun hkg => ?_)
   · have hk' : k < 66 := by (try simp only at hkl); omega
     obtain ⟨x0, x1⟩ := hhi k (Nat.le_refl _) (by omega)
     rw [if_pos rfl] at x1
     obtain ⟨y0, y1⟩ := hhi (k + 1) (by omega) (by omega)
     rw [if_neg (by omega)] at y1
     have hcs := carry8 g k hk'
     rw [hs] at hcs
     have e1 : upd g (k + 1) (g (k + 1) + g k / 256) k = g k := qs _ _ _ _ (by omega)
     refine dr _ 15 (.t 0 (.t 1 (.t 2 (.t 3 (.t 4 (.t 5 (.t 6 (.t 7 (.t 8 (.t 9 (.t 10 (.t 11 (.t 12 (.t 13 (.t 14 (.n 15 .nil)))))))))))))))) qc qe (by kernel_rfl) (.refl _) ?_
     refine .as ((k + 1 : Nat) : Int) (by (try simp only); (try push_cast); (try omega)) (by simp only [mn]; omega) (by simp only [mx]; omega) ?_
     refine .as ((k + 1 : Nat) : Int) (by (try simp only); (try push_cast); (try omega)) (by simp only [mn]; omega) (by simp only [mx]; omega) ?_
     refine ⟨by (try simp only); omega, by (try simp only); omega, ?_⟩
     refine ld1 4 rfl (qY _ _ _ _ (by omega)) ?_
     refine ⟨by (try simp only); omega, by (try simp only); omega, ?_⟩
     refine ld1 4 rfl (qY _ _ _ _ (by omega)) ?_
     refine ⟨x0, by simp only [mx]; omega, by decide, ?_⟩
     refine .same (by simp only [mn]; omega) (by simp only [mx]; omega) ?_
     refine ⟨by (try simp only); omega, by (try simp only); omega, ?_⟩
     refine s1e 4 (row .i64 67 (upd g (k + 1) (g (k + 1) + g k / 256))) rfl (QV _ _ _ _ (by omega)) (zz _ _ _ _ _ _ rfl) ?_
     refine ⟨by (try simp only); omega, by (try simp only); omega, ?_⟩
     refine ld1 4 rfl (qY _ _ _ _ (by omega)) ?_
     rw [e1]
     refine ⟨x0, by simp only [mx]; omega, by decide, ?_⟩
     refine ⟨by (try simp only); omega, by (try simp only); omega, ?_⟩
     refine s1e 4 (row .i64 67 (upd (upd g (k + 1) (g (k + 1) + g k / 256)) k (g k % 256))) rfl (QV _ _ _ _ (by omega)) (zz _ _ _ _ _ _ rfl) ?_
     refine .as ((k + 1 : Nat) : Int) (by (try simp only); (try push_cast); (try omega)) (by simp only [mn]; omega) (by simp only [mx]; omega) ?_
     refine ⟨(k + 1, upd (upd g (k + 1) (g (k + 1) + g k / 256)) k (g k % 256)), ⟨hk', fun j hj => ?_, fun j hj1 hj2 => ?_, hcs⟩, by (try simp only); omega, ⟨⟨rfl, rfl, rfl, rfl, rfl, rfl, trivial⟩, .refl _, rfl⟩⟩
     · simp only at hj ⊢
       by_cases e : j = k
       · subst e; rw [qu]; omega
       · rw [qs _ _ _ _ e, qs _ _ _ _ (by omega)]; exact hlo j (by omega)
     · simp only at hj1 ⊢
       rw [qs _ _ _ _ (by omega)]
       by_cases e : j = k + 1
       · subst e; rw [qu, if_pos rfl]; omega
       · rw [qs _ _ _ _ e, if_neg e]
         have := hhi j (by omega) hj2
         rwa [if_neg (by omega)] at this
   · obtain rfl : k = 66 := by (try simp only at hkg); omega
     have hby := bytes67 V g hlo (by have := hhi 66 (Nat.le_refl _) (by decide); exact this.1) hV hs
     refine cvs (fun w' hw => hre (some ⟨bl, 0, none⟩) 67 w' (.inr ⟨bl, rfl, hw.lt (List.mem_of_getElem? (i := 4) rfl) rfl, fun j hj => by rw [hw.cell (k := 4) rfl j, qP _ _ _ _ hj]; exact congrArg (fun z => some (Value.int .i64 z)) (hby j hj)⟩)) ?_
     refine sN 3 rfl (by rw [show (k32 (V % L0)).size = 32 from qR _ _ _]; rfl) (by unfold k32 row; exact List.all_eq_true.2 fun v hv => Zv _ _ _ v hv) ?_ (by rw [show (k32 (V % L0)).size = 32 from qR _ _ _]; kernel_rfl)
     refine ldN 3 rfl (qR _ _ _) ?_
     exact rt rfl
end
section
open Go.RowKit Go.Sx
theorem le32_leN (l : List UInt8) (h : l.length = 32) : qQ (leN l) = l := by
 refine leN_inj _ _ (by rw [qt, h]) (qbS _ ?_)
 have := qcu l
 rw [h] at this; exact this
theorem apB {N : Nat} {M : Bks} {B : World} {F : Option Nat} {L : List Ent} (k : Nat) {cs : Array Bool} {r : Sx.Own} {n : Nat} {pre l : List UInt8} {x : Value} {next : Value → List Ent → Prop}
 (hk : L[k]? = some (se r (Lib.byteCells pre) 5)) (hR : Rw 1 n r (Lib.byteCells pre)) (hrd : ∀ w, St M B w L → Rd w x (Lib.byteCells l)) (hb : n + l.length ≤ 10000000)
 (go : ∀ r', Rw 1 (n + l.length) r' (Lib.byteCells (pre ++ l)) → next (sv r' (n + l.length)) (L.set k (se r' (Lib.byteCells (pre ++ l)) 5))) : BiP ⟨Tryz.prog, tab, N, M, B, F⟩ .append #[48, 48] 48 cs [sv r n, x] L next := by
 refine ap (C := ⟨Tryz.prog, tab, N, M, B, F⟩) k (m := l.length) (news := Lib.byteCells l) qc rfl Qj rfl hk hR (fun w hs => ?_) (by omega) (by unfold maxLen; omega) (fun r' hr' => ?_)
 · have := (hrd w hs).src (P := Tryz.prog) Zq (fun u hu => by obtain ⟨_, _, rfl⟩ := List.mem_map.1 hu; rfl)
   rwa [Lib.byteCells_length] at this
 · rw [← Lib.byteCells_append] at hr' ⊢; exact go r' hr'
theorem qbz (b0 : Nat) : Rw 1 0 (some (b0, 0, [])) (Lib.byteCells []) := ⟨rfl, by decide, by decide, rfl⟩
theorem rdw {M : Bks} {B w : World} {L : List Ent} (hs : St M B w L) (k : Nat) {r : Sx.Own} {n : Nat} {l : List UInt8} (hk : L[k]? = some (se r (Lib.byteCells l) 5)) (hR : Rw 1 n r (Lib.byteCells l)) : Rd w (sv r n) (Lib.byteCells l) := Rd.own hs k hk hR
theorem rsign_core (n : Nat) (v : Value) (bs : List UInt8) (w : World) (hrd : Rd w v (Lib.byteCells bs)) (hn : bs.length ≤ 10000) (se pn R fn H sn : Nat) (sal : List UInt8) (Q : Fin PP × Fin PP) (hsal : sal.length = 32) (hles : qQ (leN sal) = sal)
 (hsec : ∀ w, Calls Tryz.prog 43 ([.agg (k32 n)] : List Value).toArray w fun e w' => e = .returned (.tuple #[.agg (k32 se), .agg (k32 (leN sal))]) ∧ Below w.heap.size w w')
 (hpub : ∀ w, Calls Tryz.prog 12 ([.agg (k32 n)] : List Value).toArray w fun e w' => e = .returned (.agg (k32 pn)) ∧ Below w.heap.size w w')
 (hres : ∀ w v, Rd w v (Lib.byteCells (sal ++ bs)) → Calls Tryz.prog 89 ([v] : List Value).toArray w fun e w' => e = .returned (.agg (k32 R)) ∧ Below w.heap.size w w')
 (hrch : ∀ w v, Rd w v (Lib.byteCells (qQ fn ++ qQ pn ++ bs)) → Calls Tryz.prog 89 ([v] : List Value).toArray w fun e w' => e = .returned (.agg (k32 H)) ∧ Below w.heap.size w w')
 (hm : ∀ X Y Z T, Rq X Y Z T gG → ∀ w, Calls Tryz.prog 45 ([.agg (rp X Y Z T), .agg (k32 R)] : List Value).toArray w fun e w' => ∃ x : Nat × Nat × Nat × Nat, Rq x.1 x.2.1 x.2.2.1 x.2.2.2 Q ∧ e = .returned (.agg (rp x.1 x.2.1 x.2.2.1 x.2.2.2)) ∧ Below w.heap.size w w')
 (hk : ∀ X Y Z T, Rq X Y Z T Q → ∀ w, Calls Tryz.prog 44 ([.agg (rp X Y Z T)] : List Value).toArray w fun e w' => e = .returned (.agg (k32 fn)) ∧ Below w.heap.size w w')
 (ht : ∀ w, Calls Tryz.prog 90 ([.agg (k32 H), .agg (k32 se), .agg (k32 R)] : List Value).toArray w fun e w' => e = .returned (.agg (k32 sn)) ∧ Below w.heap.size w w') :
 Calls Tryz.prog 52 ([.agg (k32 n), v] : List Value).toArray w fun e w' => e = .returned (qdg (qQ fn ++ qQ sn)) ∧ Below w.heap.size w w' := by
 refine qj qc Tryz.func52 rfl Tryz.ntmps52 rfl (St.start w) ?_
 intro b2 b4
 refine ldN 0 rfl (qf _) ?_
 refine cv (fun w => hsec w) ?_
 intro b5 b6
 refine sN 2 rfl (by rw [qf]; rfl) (qv _) ?_ (by kernel_rfl)
 refine sN 3 rfl (by rw [qf]; rfl) (qv _) ?_ (by kernel_rfl)
 refine ldN 0 rfl (qf _) ?_
 refine cv (fun w => hpub w) ?_
 intro b7
 refine sN 4 rfl (by rw [qf]; rfl) (qv _) ?_ (by kernel_rfl)
 refine .mk #[] 5 (fun w => bs0 w) (fun b0 => ?_)
 refine ⟨.mk 0 32 32 rfl rfl rfl (by decide) (by decide) (by decide) (by simp) (.on (by decide) ?_)⟩
 refine apB 5 (r := some (b0, 0, [])) (n := 0) (pre := []) (l := sal) rfl (qbz b0) (fun w' hs => by have := Zx hs 3 rfl; rwa [hles] at this) (by omega) (fun r1 hr1 => ?_)
 refine apB 5 (r := r1) (l := bs) rfl hr1 (fun w' hs => hrd.below hs.below) (by omega) (fun r2 hr2 => ?_)
 rw [hsal, List.nil_append] at hr2 ⊢
 refine cvs (fun w' hs => hres w' _ (rdw hs 5 rfl hr2)) ?_
 intro b8
 refine sN 6 rfl (by rw [qf]; rfl) (qv _) ?_ (by kernel_rfl)
 refine cut (α := Nat) (fun _ => True) (fun b9 => ⟨[(1, v), (4, ptr b4), (5, ptr b5), (7, ptr b7), (8, ptr b8), (9, ptr b9)], [dead, cl b4 (List.replicate 64 (Value.int .u8 0)).toArray 41, cl b5 (k32 se) 36, dead, cl b7 (k32 pn) 36, cl b8 (k32 R) 36, cl b9 (k32 fn) 36], []⟩) ?_ ?_
 · refine drs [dead, dead, dead, dead, dead, dead, cl b8 (k32 R) 36] [5] (.t 1 (.b 0 4 (.b 2 4 (.b 3 4 (.n 4 (.n 5 .nil)) (.n 3 (.n 5 .nil))) (.n 2 (.n 3 (.n 5 .nil)))) (.n 0 (.n 2 (.n 3 (.n 5 .nil)))))) qc qe (by kernel_rfl) (.dead (.dead (.dead (.dead (.dead (.dead (.cons .nil))))))) ?_
   refine ldN 6 rfl (qf _) ?_
   refine ⟨?_, ?_⟩
   · refine ce (fun w _ => rg (qdC w)) (fun g hg => ?_)
     refine ⟨(.dead (.dead (.dead (.dead (.dead (.dead (.cons .nil))))))), ?_⟩
     refine ⟨?_, ?_⟩
     · refine ce (fun w _ => hm _ _ _ _ hg w) (fun q hq => ?_)
       refine ⟨(.dead (.dead (.dead (.dead (.dead (.dead (.cons .nil))))))), ?_⟩
       refine ⟨?_, ?_⟩
       · refine cv (fun w => hk _ _ _ _ hq w) ?_
         refine ⟨(.dead (.dead (.dead (.dead (.dead (.dead (.cons .nil))))))), ?_⟩
         intro b9
         refine ⟨(.dead (.dead (.dead (.dead (.dead (.dead (.cons .nil))))))), ?_⟩
         refine sN 7 rfl (by rw [qf]; rfl) (qv _) ?_ (by kernel_rfl)
         exact ⟨b9, trivial, ⟨rfl, rfl, rfl, rfl, rfl, rfl, trivial⟩, .dead (.cons (.cons (.dead (.cons (.drop (.cons (.cons .nil))))))), rfl⟩
       · intro b9
         refine ⟨(.dead (.dead (.dead (.dead (.dead (.dead (.cons .nil))))))), ?_⟩
         refine cv (fun w => hk _ _ _ _ hq w) ?_
         refine ⟨(.dead (.dead (.dead (.dead (.dead (.dead (.cons .nil))))))), ?_⟩
         refine sN 7 rfl (by rw [qf]; rfl) (qv _) ?_ (by kernel_rfl)
         exact ⟨b9, trivial, ⟨rfl, rfl, rfl, rfl, rfl, rfl, trivial⟩, .dead (.cons (.cons (.dead (.cons (.drop (.cons (.cons .nil))))))), rfl⟩
     · intro b9
       refine ⟨(.dead (.dead (.dead (.dead (.dead (.dead (.cons .nil))))))), ?_⟩
       refine ce (fun w _ => hm _ _ _ _ hg w) (fun q hq => ?_)
       refine ⟨(.dead (.dead (.dead (.dead (.dead (.dead (.cons .nil))))))), ?_⟩
       refine cv (fun w => hk _ _ _ _ hq w) ?_
       refine ⟨(.dead (.dead (.dead (.dead (.dead (.dead (.cons .nil))))))), ?_⟩
       refine sN 7 rfl (by rw [qf]; rfl) (qv _) ?_ (by kernel_rfl)
       exact ⟨b9, trivial, ⟨rfl, rfl, rfl, rfl, rfl, rfl, trivial⟩, .dead (.cons (.cons (.dead (.cons (.drop (.cons (.cons .nil))))))), rfl⟩
   · intro b9
     refine ⟨(.dead (.dead (.dead (.dead (.dead (.dead (.cons .nil))))))), ?_⟩
     refine ce (fun w _ => rg (qdC w)) (fun g hg => ?_)
     refine ⟨(.dead (.dead (.dead (.dead (.dead (.dead (.cons .nil))))))), ?_⟩
     refine ce (fun w _ => hm _ _ _ _ hg w) (fun q hq => ?_)
     refine ⟨(.dead (.dead (.dead (.dead (.dead (.dead (.cons .nil))))))), ?_⟩
     refine cv (fun w => hk _ _ _ _ hq w) ?_
     refine ⟨(.dead (.dead (.dead (.dead (.dead (.dead (.cons .nil))))))), ?_⟩
     refine sN 7 rfl (by rw [qf]; rfl) (qv _) ?_ (by kernel_rfl)
     exact ⟨b9, trivial, ⟨rfl, rfl, rfl, rfl, rfl, rfl, trivial⟩, .dead (.cons (.cons (.dead (.cons (.drop (.cons (.cons .nil))))))), rfl⟩
 · intro b9 _
   refine cut (α := Nat) (fun _ => True) (fun b10 => ⟨[(4, ptr b4), (5, ptr b5), (8, ptr b8), (9, ptr b9), (10, ptr b10)], [dead, cl b4 (List.replicate 64 (Value.int .u8 0)).toArray 41, cl b5 (k32 se) 36, dead, dead, cl b8 (k32 R) 36, cl b9 (k32 fn) 36, cl b10 (k32 H) 36], []⟩) ?_ ?_
   · refine drs [] [9] (.t 1 (.t 3 (.t 5 (.b 0 8 (.b 2 8 (.b 4 8 (.b 6 8 (.b 7 8 (.n 8 (.n 9 .nil)) (.n 7 (.n 9 .nil))) (.n 6 (.n 7 (.n 9 .nil)))) (.n 4 (.n 6 (.n 7 (.n 9 .nil))))) (.n 2 (.n 4 (.n 6 (.n 7 (.n 9 .nil)))))) (.n 0 (.n 2 (.n 4 (.n 6 (.n 7 (.n 9 .nil)))))))))) qc qe (by kernel_rfl) .nil ?_
     refine ⟨.mk 0 32 32 rfl rfl rfl (by decide) (by decide) (by decide) (by simp) (.on (by decide) ?_)⟩
     refine ⟨.mk 0 32 32 rfl rfl rfl (by decide) (by decide) (by decide) (by simp) (.on (by decide) ?_)⟩
     refine ⟨?_, ?_⟩
     · refine .mk #[] 5 (fun w => bs0 w) (fun b0 => ?_)
       refine ⟨.nil, ?_⟩
       refine ⟨?_, ?_⟩
       · refine apB 7 (r := (some (b0, 0, []))) (n := 0) (pre := []) (l := (qQ fn)) rfl (qbz b0) (fun w' hs => Zx hs 6 rfl) (by rw [qt]; omega) (fun r1 hr1 => ?_)
         rw [qt] at hr1 ⊢
         refine ⟨.nil, ?_⟩
         refine ⟨?_, ?_⟩
         · refine apB 7 (r := r1) (n := (0 + 32)) (pre := ([] ++ (qQ fn))) (l := (qQ pn)) rfl hr1 (fun w' hs => Zx hs 4 rfl) (by rw [qt]; omega) (fun r2 hr2 => ?_)
           rw [qt] at hr2 ⊢
           refine ⟨.nil, ?_⟩
           refine ⟨?_, ?_⟩
           · refine apB 7 (r := r2) (n := ((0 + 32) + 32)) (pre := (([] ++ (qQ fn)) ++ (qQ pn))) (l := bs) rfl hr2 (fun w' hs => hrd.below hs.below) (by omega) (fun r3 hr3 => ?_)
             refine ⟨.nil, ?_⟩
             refine ⟨?_, ?_⟩
             · refine cvs (fun w' hs => hrch w' _ (rdw hs 7 rfl hr3)) ?_
               refine ⟨.nil, ?_⟩
               intro b10
               refine ⟨.nil, ?_⟩
               refine sN 8 rfl (by rw [qf]; rfl) (qv _) ?_ (by kernel_rfl)
               exact ⟨b10, trivial, ⟨rfl, rfl, rfl, rfl, rfl, trivial⟩, .dead (.cons (.cons (.dead (.dead (.cons (.cons (.drop (.cons .nil)))))))), rfl⟩
             · intro b10
               refine ⟨.nil, ?_⟩
               refine cvs (fun w' hs => hrch w' _ (rdw hs 7 rfl hr3)) ?_
               refine ⟨.nil, ?_⟩
               refine sN 8 rfl (by rw [qf]; rfl) (qv _) ?_ (by kernel_rfl)
               exact ⟨b10, trivial, ⟨rfl, rfl, rfl, rfl, rfl, trivial⟩, .dead (.cons (.cons (.dead (.dead (.cons (.cons (.drop (.cons .nil)))))))), rfl⟩
           · intro b10
             refine ⟨.nil, ?_⟩
             refine apB 7 (r := r2) (n := ((0 + 32) + 32)) (pre := (([] ++ (qQ fn)) ++ (qQ pn))) (l := bs) rfl hr2 (fun w' hs => hrd.below hs.below) (by omega) (fun r3 hr3 => ?_)
             refine ⟨.nil, ?_⟩
             refine cvs (fun w' hs => hrch w' _ (rdw hs 7 rfl hr3)) ?_
             refine ⟨.nil, ?_⟩
             refine sN 8 rfl (by rw [qf]; rfl) (qv _) ?_ (by kernel_rfl)
             exact ⟨b10, trivial, ⟨rfl, rfl, rfl, rfl, rfl, trivial⟩, .dead (.cons (.cons (.dead (.dead (.cons (.cons (.drop (.cons .nil)))))))), rfl⟩
         · intro b10
           refine ⟨.nil, ?_⟩
           refine apB 7 (r := r1) (n := (0 + 32)) (pre := ([] ++ (qQ fn))) (l := (qQ pn)) rfl hr1 (fun w' hs => Zx hs 4 rfl) (by rw [qt]; omega) (fun r2 hr2 => ?_)
           rw [qt] at hr2 ⊢
           refine ⟨.nil, ?_⟩
           refine apB 7 (r := r2) (n := ((0 + 32) + 32)) (pre := (([] ++ (qQ fn)) ++ (qQ pn))) (l := bs) rfl hr2 (fun w' hs => hrd.below hs.below) (by omega) (fun r3 hr3 => ?_)
           refine ⟨.nil, ?_⟩
           refine cvs (fun w' hs => hrch w' _ (rdw hs 7 rfl hr3)) ?_
           refine ⟨.nil, ?_⟩
           refine sN 8 rfl (by rw [qf]; rfl) (qv _) ?_ (by kernel_rfl)
           exact ⟨b10, trivial, ⟨rfl, rfl, rfl, rfl, rfl, trivial⟩, .dead (.cons (.cons (.dead (.dead (.cons (.cons (.drop (.cons .nil)))))))), rfl⟩
       · intro b10
         refine ⟨.nil, ?_⟩
         refine apB 7 (r := (some (b0, 0, []))) (n := 0) (pre := []) (l := (qQ fn)) rfl (qbz b0) (fun w' hs => Zx hs 6 rfl) (by rw [qt]; omega) (fun r1 hr1 => ?_)
         rw [qt] at hr1 ⊢
         refine ⟨.nil, ?_⟩
         refine apB 7 (r := r1) (n := (0 + 32)) (pre := ([] ++ (qQ fn))) (l := (qQ pn)) rfl hr1 (fun w' hs => Zx hs 4 rfl) (by rw [qt]; omega) (fun r2 hr2 => ?_)
         rw [qt] at hr2 ⊢
         refine ⟨.nil, ?_⟩
         refine apB 7 (r := r2) (n := ((0 + 32) + 32)) (pre := (([] ++ (qQ fn)) ++ (qQ pn))) (l := bs) rfl hr2 (fun w' hs => hrd.below hs.below) (by omega) (fun r3 hr3 => ?_)
         refine ⟨.nil, ?_⟩
         refine cvs (fun w' hs => hrch w' _ (rdw hs 7 rfl hr3)) ?_
         refine ⟨.nil, ?_⟩
         refine sN 8 rfl (by rw [qf]; rfl) (qv _) ?_ (by kernel_rfl)
         exact ⟨b10, trivial, ⟨rfl, rfl, rfl, rfl, rfl, trivial⟩, .dead (.cons (.cons (.dead (.dead (.cons (.cons (.drop (.cons .nil)))))))), rfl⟩
     · intro b10
       refine ⟨.nil, ?_⟩
       refine .mk #[] 5 (fun w => bs0 w) (fun b0 => ?_)
       refine ⟨.nil, ?_⟩
       refine apB 8 (r := (some (b0, 0, []))) (n := 0) (pre := []) (l := (qQ fn)) rfl (qbz b0) (fun w' hs => Zx hs 6 rfl) (by rw [qt]; omega) (fun r1 hr1 => ?_)
       rw [qt] at hr1 ⊢
       refine ⟨.nil, ?_⟩
       refine apB 8 (r := r1) (n := (0 + 32)) (pre := ([] ++ (qQ fn))) (l := (qQ pn)) rfl hr1 (fun w' hs => Zx hs 4 rfl) (by rw [qt]; omega) (fun r2 hr2 => ?_)
       rw [qt] at hr2 ⊢
       refine ⟨.nil, ?_⟩
       refine apB 8 (r := r2) (n := ((0 + 32) + 32)) (pre := (([] ++ (qQ fn)) ++ (qQ pn))) (l := bs) rfl hr2 (fun w' hs => hrd.below hs.below) (by omega) (fun r3 hr3 => ?_)
       refine ⟨.nil, ?_⟩
       refine cvs (fun w' hs => hrch w' _ (rdw hs 8 rfl hr3)) ?_
       refine ⟨.nil, ?_⟩
       refine sN 7 rfl (by rw [qf]; rfl) (qv _) ?_ (by kernel_rfl)
       exact ⟨b10, trivial, ⟨rfl, rfl, rfl, rfl, rfl, trivial⟩, .dead (.cons (.cons (.dead (.dead (.cons (.cons (.cons .nil))))))), rfl⟩
   · intro b10 _
     refine ldN 7 rfl (qf _) ?_
     refine ldN 2 rfl (qf _) ?_
     refine ldN 5 rfl (qf _) ?_
     refine cv (fun w => ht w) ?_
     intro b11
     refine sN 8 rfl (by rw [qf]; rfl) (qv _) ?_ (by kernel_rfl)
     intro b12
     obtain ⟨D, hD⟩ : ∃ D, D = qQ fn ++ qQ sn := ⟨_, rfl⟩
     have hDl : D.length = 64 := by rw [hD, List.length_append, qt, qt]
     have hDc : (Lib.byteCells D).length = 64 := by rw [Lib.byteCells_length, hDl]
     have hd0 : ∀ i, i < 32 → (qQ fn).getD i 0 = D.getD i 0 := fun i hi => by rw [hD]; simp [List.getD, List.getElem?_append_left (show i < (qQ fn).length by rw [qt]; exact hi)]
     have hd1 : ∀ i, 32 ≤ i → (qQ sn).getD (i - 32) 0 = D.getD i 0 := fun i hi => by rw [hD]; simp [List.getD, List.getElem?_append_right (show (qQ fn).length ≤ i by rw [qt]; exact hi), qt]
     rw [← hD]
     have hput : ∀ i, i < 64 → ((Lib.byteCells D).take (i + 1) ++ (List.replicate 64 (Value.int .u8 0)).drop (i + 1)).toArray = ((Lib.byteCells D).take i ++ (List.replicate 64 (Value.int .u8 0)).drop i).toArray.setIfInBounds (nad 0 (nmu (Int.toNat (i : Int)) 1)) (.int .u8 (D.getD i 0).toNat) := fun i hi => by
      rw [qi, qh, Nat.zero_add, Nat.mul_one, Int.toNat_natCast, List.setIfInBounds_toArray, QJ _ _ _ (by rw [hDc]; rfl) i (by omega) (qaX D i (by omega))]
     refine lp qc (fun i : Nat => i ≤ 64) (fun i => ⟨[(4, ptr b4), (9, ptr b9), (11, ptr b11), (12, ptr b12), (13, .int .i64 i)], [dead, cl b4 (List.replicate 64 (Value.int .u8 0)).toArray 41, dead, dead, dead, dead, cl b9 (k32 fn) 36, dead, cl b11 (k32 sn) 36, cl b12 ((Lib.byteCells D).take i ++ (List.replicate 64 (Value.int .u8 0)).drop i).toArray 41], []⟩) (fun i => 64 - i) 0 (Nat.zero_le _)
      ⟨⟨rfl, rfl, rfl, rfl, rfl, trivial⟩, .dead (.cons (.dead (.dead (.dead (.dead (.cons (.dead (.cons (.cons .nil))))))))), rfl⟩ ?_
     intro i hi
     refine cd (fun h => ?_) (fun h => ?_)
     · have hlt : i < 64 := by omega
       refine cd (fun h2 => ?_) (fun h2 => ?_)
       · have hl2 : i < 32 := by omega
         refine ⟨by omega, by omega, ?_⟩
         refine ld1 6 rfl (v := .int .u8 (D.getD i 0).toNat) (by rw [qi, qh, Nat.zero_add, Nat.mul_one, Int.toNat_natCast, ← hd0 i hl2, qbq]; exact qaU _ i (by rw [qt]; exact hl2)) ?_
         refine ⟨by omega, by omega, ?_⟩
         refine s1e 9 _ rfl (by rw [show (((Lib.byteCells D).take i ++ (List.replicate 64 (Value.int .u8 0)).drop i).toArray.size = 64) by simp [hDc]; omega, qi, qh, Nat.zero_add, Nat.mul_one, Int.toNat_natCast]; omega) (hput i hlt).symm ?_
         refine .as ((i + 1 : Nat) : Int) (by omega) (by simp only [mn]; omega) (by simp only [mx]; omega) ?_
         exact ⟨i + 1, by omega, by omega, ⟨rfl, rfl, rfl, rfl, rfl, trivial⟩, .dead (.cons (.dead (.dead (.dead (.dead (.cons (.dead (.cons (.cons .nil))))))))), rfl⟩
       · have hl2 : 32 ≤ i := by omega
         refine .as ((i - 32 : Nat) : Int) (by omega) (by simp only [mn]; omega) (by simp only [mx]; omega) ?_
         refine ⟨by omega, by omega, ?_⟩
         refine ld1 8 rfl (v := .int .u8 (D.getD i 0).toNat) (by rw [qi, qh, Nat.zero_add, Nat.mul_one, Int.toNat_natCast, ← hd1 i hl2, qbq]; exact qaU _ _ (by rw [qt]; omega)) ?_
         refine ⟨by omega, by omega, ?_⟩
         refine s1e 9 _ rfl (by rw [show (((Lib.byteCells D).take i ++ (List.replicate 64 (Value.int .u8 0)).drop i).toArray.size = 64) by simp [hDc]; omega, qi, qh, Nat.zero_add, Nat.mul_one, Int.toNat_natCast]; omega) (hput i hlt).symm ?_
         refine .as ((i + 1 : Nat) : Int) (by omega) (by simp only [mn]; omega) (by simp only [mx]; omega) ?_
         exact ⟨i + 1, by omega, by omega, ⟨rfl, rfl, rfl, rfl, rfl, trivial⟩, .dead (.cons (.dead (.dead (.dead (.dead (.cons (.dead (.cons (.cons .nil))))))))), rfl⟩
     · obtain rfl : i = 64 := by omega
       have hE : ((Lib.byteCells D).take 64 ++ (List.replicate 64 (Value.int .u8 0)).drop 64).toArray = (Lib.byteCells D).toArray := by rw [List.take_of_length_le (by omega)]; simp
       rw [hE]
       refine ldN 9 rfl (by simp [hDc]) ?_
       refine sN 1 rfl (by rw [List.size_toArray, hDc]; rfl) (Zj _) ?_ (by rw [List.size_toArray, hDc]; kernel_rfl)
       refine ldN 1 rfl (by simp [hDc]) ?_
       exact rt rfl
theorem rsign_any (n : Nat) (v : Value) (bs : List UInt8) (w : World) (hrd : Rd w v (Lib.byteCells bs)) (hn : bs.length ≤ 10000) : Calls Tryz.prog 52 ([.agg (k32 n), v] : List Value).toArray w fun e w' => e = .returned (qdg (qem n bs)) ∧ Below w.heap.size w w' := by
 have hl3 : rndN n bs < 115792089237316195423570985008687907853269984665640564039457584007913129639936 := by unfold rndN; exact resN_lt _
 have hl1 : qae (qc4 n bs) (zb n) bs < 115792089237316195423570985008687907853269984665640564039457584007913129639936 := by unfold qae; exact resN_lt _
 have h0 := rsign_core n v bs w hrd hn (qdt n) (zb n) (rndN n bs) (qc4 n bs) (qae (qc4 n bs) (zb n) bs) (sndN n bs) (qdu n) (firP n bs) (qci n) (le32_leN _ (qci n))
  (fun w => qcP n w) (fun w => qaF n w) (fun w v hr => by unfold rndN; exact qbA w v _ hr (by rw [List.length_append, qci]; omega)) (fun w v hr => by unfold qae; exact qbA w v _ hr (by rw [List.length_append, List.length_append, qt, qt]; omega))
  (fun X Y Z T h w => by unfold firP; exact rg (gr_many X Y Z T (rndN n bs) gG h hl3 w)) (fun X Y Z T h w => by unfold qc4; exact gr_key X Y Z T (firP n bs) h w)
  (fun w => by unfold sndN; exact rtimes3_any _ _ _ hl1 (secN_lt n) hl3 w)
 unfold qem; exact h0
end
section
open Go.RowKit Go.Sx
theorem pub_on (n : Nat) : OnP fd (pubP n) := fld.on_mul gG qd3 (qdt n)
theorem key_pub (n : Nat) : (cof (zb n)).1 = true ∧ qeu (zb n) = pubP n := by
 unfold zb
 exact ⟨by rw [cof_keyP _ (pub_on n)], cofP_key _ (pub_on n)⟩
theorem firN_lt (n : Nat) (bs : List UInt8) : qc4 n bs < 115792089237316195423570985008687907853269984665640564039457584007913129639936 := by unfold qc4; exact keyP_lt _
theorem sndN_lt (n : Nat) (bs : List UInt8) : sndN n bs < L0 := by unfold sndN; exact Nat.mod_lt _ (by decide +kernel)
theorem sig_halves (a b : Nat) (ha : a < 115792089237316195423570985008687907853269984665640564039457584007913129639936) (hb : b < 115792089237316195423570985008687907853269984665640564039457584007913129639936) : qaB (qQ a ++ qQ b) = a ∧ qaE (qQ a ++ qQ b) = b := by
 unfold qaB qaE
 exact ⟨by rw [List.take_left' (qt a)]; exact qbS a ha, by rw [List.drop_left' (qt a)]; exact qbS b hb⟩
theorem q_core (a h r s : Nat) (hs : s = (h * a + r) % L0) (P : Fin PP × Fin PP) (hP : P = qS qF fd gG a) : QL qF fd (qS qF fd gG s) (negA (qS qF fd P h)) = qS qF fd gG r := by
 have hon := fun k => fld.on_mul gG qd3 k
 have e1 : qS qF fd gG s = QL qF fd (qS qF fd gG (h * a)) (qS qF fd gG r) := by
  rw [hs, show (h * a + r) % L0 = (h * a + r) % LL from rfl, mul_rest, fld.mul_add gG qd3]
 rw [hP, fld.mul_mul gG qd3, Nat.mul_comm a h, e1, qfb (qS qF fd gG (h * a)), fld.add_assoc _ _ (negA (qS qF fd gG (h * a))) (hon r) (hon _) (on_neg _ (hon _)), show QL qF fd (qS qF fd gG (h * a)) (negA (qS qF fd gG (h * a))) = (0, 1) from fld.add_neg _ (hon _), fld.add_zero _ (hon r)]
theorem right_sig (n : Nat) (bs : List UInt8) : qan (zb n) (qem n bs) bs = true := by
 obtain ⟨k1, k2⟩ := key_pub n
 have hsl := sndN_lt n bs
 obtain ⟨h1, h2⟩ := sig_halves (qc4 n bs) (sndN n bs) (firN_lt n bs) (Nat.lt_trans hsl L0_lt)
 have hq : qbm (zb n) (qem n bs) bs = firP n bs := by
  unfold qbm qem
  rw [h1, h2, k2]
  unfold firP
  exact q_core (qdt n) (qae (qc4 n bs) (zb n) bs) (rndN n bs) (sndN n bs) (by unfold sndN; rfl) (pubP n) (by unfold pubP; rfl)
 unfold qan
 rw [k1, hq]
 unfold qem
 rw [h1, h2, decide_eq_true hsl, decide_eq_true (show qaM (firP n bs) = qc4 n bs by unfold qc4; rfl)]
 rfl
end
section
open Go.RowKit Go.Sx
theorem qdi : Tryz.prog.underlying 9 = some .string := by kernel_rfl
theorem undU8 : Tryz.prog.underlying 5 = some (.int .u8) := by kernel_rfl
abbrev VS (l : List UInt8) : Value := .string ⟨l.toArray⟩
theorem bs2 (x y : Int) (w : World) : (Instr.buildSlice 48 2 #[(0, .int .u8 x), (1, .int .u8 y)]).run Tryz.prog w = .ok (.slice (some ⟨w.heap.size, 0, none⟩) 2 2) (w.alloc (.cells #[.int .u8 x, .int .u8 y] 5)) := by
 obtain ⟨i, hi, hz, hs, hb⟩ := Qg Qj
 exact run_buildSlice w _ _ 2 _ #[.int .u8 x, .int .u8 y] i (.int .u8 0) Zq hi hz (by rw [hs]; decide) (by rw [hs]; decide) (by rw [hs]; kernel_rfl)
theorem one8 (l : List UInt8) : ∀ u ∈ Lib.byteCells l, u.oneCell' = true := by
 intro u hu
 obtain ⟨b, _, rfl⟩ := List.mem_map.1 hu
 rfl
theorem rd_str {w : World} {v : Value} {l : List UInt8} (h : Rd w v (Lib.byteCells l)) : (convert 48 9 v).run Tryz.prog w = .ok (VS l) w := by
 obtain ⟨a, c, rfl, h1⟩ := h
 rw [Lib.byteCells_length]
 by_cases h0 : l = []
 · subst h0
   cases a with
   | none => exact run_convert_bytes_nil w _ _ Zq undU8 0 c _ qdi
   | some a => exact run_convert_bytes_back w _ _ _ a c [] Zq undU8 qdi (fun j hj => by cases hj)
 · obtain ⟨b, o, rfl, _, hc⟩ := h1 (by intro h; apply h0; have := congrArg List.length h; rw [Lib.byteCells_length] at this; exact List.eq_nil_of_length_eq_zero this)
   exact run_convert_bytes_back w _ _ _ _ c l Zq undU8 qdi (fun j hj => by rw [Qp]; exact hc j _ (by simp [Lib.byteCells, hj]))
end
section
open Go.RowKit Go.Sx
abbrev Bs := List UInt8
theorem take_snoc (l : List UInt8) (m : Nat) (h : m < l.length) : l.take (m + 1) = l.take m ++ [l[m]] := List.take_succ_eq_append_getElem h
def zQ : ByteArray := ⟨#[48, 49, 50, 51, 52, 53, 54, 55, 56, 57, 97, 98, 99, 100, 101, 102]⟩
theorem hexes_any (w : World) : Calls Tryz.prog 151 ([] : List Value).toArray w fun e w' => e = .returned (.agg #[.string zQ, .int .i64 4]) ∧ Below w.heap.size w w' := by
 refine qj qc Tryz.func151 rfl Tryz.ntmps151 rfl (St.start w) ?_
 intro b
 refine bu (c := #[.string zQ, .int .i64 4]) (by kernel_rfl) ?_
 refine sN 0 rfl rfl rfl ?_ (by kernel_rfl)
 refine ldN 0 rfl rfl ?_
 exact rt rfl
theorem hex_any (v : Value) (bs : List UInt8) (hbs : bs.length ≤ 1000000) (w : World) (hv : Rd w v (Lib.byteCells bs)) : Calls Tryz.prog 118 ([v] : List Value).toArray w fun e w' => e = .returned (VS (QH zQ 4 bs)) ∧ Below w.heap.size w w' := by
 refine qj qc Tryz.func118 rfl Tryz.ntmps118 rfl (St.start w) ?_
 refine cv hexes_any ?_
 refine cvs (fun w' hs => code_any zQ 4 (by decide) (by decide) v bs hbs w' (hv.below hs.below)) ?_
 exact rt rfl
def zA : List UInt8 → List UInt8
 | [] => []
 | c :: l => sgn zQ (c.toNat / 16) :: sgn zQ (c.toNat % 16) :: zA l
theorem rhexL_snoc (l : List UInt8) (c : UInt8) : zA (l ++ [c]) = zA l ++ [sgn zQ (c.toNat / 16), sgn zQ (c.toNat % 16)] := by
 induction l with
 | nil => rfl
 | cons d l ih => simp only [List.cons_append, zA, ih]
theorem Q6 (l : List UInt8) : (zA l).length = 2 * l.length := by
 induction l with
 | nil => rfl
 | cons d l ih => simp only [zA, List.length_cons, ih]; omega
theorem cells_ne {l : List UInt8} (h : l ≠ []) : Lib.byteCells l ≠ [] := by intro h1; apply h; have := congrArg List.length h1; rw [Lib.byteCells_length] at this; exact List.eq_nil_of_length_eq_zero this
theorem cell_at {l : List UInt8} {i : Nat} (h : i < l.length) : (Lib.byteCells l)[i]? = some (.int .u8 l[i].toNat) := by simp [Lib.byteCells, h]
theorem rhex_any (v : Value) (l : List UInt8) (hl : l.length ≤ 1000000) (w : World) (hv : Rd w v (Lib.byteCells l)) : Calls Tryz.prog 92 ([v] : List Value).toArray w fun e w' => e = .returned (VS (zA l)) ∧ Below w.heap.size w w' := by
 have hv0 := hv
 obtain ⟨va, vc, rfl, _⟩ := hv
 rw [Lib.byteCells_length] at hv0 ⊢
 refine qj qc Tryz.func92 rfl Tryz.ntmps92 rfl (St.start w) ?_
 refine lp qc (fun x : Nat × Sx.Own => x.1 ≤ l.length ∧ Rw 1 (zA (l.take x.1)).length x.2 (Lib.byteCells (zA (l.take x.1)))) (fun x => ⟨[(0, .slice va l.length vc), (3, .string zQ), (4, sv x.2 (zA (l.take x.1)).length), (5, .int .i64 x.1)], [se x.2 (Lib.byteCells (zA (l.take x.1))) 5], []⟩) (fun x => l.length - x.1)
  (0, none) ⟨Nat.zero_le _, Rw.nil 1⟩ ⟨⟨rfl, rfl, rfl, rfl, trivial⟩, .pad .nil, rfl⟩ ?_
 rintro ⟨i, r⟩ ⟨hi, hR⟩
 simp only at hi hR
 refine cd (fun h => ?_) (fun h => ?_)
 · have hlt : i < l.length := by (try simp only at h); omega
   obtain ⟨b, o, c, e, hb, hcell⟩ := rd_at hv0 (cells_ne (by intro h; rw [h] at hlt; cases hlt))
   injection e with e1 e2 e3
   subst e1 e3
   have hcell := hcell i _ (cell_at hlt)
   have hsn := rhexL_snoc (l.take i) l[i]
   rw [← take_snoc l i hlt] at hsn
   have hlen := Q6 (l.take i)
   rw [List.length_take, Nat.min_eq_left hi] at hlen
   have hc : l[i].toNat < 256 := UInt8.toNat_lt _
   generalize l[i].toNat = ch at *
   refine dr [] 99 (.t 0 (.t 1 (.t 2 (.t 3 (.t 4 (.t 5 (.t 6 (.t 7 (.t 8 (.t 9 (.t 10 (.t 11 (.t 12 (.t 13 (.t 14 (.n 15 (.n 16 (.n 17 .nil)))))))))))))))))) qc qe (by kernel_rfl) .nil ?_
   refine ⟨by (try simp only); omega, by (try simp only); omega, ?_⟩
   refine ldo (v := .int .u8 ch) (by rw [qi, qh]; simpa using hcell) hb ?_
   refine ⟨by omega, by simp only [mx]; omega, by decide, ?_⟩
   refine chP (ch / 16) rfl (by show ch / 16 < 16; omega) ?_
   refine ⟨by (try simp only); omega, by (try simp only); omega, ?_⟩
   refine ldo (v := .int .u8 ch) (by rw [qi, qh]; simpa using hcell) hb ?_
   refine ⟨by omega, by simp only [mx]; omega, by decide, ?_⟩
   refine chP (ch % 16) rfl (by show ch % 16 < 16; omega) ?_
   refine .mk _ _ (bs2 _ _) (fun b' => ?_)
   refine ⟨.nil, ?_⟩
   refine ap 0 (news := Lib.byteCells [sgn zQ (ch / 16), sgn zQ (ch % 16)]) (m := 2) qc rfl Qj rfl rfl hR (srcE (C := ⟨Tryz.prog, tab, 31, [], w, none⟩) (e' := 5) (tx := 48) (z := 1) rfl qc (src 1 rfl rfl) rfl (one8 _)) (by (try simp only); omega) (by (try simp only); unfold maxLen; omega) (fun r' hR' => ?_)
   refine ⟨.nil, ⟨.nil, ?_⟩⟩
   refine .as ((i + 1 : Nat) : Int) (by simp) (by simp only [mn]; omega) (by simp only [mx]; omega) ?_
   refine ⟨(i + 1, r'), ⟨by (try simp only); omega, ?_⟩, by (try simp only); omega, ⟨⟨rfl, rfl, ?_, rfl, trivial⟩, ?_, rfl⟩⟩
   · simp only [hsn, List.length_append, Lib.byteCells_append]; exact hR'
   · simp only [hsn, List.length_append]; rfl
   · simp only [hsn, Lib.byteCells_append]; exact .cons .nil
 · obtain rfl : i = l.length := by (try simp only at h); omega
   refine semV (fun w' hs => rd_str (Rd.own hs 0 rfl hR)) ?_
   exact rt (by rw [List.take_length]; rfl)
end
end Go.Proofs.YtbgefoamhdgnaaaGreatDoor
section
namespace Go.Sx
open Go Go.RowKit
variable {C : Cx} {L : List Ent}
abbrev siE (b : Nat) (s : ByteArray) (pos : Nat) : Ent := ⟨b, some (.stringIter s pos), false, none⟩
theorem rngS {t : TypeId} {s : ByteArray} {next : Value → List Ent → Prop} (ht : C.P.underlying t = some .string) (go : ∀ b', next (.pointer (some ⟨b', 0, none⟩)) (L ++ [siE b' s 0])) : ZV C (Instr.range t (.string s)) L next :=
 ⟨fun w hs => ⟨_, _, _, by simp only [Instr.range, Sem.run_bind, run_underlying ht, Result.andThen_ok, Sem.run_pure, run_newObj_alloc], hs.alloc (.stringIter s 0), go _⟩⟩
theorem nxtS (j : Nat) {ty : TypeId} {it pos : Nat} {s : ByteArray} {next : Value → List Ent → Prop} (hj : L[j]? = some (siE it s pos)) (g0 : s.size ≤ pos → next (.tuple #[.bool false]) L)
 (g1 : pos < s.size → next (.tuple #[.bool true, .int .i64 pos, .int .i32 (Utf8.decode s pos).1]) (L.set j (siE it s (pos + (Utf8.decode s pos).2)))) : ZV C (Instr.next (.pointer (some ⟨it, 0, none⟩)) true ty) L next := by
 refine ⟨fun w hs => ?_⟩
 have hg := hs.nth hj
 by_cases h : pos < s.size
 · refine ⟨_, _, _, ?_, hs.put hj, g1 h⟩
   simp only [Instr.next, Sem.run_bind, qam hg (by simp), Result.andThen_ok, if_pos h]
   rw [qal hg (by simp)]
   rfl
 · refine ⟨_, _, _, ?_, hs, g0 (by omega)⟩
   simp only [Instr.next, Sem.run_bind, qam hg (by simp), Result.andThen_ok, if_neg h]
   rfl
end Go.Sx
namespace Go.Proofs.YtbgefoamhdgnaaaGreatDoor
open Go.RowKit Go.Sx
theorem get_str (s : Bs) (i : Nat) (h : i < s.length) : (⟨s.toArray⟩ : ByteArray).get! i = s[i] := by
 show s.toArray[i]! = s[i]
 simp [h]
theorem dec_lo (s : Bs) (i : Nat) (h : i < s.length) (hb : s[i].toNat < 128) : Utf8.decode ⟨s.toArray⟩ i = (s[i].toNat, 1) := by
 unfold Utf8.decode
 simp only [Nat.add_zero, get_str s i h, if_pos hb]
theorem dec_hi (s : Bs) (i : Nat) (h : i < s.length) (hb : 128 ≤ s[i].toNat) : 128 ≤ (Utf8.decode ⟨s.toArray⟩ i).1 := by
 unfold Utf8.decode Utf8.runeError
 simp only [Nat.add_zero, get_str s i h]
 rw [if_neg (by omega)]
 repeat' split
 all_goals (simp only; try (simp only [Bool.and_eq_true, decide_eq_true_eq] at *); try omega)
theorem qe2 (s : Bs) (od : Nat → Bool) (hod : ∀ c, 128 ≤ c → od c = true)
 (hf : ∀ i, i < s.length → ∀ w, Calls Tryz.prog 202 ([.int .i32 (Utf8.decode ⟨s.toArray⟩ i).1] : List Value).toArray w fun e w' => e = .returned (.bool (od (Utf8.decode ⟨s.toArray⟩ i).1)) ∧ Below w.heap.size w w') (w : World) :
 Calls Tryz.prog 195 ([VS s, .func (.func 202) #[] #[]] : List Value).toArray w fun e w' => e = .returned (.bool (s.any fun c => od c.toNat)) ∧ Below w.heap.size w w' := by
 have hz : (⟨s.toArray⟩ : ByteArray).size = s.length := by simp [ByteArray.size]
 refine qj qc Tryz.func195 rfl Tryz.ntmps195 rfl (St.start w) ?_
 refine inl (C := ⟨Tryz.prog, tab, _, [], w, _⟩) qc Tryz.func234 rfl Tryz.ntmps234 rfl ?_
 refine inl (C := ⟨Tryz.prog, tab, _, [], w, _⟩) qc Tryz.func258 rfl Tryz.ntmps258 rfl ?_
 refine rngS qdi (fun b => ?_)
 refine lp qc (fun i : Nat => i ≤ s.length ∧ ∀ j (hj : j < s.length), j < i → od s[j].toNat = false) (fun i => ⟨[(1, .func (.func 202) #[] #[]), (2, .bool true), (10, ptr b)], [siE b ⟨s.toArray⟩ i], []⟩) (fun i => s.length - i) 0 ⟨Nat.zero_le _, fun j hj h => by omega⟩ ⟨⟨rfl, rfl, rfl, trivial⟩, .cons .nil, rfl⟩ ?_
 rintro i ⟨hi, hno⟩
 refine nxtS 0 rfl (fun h => ?_) (fun h => ?_)
 · obtain rfl : i = s.length := by rw [hz] at h; omega
   have hany : (s.any fun c => od c.toNat) = false := List.any_eq_false.2 fun c hc => by
    obtain ⟨j, hj, rfl⟩ := List.getElem_of_mem hc
    rw [hno j hj hj]; decide
   refine cf rfl ?_
   iterate 2 refine bk ?_
   exact rt (congrArg Value.bool hany.symm)
 · rw [hz] at h
   refine ct rfl ?_
   refine cv (v := .bool (od (Utf8.decode ⟨s.toArray⟩ i).1)) (fun w => hf i h w) ?_
   cases hb : od (Utf8.decode ⟨s.toArray⟩ i).1 with
   | true =>
    have hany : (s.any fun c => od c.toNat) = true := List.any_eq_true.2 ⟨s[i], List.getElem_mem h, by
     by_cases h1 : s[i].toNat < 128
     · rw [dec_lo s i h h1] at hb; exact hb
     · exact hod _ (by omega)⟩
    refine ct rfl ?_
    iterate 2 refine bk ?_
    exact rt (congrArg Value.bool ((decide_eq_true (show ((i : Nat) : Int) ≥ 0 by omega)).trans hany.symm))
   | false =>
    have h1 : s[i].toNat < 128 := by
     by_cases h1 : s[i].toNat < 128
     · exact h1
     · have := hod _ (dec_hi s i h (by omega)); rw [this] at hb; cases hb
    rw [dec_lo s i h h1] at hb ⊢
    refine cf rfl ?_
    refine ⟨i + 1, ⟨by omega, fun j hj h2 => ?_⟩, by omega, ⟨⟨rfl, rfl, rfl, trivial⟩, .cons .nil, rfl⟩⟩
    by_cases hji : j = i
    · subst hji; exact hb
    · exact hno j hj (by omega)
theorem str_ext (s : Bs) (l h : Nat) : (⟨s.toArray⟩ : ByteArray).extract l h = ⟨((s.take h).drop l).toArray⟩ := by
 apply ByteArray.ext
 apply Array.ext'
 simp [ByteArray.data_extract, List.extract_eq_take_drop, List.drop_take]
theorem slTT {s : Bs} (h : Nat) (hh : h ≤ s.length) {next : Value → Prop} {fb : Prop} {x : Int} (hx : x = h) (go : next (VS (s.take h))) : SliP .str (VS s) none (some x) none next fb := by
 subst hx
 refine ⟨.mk 0 h s.length ?_ ?_ rfl (Nat.zero_le _) hh ?_ (fun e => by cases e) ?_⟩
 · simp [oi, ByteArray.size]
 · simp [oi]
 · simp [ByteArray.size]
 · rw [str_ext, List.drop_zero]; exact go
theorem slFF {s : Bs} (l : Nat) (hl : l ≤ s.length) {next : Value → Prop} {fb : Prop} {x : Int} (hx : x = l) (go : next (VS (s.drop l))) : SliP .str (VS s) (some x) none none next fb := by
 subst hx
 refine ⟨.mk l s.length s.length ?_ ?_ rfl hl (Nat.le_refl _) ?_ (fun _ => rfl) ?_⟩
 · simp [oi, ByteArray.size]
 · simp [oi, ByteArray.size]
 · first | rfl | simp [ByteArray.size]
 · rw [str_ext, List.take_of_length_le (Nat.le_refl _)]; exact go
theorem qaW (a b : List UInt8) : ((ByteArray.mk a.toArray).toList == (ByteArray.mk b.toArray).toList) = decide (a = b) := by rw [Bool.eq_iff_iff]; simp
theorem cutp_any (p s : Bs) (w : World) : Calls Tryz.prog 71 ([VS (p ++ s), VS p] : List Value).toArray w fun e w' => e = .returned (.tuple #[VS s, .bool true]) ∧ Below w.heap.size w w' := by
 refine qj qc Tryz.func71 rfl Tryz.ntmps71 rfl (St.start w) ?_
 refine inl (C := ⟨Tryz.prog, tab, _, [], w, _⟩) qc Tryz.func100 rfl Tryz.ntmps100 rfl ?_
 refine inl (C := ⟨Tryz.prog, tab, _, [], w, _⟩) qc Tryz.func143 rfl Tryz.ntmps143 rfl ?_
 have hz : ∀ l : Bs, (⟨l.toArray⟩ : ByteArray).size = l.length := fun l => by simp [ByteArray.size]
 have e1 : decide (((⟨(p ++ s).toArray⟩ : ByteArray).size : Int) ≥ ((⟨p.toArray⟩ : ByteArray).size : Int)) = true := decide_eq_true (by rw [hz, hz, List.length_append]; omega)
 have e2 : (decide (((⟨(p ++ s).toArray⟩ : ByteArray).size : Int) ≥ ((⟨p.toArray⟩ : ByteArray).size : Int)) == true) = true := by rw [e1]; rfl
 have e3 : ((ByteArray.mk ((p ++ s).take p.length).toArray).toList == (ByteArray.mk p.toArray).toList) = true := by rw [qaW, List.take_left' rfl]; exact decide_eq_true rfl
 iterate 4 refine ct e2 ?_
 refine slTT p.length (by rw [List.length_append]; omega) (by rw [hz]) ?_
 iterate 2 refine ct e2 ?_
 refine ct e1 ?_
 refine bk ?_
 refine cf (by rw [e3]; rfl) ?_
 refine slFF p.length (by rw [List.length_append]; omega) (by rw [hz]) ?_
 rw [List.drop_left' rfl]
 refine bk ?_
 exact rt rfl
end Go.Proofs.YtbgefoamhdgnaaaGreatDoor
end
namespace Go.Proofs.YtbgefoamhdgnaaaGreatDoor
section
open Go.RowKit Go.Sx
def qdR (c : Nat) : Bool := !(decide (97 ≤ c ∧ c ≤ 122) || decide (48 ≤ c ∧ c ≤ 57) || decide (c = 46) || decide (c = 45) || decide (c = 95) || decide (c = 64))
def oddL (c : Nat) : Bool := !(decide (97 ≤ c ∧ c ≤ 122))
def z8 (s : Bs) : Bool := decide (1 ≤ s.length) && decide (s.length ≤ 64) && !(s.any fun c => qdR c.toNat)
abbrev oddF : Value := .func (.func 202) #[] #[]
theorem qdQ (c : Nat) (h0 : 97 ≤ c) (h1 : c ≤ 122) (w : World) : Calls Tryz.prog 202 ([.int .i32 c] : List Value).toArray w fun e w' => e = .returned (.bool false) ∧ Below w.heap.size w w' := by
 refine qj qc Tryz.func202 rfl Tryz.ntmps202 rfl (St.start w) ?_
 have e1 : decide ((c : Int) < 97) = false := decide_eq_false (by omega)
 have e2 : decide ((c : Int) > 122) = false := decide_eq_false (by omega)
 repeat (first | refine cf (by rw [e1]; rfl) ?_ | refine cf (by rw [e2]; rfl) ?_ | refine ct (by rw [e1]; rfl) ?_ | refine ct (by rw [e2]; rfl) ?_ | refine cf e1 ?_ | refine cf e2 ?_ | exact rt rfl | refine cf rfl ?_ | refine ct rfl ?_)
theorem cfuncL_any (s : Bs) (hl : ∀ c ∈ s, 97 ≤ c.toNat ∧ c.toNat ≤ 122) (w : World) : Calls Tryz.prog 195 ([VS s, oddF] : List Value).toArray w fun e w' => e = .returned (.bool false) ∧ Below w.heap.size w w' := by
 have hlo : ∀ i (h : i < s.length), Utf8.decode ⟨s.toArray⟩ i = (s[i].toNat, 1) := fun i h => dec_lo s i h (by have := (hl _ (List.getElem_mem h)).2; omega)
 have hany : (s.any fun c => oddL c.toNat) = false := List.any_eq_false.2 fun c hc => by unfold oddL; rw [decide_eq_true (hl c hc)]; decide
 have h := qe2 s oddL (fun c hc => by unfold oddL; rw [decide_eq_false (by omega)]; rfl) (fun i hi w => by
  have hm := hl _ (List.getElem_mem hi)
  rw [hlo i hi, show oddL s[i].toNat = false by unfold oddL; rw [decide_eq_true hm]; rfl]
  exact qdQ _ hm.1 hm.2 w) w
 rw [hany] at h
 exact h
theorem qer (s : Bs) (h1 : 1 ≤ s.length) (h64 : s.length ≤ 64) (hl : ∀ c ∈ s, 97 ≤ c.toNat ∧ c.toNat ≤ 122) (w : World) : Calls Tryz.prog 146 ([VS s] : List Value).toArray w fun e w' => e = .returned (.bool true) ∧ Below w.heap.size w w' := by
 have hz : (⟨s.toArray⟩ : ByteArray).size = s.length := by simp [ByteArray.size]
 refine qj qc Tryz.func146 rfl Tryz.ntmps146 rfl (St.start w) ?_
 have e1 : ((ByteArray.mk s.toArray).toList == (ByteArray.mk #[]).toList) = false := by
  rw [show (#[] : Array UInt8) = ([] : Bs).toArray from rfl, qaW]
  exact decide_eq_false (by rintro rfl; simp at h1)
 have e2 : decide (((⟨s.toArray⟩ : ByteArray).size : Int) ≤ 64) = true := decide_eq_true (by rw [hz]; omega)
 have hc : ∀ w, Calls Tryz.prog 195 ([VS s, oddF] : List Value).toArray w fun e w' => e = .returned (.bool false) ∧ Below w.heap.size w w' := fun w => by
  have h := cfuncL_any s hl w
  exact h
 repeat (first | refine ct (by rw [e1]; rfl) ?_ | refine ct (by rw [e2]; rfl) ?_ | refine ct e2 ?_ | refine cv hc ?_ | exact rt rfl | refine cf rfl ?_ | refine ct rfl ?_)
end
section
open Go.RowKit Go.Sx
def ZS (k o : Int) (s : Bs) (g : Value) : Array Value := (.int .i64 k :: (List.replicate 32 (.int .u8 0) ++ (VS [] :: .slice none 0 0 :: .int .i64 o :: VS s :: (List.replicate 32 (.int .u8 0) ++ [g])))).toArray
abbrev TEn : Nat := 140
abbrev TSg : Nat := 137
theorem own_any (s : Bs) (g : Value) (hn : ∀ w, Calls Tryz.prog 146 ([VS s] : List Value).toArray w fun e w' => e = .returned (.bool true) ∧ Below w.heap.size w w') (w : World) :
 Calls Tryz.prog 101 ([.agg (ZS 4 3 s g)] : List Value).toArray w fun e w' => e = .returned (.bool true) ∧ Below w.heap.size w w' := by
 refine qj qc Tryz.func101 rfl Tryz.ntmps101 rfl (St.start w) ?_
 intro b
 repeat (first | refine ct rfl ?_ | refine cf rfl ?_ | refine ld1 0 rfl rfl ?_ | refine cv hn ?_ | exact rt rfl | refine bk ?_)
def QI : Array Value := (VS [] :: List.replicate 96 (.int .u8 0)).toArray
def hex0 : Bs := List.replicate 64 48
theorem hex0_eq : QH zQ 4 (List.replicate 32 0) = hex0 := by decide +kernel
theorem qbx (a b : List UInt8) : (⟨a.toArray⟩ : ByteArray) ++ ⟨b.toArray⟩ = ⟨(a ++ b).toArray⟩ := by
 apply ByteArray.ext
 simp [ByteArray.data_append]
def keyS0 : Bs := [107, 101, 121, 58] ++ hex0
theorem nil_nil : (!(ByteArray.mk #[]).toList == (ByteArray.mk #[]).toList) = false := by decide +kernel
theorem signer_any (w : World) : Calls Tryz.prog 147 ([.agg QI] : List Value).toArray w fun e w' => e = .returned (VS keyS0) ∧ Below w.heap.size w w' := by
 refine qj qc Tryz.func147 rfl Tryz.ntmps147 rfl (St.start w) ?_
 intro b
 refine ld1 0 rfl rfl ?_
 refine cf nil_nil ?_
 refine ⟨.mk 0 32 32 rfl rfl rfl (by decide) (by decide) (by decide) (by simp) (.on (by decide) ?_)⟩
 refine cvs (fun w' hs => hex_any _ (List.replicate 32 0) (by decide) w' (Rd.ent hs 0 (n := 32) (o := 1) rfl rfl rfl)) ?_
 rw [hex0_eq]
 refine ⟨by simp [ByteArray.size, hex0], ?_⟩
 exact rt (congrArg Value.string (qbx [107, 101, 121, 58] hex0))
theorem signed_any (sb c : Nat) (w : World) (hw : w.heap[sb]? = some (.cells QI TSg (0, 0))) : Calls Tryz.prog 102 ([.slice (some ⟨sb, 0, none⟩) 1 c] : List Value).toArray w fun e w' => e = .returned (.bool true) ∧ Below w.heap.size w w' := by
 refine qj qc Tryz.func102 rfl Tryz.ntmps102 rfl (St.reads (L := [cr sb QI TSg]) (by simp [hw])) ?_
 refine lp qc (fun i : Nat => i ≤ 1) (fun i => ⟨[(0, .slice (some ⟨sb, 0, none⟩) 1 c), (3, if i = 0 then VS [] else VS keyS0), (7, .slice (some ⟨sb, 0, none⟩) 1 c), (8, .int .i64 1), (9, .int .i64 i)], [cr sb QI TSg], []⟩) (fun i => 1 - i) 0 (by decide) ⟨⟨rfl, rfl, rfl, rfl, rfl, trivial⟩, .cons .nil, rfl⟩ ?_
 intro i hi
 refine cd (fun h => ?_) (fun h => ?_)
 · obtain rfl : i = 0 := by omega
   refine ⟨by omega, by omega, ?_⟩
   refine ldN 0 rfl rfl ?_
   intro b5
   refine sN 1 rfl rfl rfl ?_ (by kernel_rfl)
   refine ldN 1 rfl rfl ?_
   refine cv signer_any ?_
   have le0 : (Op.bytesLess (ByteArray.mk keyS0.toArray).toList (ByteArray.mk #[]).toList || (ByteArray.mk keyS0.toArray).toList == (ByteArray.mk #[]).toList) = false := by decide +kernel
   have n1 : ((!(ByteArray.mk #[]).toList == (ByteArray.mk #[]).toList) == true) = false := by rw [nil_nil]; rfl
   repeat (first | refine ct (by rw [le0]; rfl) ?_ | refine cf n1 ?_ | refine cf nil_nil ?_ | refine cf le0 ?_ | refine ld1 1 rfl rfl ?_)
   refine cf rfl ?_
   refine .as ((1 : Nat) : Int) (by decide) (by decide) (by decide) ?_
   exact ⟨1, by decide, by decide, ⟨⟨rfl, rfl, rfl, rfl, rfl, trivial⟩, .cons (.drop .nil), rfl⟩⟩
 · obtain rfl : i = 1 := by omega
   repeat (first | refine ct rfl ?_ | refine cf rfl ?_ | exact rt rfl)
end
section
open Go.RowKit Go.Sx
theorem sig_same (w : World) : (Op.equalIn 10000 TSg (.agg QI) (.agg QI)).run Tryz.prog w = .ok true w := by kernel_rfl
def Z32 : Array Value := (List.replicate 32 (Value.int .u8 0)).toArray
theorem sum_same (w : World) : (Op.equalIn 10000 39 (.agg Z32) (.agg Z32)).run Tryz.prog w = .ok true w := by kernel_rfl
theorem key_same (w : World) : (Op.equalIn 10000 36 (.agg Z32) (.agg Z32)).run Tryz.prog w = .ok true w := by kernel_rfl
theorem blank_any (s : Bs) (a : Option Addr) (n c : Nat) (w : World) : Calls Tryz.prog 104 ([.agg (ZS 4 3 s (.slice a n c))] : List Value).toArray w fun e w' => e = .returned (.agg (ZS 4 0 [] (.slice a n c))) ∧ Below w.heap.size w w' := by
 refine qj qc Tryz.func104 rfl Tryz.ntmps104 rfl (St.start w) ?_
 intro b1 b2
 refine ld1 0 rfl rfl ?_
 iterate 3 refine cf rfl ?_
 refine ct rfl ?_
 refine ld1 0 rfl rfl ?_
 refine cf rfl ?_
 refine s1e 0 (ZS 4 0 s (.slice a n c)) rfl (show 35 < 70 by decide) rfl ?_
 refine s1e 0 (ZS 4 0 [] (.slice a n c)) rfl (show 36 < 70 by decide) rfl ?_
 refine ldN 0 rfl rfl ?_
 refine sN 1 rfl rfl rfl ?_ (by kernel_rfl)
 refine ldN 1 rfl rfl ?_
 exact rt rfl
theorem eqnil_any (w : World) : Calls Tryz.prog 148 ([.slice none 0 0, .slice none 0 0] : List Value).toArray w fun e w' => e = .returned (.bool true) ∧ Below w.heap.size w w' := by
 refine qj qc Tryz.func148 rfl Tryz.ntmps148 rfl (St.start w) ?_
 refine cf rfl ?_
 refine lp qc (fun i : Unit => True) (fun i => ⟨[(12, .int .i64 0), (13, .int .i64 0)], [], []⟩) (fun _ => 0) () trivial ⟨⟨rfl, rfl, trivial⟩, .nil, rfl⟩ ?_
 intro i _
 refine cf rfl ?_
 exact rt rfl
theorem eqsig_any (sb c : Nat) (w : World) (hw : w.heap[sb]? = some (.cells QI TSg (0, 0))) : Calls Tryz.prog 149 ([.slice (some ⟨sb, 0, none⟩) 1 c, .slice (some ⟨sb, 0, none⟩) 1 c] : List Value).toArray w fun e w' => e = .returned (.bool true) ∧ Below w.heap.size w w' := by
 refine qj qc Tryz.func149 rfl Tryz.ntmps149 rfl (St.reads (L := [cr sb QI TSg]) (by simp [hw])) ?_
 refine cf rfl ?_
 refine lp qc (fun i : Nat => i ≤ 1) (fun i => ⟨[(0, .slice (some ⟨sb, 0, none⟩) 1 c), (1, .slice (some ⟨sb, 0, none⟩) 1 c), (12, .int .i64 1), (13, .int .i64 i)], [cr sb QI TSg], []⟩) (fun i => 1 - i) 0 (by decide) ⟨⟨rfl, rfl, rfl, rfl, trivial⟩, .cons .nil, rfl⟩ ?_
 intro i hi
 refine cd (fun h => ?_) (fun h => ?_)
 · obtain rfl : i = 0 := by omega
   refine dr [cr sb QI TSg] 99 (.t 0 (.t 1 (.t 2 (.t 3 (.t 4 (.t 5 (.t 6 (.t 7 (.n 8 .nil))))))))) qc qe (by kernel_rfl) (.cons .nil) ?_
   refine ⟨by omega, by omega, ?_⟩
   refine ldN 0 rfl rfl ?_
   refine ⟨by omega, by omega, ?_⟩
   refine ldN 0 rfl rfl ?_
   refine neR (by rfl) (by kernel_rfl) sig_same ?_
   refine ⟨.cons .nil, ?_⟩
   refine cf rfl ?_
   refine .as ((1 : Nat) : Int) (by decide) (by decide) (by decide) ?_
   exact ⟨1, by decide, by decide, ⟨⟨rfl, rfl, rfl, rfl, trivial⟩, .cons .nil, rfl⟩⟩
 · exact rt rfl
end
section
open Go.RowKit Go.Sx
theorem nilE : ((ByteArray.mk ([] : Bs).toArray).toList == (ByteArray.mk ([] : Bs).toArray).toList) = true := by decide +kernel
theorem qbf : (((ByteArray.mk ([] : Bs).toArray).toList == (ByteArray.mk ([] : Bs).toArray).toList) == true) = true := by rw [nilE]; rfl
theorem ent_d (g : Value) : (ZS 4 0 [] g).extract 1 (1 + 32) = Z32 := by unfold ZS Z32; rw [List.extract_toArray]; rfl
theorem ent_k (g : Value) : (ZS 4 0 [] g).extract 37 (37 + 32) = Z32 := by unfold ZS Z32; rw [List.extract_toArray]; rfl
theorem equal_any (sb c : Nat) (w : World) (hw : w.heap[sb]? = some (.cells QI TSg (0, 0))) : Calls Tryz.prog 103 ([.agg (ZS 4 0 [] (.slice (some ⟨sb, 0, none⟩) 1 c)), .agg (ZS 4 0 [] (.slice (some ⟨sb, 0, none⟩) 1 c))] : List Value).toArray w fun e w' => e = .returned (.bool true) ∧ Below w.heap.size w w' := by
 refine qj qc Tryz.func103 rfl Tryz.ntmps103 rfl (St.reads (L := [cr sb QI TSg]) (by simp [hw])) ?_
 intro b2 b3
 have hs1 : ∀ w', St [] w w' [cr sb QI TSg, cl b2 (ZS 4 0 [] (.slice (some ⟨sb, 0, none⟩) 1 c)) TEn, cl b3 (ZS 4 0 [] (.slice (some ⟨sb, 0, none⟩) 1 c)) TEn] → Calls Tryz.prog 149 ([.slice (some ⟨sb, 0, none⟩) 1 c, .slice (some ⟨sb, 0, none⟩) 1 c] : List Value).toArray w' fun e w'' => e = .returned (.bool true) ∧ Below w'.heap.size w' w'' := fun w' hs => eqsig_any sb c w' (hs.nth (k := 0) rfl)
 refine ld1 1 rfl rfl ?_
 refine ld1 2 rfl rfl ?_
 refine ct rfl ?_
 refine ct rfl ?_
 refine ldP 1 (d := Z32) rfl rfl (ent_d _) ?_
 refine ct rfl ?_
 refine ct rfl ?_
 refine ldP 2 (d := Z32) rfl rfl (ent_d _) ?_
 refine ct rfl ?_
 refine eqR (by rfl) (by kernel_rfl) sum_same ?_
 refine ct rfl ?_
 refine ct rfl ?_
 refine ct rfl ?_
 refine ld1 1 rfl rfl ?_
 refine ct rfl ?_
 refine ct rfl ?_
 refine ld1 2 rfl rfl ?_
 refine ct rfl ?_
 refine ct rfl ?_
 refine ct qbf ?_
 refine ct qbf ?_
 refine ld1 1 rfl rfl ?_
 refine ct qbf ?_
 refine ct qbf ?_
 refine ld1 2 rfl rfl ?_
 refine ct qbf ?_
 refine cv eqnil_any ?_
 refine ct nilE ?_
 refine ct rfl ?_
 refine ct rfl ?_
 refine ld1 1 rfl rfl ?_
 refine ct rfl ?_
 refine ct rfl ?_
 refine ld1 2 rfl rfl ?_
 refine ct rfl ?_
 refine ct rfl ?_
 refine ct rfl ?_
 refine ct rfl ?_
 refine ld1 1 rfl rfl ?_
 refine ct rfl ?_
 refine ct rfl ?_
 refine ld1 2 rfl rfl ?_
 refine ct rfl ?_
 refine ct rfl ?_
 refine ct qbf ?_
 refine ct qbf ?_
 refine ldP 1 (d := Z32) rfl rfl (ent_k _) ?_
 refine ct qbf ?_
 refine ct qbf ?_
 refine ldP 2 (d := Z32) rfl rfl (ent_k _) ?_
 refine ct qbf ?_
 refine eqR (by rfl) (by kernel_rfl) key_same ?_
 refine ct nilE ?_
 refine ct rfl ?_
 refine ct rfl ?_
 refine ld1 1 rfl rfl ?_
 refine ct rfl ?_
 refine ct rfl ?_
 refine ld1 2 rfl rfl ?_
 refine ct rfl ?_
 refine cvs hs1 ?_
 refine ct rfl ?_
 exact rt rfl
abbrev Zk (s : Bs) : Prop := ∀ w, Calls Tryz.prog 146 ([VS s] : List Value).toArray w fun e w' => e = .returned (.bool true) ∧ Below w.heap.size w w'
abbrev sg1 (sb c : Nat) : Value := .slice (some ⟨sb, 0, none⟩) 1 c
theorem check_any (s : Bs) (hn : Zk s) (sb c : Nat) (w : World) (hw : w.heap[sb]? = some (.cells QI TSg (0, 0))) : Calls Tryz.prog 72 ([.agg (ZS 4 3 s (sg1 sb c))] : List Value).toArray w fun e w' => e = .returned .nilIface ∧ Below w.heap.size w w' := by
 refine qj qc Tryz.func72 rfl Tryz.ntmps72 rfl (St.reads (L := [cr sb QI TSg]) (by simp [hw])) ?_
 intro b1
 refine dr [cr sb QI TSg, cl b1 (ZS 4 3 s (sg1 sb c)) TEn] 99 (.t 0 (.n 1 (.t 2 (.t 3 (.t 4 (.t 5 (.n 6 (.t 7 (.t 8 (.t 9 (.t 10 (.t 12 (.t 13 (.t 14 (.t 15 (.t 16 (.n 11 (.n 17 (.t 18 (.t 19 .nil)))))))))))))))))))) qc qe (by kernel_rfl) (.cons (.cons .nil)) ?_
 refine ldN 1 rfl rfl ?_
 refine cv (own_any s _ hn) ?_
 refine ⟨.cons (.cons .nil), ?_⟩
 refine ct rfl ?_
 refine ct rfl ?_
 refine ld1 1 rfl rfl ?_
 refine ct rfl ?_
 refine cvs (fun w' hs => signed_any sb c w' (hs.nth (k := 0) rfl)) ?_
 refine ⟨.cons (.cons .nil), ?_⟩
 refine ct rfl ?_
 refine cf rfl ?_
 refine ct rfl ?_
 refine ldN 1 rfl rfl ?_
 refine ct rfl ?_
 refine ct rfl ?_
 refine ld1 1 rfl rfl ?_
 refine ct rfl ?_
 refine ct rfl ?_
 refine ld1 1 rfl rfl ?_
 refine ct rfl ?_
 refine bu (c := ZS 4 0 [] (sg1 sb c)) (by kernel_rfl) ?_
 refine ct rfl ?_
 refine cv (blank_any s _ 1 c) ?_
 refine ⟨.cons (.cons .nil), ?_⟩
 refine ct rfl ?_
 refine cvs (fun w' hs => equal_any sb c w' (hs.nth (k := 0) rfl)) ?_
 refine ⟨.cons (.cons .nil), ?_⟩
 refine ct rfl ?_
 refine cf rfl ?_
 refine cf rfl ?_
 exact rt rfl
theorem undSgs : Tryz.prog.underlying 138 = some (.slice TSg) := by kernel_rfl
theorem infoSg : (Tryz.prog.info? TSg).map (fun i => (i.zero, i.size, i.bytes)) = some (some (.agg QI), 97, 112) := by kernel_rfl
theorem bsSg (w : World) : (Instr.buildSlice 138 1 #[(0, .agg QI)]).run Tryz.prog w = .ok (.slice (some ⟨w.heap.size, 0, none⟩) 1 1) (w.alloc (.cells QI TSg)) := by
 obtain ⟨i, hi, hz, hs, hb⟩ := Qg infoSg
 exact run_buildSlice w _ _ 1 _ QI i (.agg QI) undSgs hi hz (by rw [hs]; decide) (by rw [hs]; decide) (by rw [hs]; kernel_rfl)
def idP : Bs := [105, 100, 58]
theorem qbp (s : Bs) (hn : Zk s) (w : World) : Calls Tryz.prog 41 ([VS (idP ++ s)] : List Value).toArray w fun e w' => e = .returned (.bool true) ∧ Below w.heap.size w w' := by
 refine qj qc Tryz.func41 rfl Tryz.ntmps41 rfl (St.start w) ?_
 refine cv (cutp_any idP s) ?_
 refine ct rfl ?_
 refine bu (c := QI) (by kernel_rfl) ?_
 refine .mk QI TSg (fun w => bsSg w) (fun bn => ?_)
 refine bu (c := ZS 4 3 s (sg1 bn 1)) (by kernel_rfl) ?_
 intro b5
 refine sN 1 rfl rfl rfl ?_ (by kernel_rfl)
 refine ldN 1 rfl rfl ?_
 refine cvs (fun w' hs => check_any s hn bn 1 w' (hs.nth (k := 0) rfl)) ?_
 exact rt rfl
theorem qcv (s : Bs) (hl : s.length ≤ 1000000) (w : World) : Calls Tryz.prog 42 ([VS s] : List Value).toArray w fun e w' => e = .returned (VS (idP ++ s)) ∧ Below w.heap.size w w' := by
 refine qj qc Tryz.func42 rfl Tryz.ntmps42 rfl (St.start w) ?_
 refine ⟨by simp [ByteArray.size]; omega, ?_⟩
 exact rt (congrArg Value.string (qbx idP s))
end
section
open Go.RowKit Go.Sx
abbrev TAu : Nat := 96
abbrev THd : Nat := 43
structure Hd where
 o : Bs
 size : Int
 time : Int
 root : Bs
 sig : Bs
def hdC (h : Hd) : Array Value := (VS h.o :: .int .i64 h.size :: .int .i64 h.time :: (Lib.byteCells h.root ++ Lib.byteCells h.sig)).toArray
def keI (n : Int) : Value := .int .i64 n
def qag (h : Hd) : Prop := h.root.length = 32 ∧ h.sig.length = 64
abbrev qV (r : Bs) : Value := .agg (Lib.byteCells r).toArray
structure AuS where
 bA : Nat
 bm : Nat
 bh : Nat
 p : Nat
 o : Bs
 last : Option Hd
 fs : Es Int
 clk : Nat
def AuS.lastV (S : AuS) : Value := match S.last with | none => .pointer none | some _ => ptr S.bh
def auC (p : Nat) (o : Bs) (l m : Value) : Array Value := ((k32 p).toList ++ [VS o, l, m]).toArray
structure AuP (S : AuS) (u : World) : Prop where
 a : u.heap[S.bA]? = some (.cells (auC S.p S.o S.lastV (.map (some S.bm))) TAu (0, 0))
 m : u.heap[S.bm]? = some (qc3 keI S.fs S.clk)
 h : ∀ x, S.last = some x → u.heap[S.bh]? = some (.cells (hdC x) THd (0, 0))
 ne : S.bA ≠ S.bm
 nh : S.last ≠ none → S.bh ≠ S.bA ∧ S.bh ≠ S.bm
 nb : (S.fs.map (·.2.2)).Nodup
 lt : ∀ e ∈ S.fs, e.2.2 < S.clk
 hk : ∀ x, S.last = some x → qag x
 v : ∀ e ∈ S.fs, ∃ r : Bs, r.length = 32 ∧ e.2.1 = qV r
 kb : ∀ k ∈ S.fs.map (·.1), 0 ≤ k ∧ k ≤ 1048576
 ks : (S.fs.map (·.1)).Pairwise (· < ·)
 kl : ∀ x, S.last = some x → (S.fs.map (·.1)).getLast? = some x.size
 k0 : S.last = none → S.fs = []
def auR (S : AuS) : Res where
 w k := k = S.bA ∨ k = S.bm ∨ (S.last ≠ none ∧ k = S.bh)
 r _ := False
 p u := AuP S u
 st u v h := fun hp => ⟨(h _ (.inl (.inl rfl))).trans hp.a, (h _ (.inl (.inr (.inl rfl)))).trans hp.m, fun x hx => (h _ (.inl (.inr (.inr ⟨by rw [hx]; simp, rfl⟩)))).trans (hp.h x hx), hp.ne, hp.nh, hp.nb, hp.lt, hp.hk, hp.v, hp.kb, hp.ks, hp.kl, hp.k0⟩
 bd u := fun hp k hk => by
  rcases hk with (rfl | rfl | ⟨hn, rfl⟩) | hk
  · exact (Array.getElem?_eq_some_iff.1 hp.a).1
  · exact (Array.getElem?_eq_some_iff.1 hp.m).1
  · cases hl : S.last with
    | none => exact absurd hl hn
    | some x => exact (Array.getElem?_eq_some_iff.1 (hp.h x hl)).1
  · exact hk.elim
abbrev au0 (p : Nat) (o : Bs) (x : Nat × Nat) : AuS := ⟨x.1, x.2, 0, p, o, none, [], 0⟩
theorem qfa (p : Nat) (o : Bs) (hl : o.length ≤ 1000000) (hn : Zk o) (w : World) : Calls Tryz.prog 11 ([.agg (k32 p), VS o] : List Value).toArray w fun e w' => ∃ x : Nat × Nat, True ∧ e = .returned (.tuple #[ptr x.1, .nilIface]) ∧ Below w.heap.size w w' ∧ (auR (au0 p o x)).p w' ∧ (∀ k, (auR (au0 p o x)).w k → w.heap.size ≤ k) ∧ ∀ k, (auR (au0 p o x)).r k → False := by
 refine (enter qc Tryz.func11 rfl Tryz.ntmps11 rfl (St.start w) (R := fun v w' => ∃ x : Nat × Nat, v = .tuple #[ptr x.1, .nilIface] ∧ Below w.heap.size w w' ∧ (auR (au0 p o x)).p w' ∧ (∀ k, (auR (au0 p o x)).w k → w.heap.size ≤ k)) ?_).mono (fun e w' ⟨v, he, x, h1, h2, h3, h4⟩ => ⟨x, trivial, by rw [he, h1], h2, h3, h4, fun k hk => hk⟩)
 intro b2
 refine cv (qcv o hl) ?_
 refine cv (qbp o hn) ?_
 refine cf rfl ?_
 refine ldN 0 rfl (qf _) ?_
 refine mkm (keI : Int → Value) (fun bm => ?_)
 refine bu (c := auC p o (.pointer none) (.map (some bm))) (by kernel_rfl) ?_
 intro bA
 refine ⟨fun w1 hs => ⟨(bA, bm), rfl, hs.below, ?_, ?_⟩⟩
 · refine ⟨hs.nth (k := 2) rfl, hs.nth (k := 1) rfl, fun x hx => by simp at hx, ?_, fun h => by simp at h, by simp, by simp, fun x hx => by simp at hx, by simp, by simp, by simp, fun x hx => by simp at hx, fun _ => rfl⟩
   have := QG hs.apart (i := 1) (j := 2) rfl rfl (by decide)
   have h2 := (this bA).2 (by simp)
   simp at h2
   exact fun e => h2 e.symm
 · rintro k (rfl | rfl | ⟨h, _⟩)
   · rcases hs.own _ (List.mem_of_getElem? (i := 2) rfl) rfl rfl with h | h
     · exact h
     · simp at h
   · rcases hs.own _ (List.mem_of_getElem? (i := 1) rfl) rfl rfl with h | h
     · exact h
     · simp at h
   · exact absurd rfl h
end
section
open Go.RowKit Go.Sx
theorem qeB (h : Hd) (hl : h.o.length ≤ 1000000) (hn : Zk h.o) (h0 : 0 ≤ h.size) (h1 : h.size ≤ 1048576) (h2 : 0 ≤ h.time) (h3 : h.time ≤ 9007199254740991) (w : World) :
 Calls Tryz.prog 115 ([.agg (hdC h)] : List Value).toArray w fun e w' => e = .returned (.bool true) ∧ Below w.heap.size w w' := by
 have e1 := decide_eq_true (show h.size ≥ 0 from h0)
 have e2 := decide_eq_true h1
 have e3 := decide_eq_true (show h.time ≥ 0 from h2)
 have e4 := decide_eq_true h3
 have g1 : (decide (h.size ≥ 0) == true) = true := by rw [e1]; rfl
 have g2 : (decide (h.size ≤ 1048576) == true) = true := by rw [e2]; rfl
 have g3 : (decide (h.time ≥ 0) == true) = true := by rw [e3]; rfl
 refine qj qc Tryz.func115 rfl Tryz.ntmps115 rfl (St.start w) ?_
 intro b1
 refine ld1 0 rfl rfl ?_
 refine cv (qcv h.o hl) ?_
 refine cv (qbp h.o hn) ?_
 refine ct rfl ?_
 refine ct rfl ?_
 refine ld1 0 rfl rfl ?_
 refine ct rfl ?_
 refine ct rfl ?_
 refine ct g1 ?_
 refine ct g1 ?_
 refine ld1 0 rfl rfl ?_
 refine ct g1 ?_
 refine ct e1 ?_
 refine ct g2 ?_
 refine ct g2 ?_
 refine ld1 0 rfl rfl ?_
 refine ct g2 ?_
 refine ct e2 ?_
 refine ct g3 ?_
 refine ct g3 ?_
 refine ld1 0 rfl rfl ?_
 refine ct g3 ?_
 refine ct e3 ?_
 exact rt (congrArg Value.bool e4)
theorem slB {s : Bs} (l h : Nat) (hl : l ≤ h) (hh : h ≤ s.length) {next : Value → Prop} {fb : Prop} {x y : Int} (hx : x = l) (hy : y = h) (go : next (VS ((s.take h).drop l))) : SliP .str (VS s) (some x) (some y) none next fb := by
 subst hx; subst hy
 refine ⟨.mk l h s.length ?_ ?_ rfl hl hh ?_ (fun e => by cases e) ?_⟩
 · simp [oi, ByteArray.size]
 · simp [oi]
 · simp [ByteArray.size]
 · rw [str_ext]; exact go
def DG : Bs := [48, 49, 50, 51, 52, 53, 54, 55, 56, 57, 97, 98, 99, 100, 101, 102, 103, 104, 105, 106, 107, 108, 109, 110, 111, 112, 113, 114, 115, 116, 117, 118, 119, 120, 121, 122]
theorem itoa_fig (u : Nat) (hu : u < 10) (w : World) : Calls Tryz.prog 116 ([.int .i64 u] : List Value).toArray w fun e w' => e = .returned (VS [UInt8.ofNat (48 + u)]) ∧ Below w.heap.size w w' := by
 refine qj qc Tryz.func116 rfl Tryz.ntmps116 rfl (St.start w) ?_
 refine inl (C := ⟨Tryz.prog, tab, _, [], w, _⟩) qc Tryz.func154 rfl Tryz.ntmps154 rfl ?_
 refine inl (C := ⟨Tryz.prog, tab, _, [], w, _⟩) qc Tryz.func205 rfl Tryz.ntmps205 rfl ?_
 refine ct rfl ?_
 have e0 : decide ((0 : Int) ≤ (u : Int)) = true := decide_eq_true (by omega)
 have e0' : (decide ((0 : Int) ≤ (u : Int)) == true) = true := by rw [e0]; rfl
 iterate 2 refine ct e0' ?_
 refine ct e0 ?_
 refine ct (decide_eq_true (by omega)) ?_
 refine inl (C := ⟨Tryz.prog, tab, _, [], w, _⟩) qc Tryz.func241 rfl Tryz.ntmps241 rfl ?_
 refine ct (decide_eq_true (by omega)) ?_
 refine .as ((u + 1 : Nat) : Int) (by omega) (by simp only [mn]; omega) (by simp only [mx]; omega) ?_
 refine slB (s := DG) u (u + 1) (by omega) (by show u + 1 ≤ 36; omega) rfl rfl ?_
 iterate 3 refine bk ?_
 refine rt ?_
 show VS _ = VS _
 congr 2
 have : (List.range 10).all (fun u => decide (((DG.take (u + 1)).drop u) = [UInt8.ofNat (48 + u)])) = true := by decide +kernel
 exact of_decide_eq_true (List.all_eq_true.1 this u (by simpa using hu))
end
section
open Go.Shelf
def Tryz.lays156_ren : Go.Shelf.Ren := ⟨fun | 156 => 117 | 165 => 155 | 166 => 156 | 169 => 157 | 240 => 206 | 241 => 207 | 276 => 245 | 277 => 246 | n => n, fun | 31 => 142 | 9 => 9 | 3 => 3 | 4 => 4 | 0 => 0 | 20 => 20 | 72 => 228 | 76 => 230 | 70 => 226 | 37 => 48 | 75 => 32 | 127 => 292 | 164 => 331 | 5 => 5 | 80 => 232 | n => n, fun | n => n⟩
theorem Tryz.lays156 : Go.Proofs.Lays.n156 Tryz.prog Tryz.lays156_ren := {
 mixed := by kernel_rfl
 f156 := Tryz.func117.trans (congrArg some (by kernel_rfl))
 f165 := Tryz.func155.trans (congrArg some (by kernel_rfl))
 f166 := Tryz.func156.trans (congrArg some (by kernel_rfl))
 f169 := Tryz.func157.trans (congrArg some (by kernel_rfl))
 f240 := Tryz.func206.trans (congrArg some (by kernel_rfl))
 f241 := Tryz.func207.trans (congrArg some (by kernel_rfl))
 f276 := Tryz.func245.trans (congrArg some (by kernel_rfl))
 f277 := Tryz.func246.trans (congrArg some (by kernel_rfl))
 t0 := Tryz.underlying0
 a0 := Tryz.isAgg0
 z0 := Tryz.sizeOf0
 v0 := Tryz.zeroValue0
 t3 := Tryz.underlying3
 a3 := Tryz.isAgg3
 z3 := Tryz.sizeOf3
 v3 := Tryz.zeroValue3
 t4 := Tryz.underlying4
 a4 := Tryz.isAgg4
 z4 := Tryz.sizeOf4
 v4 := Tryz.zeroValue4
 t9 := Tryz.underlying9
 a9 := Tryz.isAgg9
 z9 := Tryz.sizeOf9
 v9 := Tryz.zeroValue9
 t20 := Tryz.underlying20
 a20 := Tryz.isAgg20
 z20 := Tryz.sizeOf20
 v20 := Tryz.zeroValue20
 t31 := Tryz.underlying142
 a31 := Tryz.isAgg142
 z31 := Tryz.sizeOf142
 v31 := Tryz.zeroValue142
 t37 := Tryz.underlying48
 a37 := Tryz.isAgg48
 z37 := Tryz.sizeOf48
 v37 := Tryz.zeroValue48
 t70 := Tryz.underlying226
 a70 := Tryz.isAgg226
 z70 := Tryz.sizeOf226
 v70 := Tryz.zeroValue226
 t72 := Tryz.underlying228
 a72 := Tryz.isAgg228
 z72 := Tryz.sizeOf228
 v72 := Tryz.zeroValue228
 t75 := Tryz.underlying32
 a75 := Tryz.isAgg32
 z75 := Tryz.sizeOf32
 v75 := Tryz.zeroValue32
 t76 := Tryz.underlying230
 a76 := Tryz.isAgg230
 z76 := Tryz.sizeOf230
 v76 := Tryz.zeroValue230
 t127 := Tryz.underlying292
 a127 := Tryz.isAgg292
 z127 := Tryz.sizeOf292
 v127 := Tryz.zeroValue292
 t164 := Tryz.underlying331
 a164 := Tryz.isAgg331
 z164 := Tryz.sizeOf331
 v164 := Tryz.zeroValue331 }
theorem Tryz.Builder_Extra_156 : Builder.Extra Tryz.prog Tryz.lays156_ren := {
 sizeBuilder := by kernel_rfl
 liesBuilder := by kernel_rfl
 t5 := Tryz.underlying5
 a5 := Tryz.isAgg5
 z5 := Tryz.sizeOf5
 v5 := Tryz.zeroValue5
 infoByte := by kernel_rfl
 cellsByte := by kernel_rfl
 sizeByte := by kernel_rfl
 neB5 := by decide }
open Go.RowKit in
theorem Tryz.strings_Join (bk o c : Nat) (xs : List ByteArray) (sep : ByteArray) (w : World) (hcells : ∀ (j : Nat) x, xs[j]? = some x → w.cell? ⟨bk, o + j, none⟩ = some (.string x)) (hbk : bk < w.heap.size) (hN : xs.length ≤ 140737488355328) (hcap : xs.length ≤ c) (hlen : (Lib.join (xs.map (·.data.toList)) sep.data.toList).length ≤ 140737488355328) :
 Calls Tryz.prog 117 #[.slice (some ⟨bk, o, none⟩) xs.length c, .string sep] w fun e w' => e = .returned (.string ⟨(Lib.join (xs.map (·.data.toList)) sep.data.toList).toArray⟩) ∧ Below w.heap.size w w' := Any.strings_Join Tryz.lays156 Tryz.Builder_Extra_156 bk o c xs sep w hcells hbk hN hcap hlen
def Tryz.laysM171_ren : Go.Shelf.Ren := ⟨fun | 171 => 116 | 243 => 154 | 246 => 205 | 283 => 241 | 284 => 242 | 285 => 243 | 286 => 244 | 129 => 187 | 317 => 267 | 318 => 268 | 319 => 269 | 320 => 270 | 337 => 288 | 338 => 289 | n => n, fun | 3 => 3 | 9 => 9 | 2 => 2 | 4 => 4 | 171 => 327 | 0 => 0 | 53 => 131 | 37 => 48 | 5 => 5 | 173 => 329 | 212 => 358 | 51 => 127 | 20 => 20 | 213 => 359 | 46 => 58 | 232 => 35 | 233 => 40 | n => n, fun | 17 => 0 | 18 => 2 | 19 => 3 | n => n⟩
theorem Tryz.laysM171 : Go.Proofs.LaysM.n171 Tryz.prog Tryz.laysM171_ren := {
 mixed := by kernel_rfl
 f129 := Tryz.func187.trans (congrArg some (by kernel_rfl))
 f171 := Tryz.func116.trans (congrArg some (by kernel_rfl))
 f243 := Tryz.func154.trans (congrArg some (by kernel_rfl))
 f246 := Tryz.func205.trans (congrArg some (by kernel_rfl))
 f283 := Tryz.func241.trans (congrArg some (by kernel_rfl))
 f284 := Tryz.func242.trans (congrArg some (by kernel_rfl))
 f285 := Tryz.func243.trans (congrArg some (by kernel_rfl))
 f286 := Tryz.func244.trans (congrArg some (by kernel_rfl))
 f317 := Tryz.func267.trans (congrArg some (by kernel_rfl))
 f318 := Tryz.func268.trans (congrArg some (by kernel_rfl))
 f319 := Tryz.func269.trans (congrArg some (by kernel_rfl))
 f320 := Tryz.func270.trans (congrArg some (by kernel_rfl))
 f337 := Tryz.func288.trans (congrArg some (by kernel_rfl))
 f338 := Tryz.func289.trans (congrArg some (by kernel_rfl))
 t0 := Tryz.underlying0
 a0 := Tryz.isAgg0
 z0 := Tryz.sizeOf0
 v0 := Tryz.zeroValue0
 t2 := Tryz.underlying2
 a2 := Tryz.isAgg2
 z2 := Tryz.sizeOf2
 v2 := Tryz.zeroValue2
 t3 := Tryz.underlying3
 a3 := Tryz.isAgg3
 z3 := Tryz.sizeOf3
 v3 := Tryz.zeroValue3
 t4 := Tryz.underlying4
 a4 := Tryz.isAgg4
 z4 := Tryz.sizeOf4
 v4 := Tryz.zeroValue4
 t5 := Tryz.underlying5
 a5 := Tryz.isAgg5
 z5 := Tryz.sizeOf5
 v5 := Tryz.zeroValue5
 t9 := Tryz.underlying9
 a9 := Tryz.isAgg9
 z9 := Tryz.sizeOf9
 v9 := Tryz.zeroValue9
 t20 := Tryz.underlying20
 a20 := Tryz.isAgg20
 z20 := Tryz.sizeOf20
 v20 := Tryz.zeroValue20
 t37 := Tryz.underlying48
 a37 := Tryz.isAgg48
 z37 := Tryz.sizeOf48
 v37 := Tryz.zeroValue48
 t46 := Tryz.underlying58
 a46 := Tryz.isAgg58
 z46 := Tryz.sizeOf58
 v46 := Tryz.zeroValue58
 t51 := Tryz.underlying127
 a51 := Tryz.isAgg127
 z51 := Tryz.sizeOf127
 v51 := Tryz.zeroValue127
 t53 := Tryz.underlying131
 a53 := Tryz.isAgg131
 z53 := Tryz.sizeOf131
 v53 := Tryz.zeroValue131
 t171 := Tryz.underlying327
 a171 := Tryz.isAgg327
 z171 := Tryz.sizeOf327
 v171 := Tryz.zeroValue327
 t173 := Tryz.underlying329
 a173 := Tryz.isAgg329
 z173 := Tryz.sizeOf329
 v173 := Tryz.zeroValue329
 t212 := Tryz.underlying358
 a212 := Tryz.isAgg358
 z212 := Tryz.sizeOf358
 v212 := Tryz.zeroValue358
 t213 := Tryz.underlying359
 a213 := Tryz.isAgg359
 z213 := Tryz.sizeOf359
 t232 := Tryz.underlying35
 a232 := Tryz.isAgg35
 z232 := Tryz.sizeOf35
 v232 := Tryz.zeroValue35
 t233 := Tryz.underlying40
 a233 := Tryz.isAgg40
 z233 := Tryz.sizeOf40
 v233 := Tryz.zeroValue40
 g17 := by kernel_rfl
 g18 := by kernel_rfl
 g19 := by kernel_rfl
 i0 := by kernel_rfl
 i2 := by kernel_rfl
 i3 := by kernel_rfl
 i4 := by kernel_rfl
 i5 := by kernel_rfl
 i9 := by kernel_rfl
 i20 := by kernel_rfl
 i37 := by kernel_rfl
 i46 := by kernel_rfl
 i51 := by kernel_rfl
 i53 := by kernel_rfl
 i171 := by kernel_rfl
 i173 := by kernel_rfl
 i212 := by kernel_rfl
 i232 := by kernel_rfl
 i233 := by kernel_rfl
 m17 := by kernel_rfl
 m18 := by kernel_rfl
 m19 := by kernel_rfl }
open Go.RowKit Go.Sort Go.Lib in
theorem Tryz.strconv_Itoa (n : Int) (h0 : -9223372036854775808 ≤ n) (h1 : n ≤ 9223372036854775807) (w : World) (htab : Lib.TabIs Tryz.prog w "internal/strconv.uint64pow10" .u64 Lib.pow10Tab) :
 Calls Tryz.prog 116 #[.int .i64 n] w fun e w' => e = .returned (.string ⟨(Lib.itoa n).toArray⟩) ∧ ∃ k os, w' = grow (w.drewN k) os := Any.strconv_Itoa Tryz.laysM171 n h0 h1 w htab
end
section
open Go.RowKit Go.Sx
def za : Bs := [99, 97, 99, 104, 101, 116, 32, 118, 49]
def linesB (h : Hd) (n : Bs) : List Bs := [za, h.o, n, QH zQ 4 h.root, [], []]
def qO (h : Hd) (n : Bs) : Bs := Lib.join (linesB h n) [10]
theorem qT (h : Hd) (hr : h.root.length = 32) (hg : h.sig.length = 64) : (hdC h).size = 99 := by simp [hdC, Lib.byteCells_length, hr, hg]
theorem cvSt {C : Cx} {L : List Ent} {s d e : TypeId} {t : ByteArray} {next : Value → List Ent → Prop} (h1 : C.P.underlying s = some .string) (h2 : C.P.underlying d = some (.slice e)) (h3 : C.P.underlying e = some (.int .u8))
 (go : ∀ b cap, next (.slice (some ⟨b, 0, none⟩) t.size cap) (L ++ [⟨b, some (.cells (bytesRow t cap) e ((bytesRow t cap).size, (bytesRow t cap).size + 1)), false, none⟩])) : ZV C (convert s d (.string t)) L next :=
 ⟨fun w hs => ⟨_, _, _, run_bytes_of_string w s d e t h1 h2 h3, (hs.drew2 (w.drawn + 1)).alloc _, go _ _⟩⟩
theorem qe1 (sg : ByteArray) (k : Nat) (hk : 3 ≤ k) (bs : List UInt8) : (QH sg k bs).length = (8 * bs.length + k - 1) / k := by
 obtain ⟨hI, hh⟩ := qaR sg k hk bs
 have hs := hI.sum
 have h1 : ∀ a r, r < k → a * k + r = 8 * bs.length → (if 0 < r then a + 1 else a) = (8 * bs.length + k - 1) / k := by
  intro a r hr he
  rw [← he]
  split
  · rw [show a * k + r + k - 1 = (r - 1) + k * (a + 1) by rw [Nat.mul_add, Nat.mul_comm k a]; omega, Nat.add_mul_div_left _ _ (by omega), Nat.div_eq_of_lt (by omega)]; omega
  · rw [show a * k + r + k - 1 = (k - 1) + k * a by rw [Nat.mul_comm k a]; omega, Nat.add_mul_div_left _ _ (by omega), Nat.div_eq_of_lt (by omega)]; omega
 rw [← h1 _ _ hh hs]
 unfold QH
 split <;> simp
theorem qcJ (l : Bs) (cap : Nat) : ((bytesRow ⟨l.toArray⟩ cap).toList.drop 0).take (⟨l.toArray⟩ : ByteArray).size = Lib.byteCells l := by
 have hz : (⟨l.toArray⟩ : ByteArray).size = l.length := by simp [ByteArray.size]
 rw [hz, List.drop_zero]
 unfold bytesRow Lib.byteCells
 simp only [Array.toList_append, Array.toList_map]
 exact List.take_left' (by simp)
theorem undSS : Tryz.prog.underlying 142 = some (.slice 9) := by kernel_rfl
theorem infoSt : (Tryz.prog.info? 9).map (fun i => (i.zero, i.size, i.bytes)) = some (some (VS []), 1, 16) := by kernel_rfl
def strC (l : List Bs) : Array Value := (l.map fun x => VS x).toArray
theorem bs6 (a b c d e f : Bs) (w : World) : (Instr.buildSlice 142 6 #[(0, VS a), (1, VS b), (2, VS c), (3, VS d), (4, VS e), (5, VS f)]).run Tryz.prog w = .ok (.slice (some ⟨w.heap.size, 0, none⟩) 6 6) (w.alloc (.cells (strC [a, b, c, d, e, f]) 9)) := by
 obtain ⟨i, hi, hz, hs, hb⟩ := Qg infoSt
 exact run_buildSlice w _ _ 6 _ (strC [a, b, c, d, e, f]) i (VS []) undSS hi hz (by rw [hs]; decide) (by rw [hs]; decide) (by rw [hs]; kernel_rfl)
theorem join_any (l : List Bs) (bn c : Nat) (sep : Bs) (w : World) (hw : w.heap[bn]? = some (.cells (strC l) 9 (0, 0))) (hc : l.length ≤ c) (hl : l.length ≤ 1000) (hj : (Lib.join l sep).length ≤ 1000000) :
 Calls Tryz.prog 117 ([.slice (some ⟨bn, 0, none⟩) l.length c, VS sep] : List Value).toArray w fun e w' => e = .returned (VS (Lib.join l sep)) ∧ Below w.heap.size w w' := by
 have hm : ((l.map fun x => (⟨x.toArray⟩ : ByteArray)).map (·.data.toList)) = l := by
  rw [List.map_map]
  exact (List.map_congr_left (fun x _ => by simp)).trans (List.map_id l)
 have h := Tryz.strings_Join bn 0 c (l.map fun x => (⟨x.toArray⟩ : ByteArray)) ⟨sep.toArray⟩ w (fun j x hx => by
  rw [List.getElem?_map] at hx
  cases hq : l[j]? with
  | none => rw [hq] at hx; cases hx
  | some z =>
   rw [hq] at hx
   injection hx with hx
   subst hx
   simp only [World.cell?, hw]
   rw [if_neg (by simp), Nat.zero_add]
   simp [strC, hq]) (Array.getElem?_eq_some_iff.1 hw).1 (by simp; omega) (by simp; omega) (by rw [hm]; show (Lib.join l sep).length ≤ _; omega)
 rw [hm, List.length_map] at h
 exact h
abbrev qdz (b cap : Nat) (l : Bs) : Ent := ⟨b, some (.cells (bytesRow ⟨l.toArray⟩ cap) 5 ((bytesRow ⟨l.toArray⟩ cap).size, (bytesRow ⟨l.toArray⟩ cap).size + 1)), false, none⟩
theorem body_any (h : Hd) (A T : Bs) (hr : h.root.length = 32) (hg : h.sig.length = 64) (hl : h.o.length ≤ 1000) (hn : Zk h.o) (h0 : 0 ≤ h.size) (h1 : h.size ≤ 1048576) (h2 : 0 ≤ h.time) (h3 : h.time ≤ 9007199254740991) (hAl : A.length ≤ 100) (hTl : T.length ≤ 100) (w : World)
 (hA : ∀ w', Below w.heap.size w w' → Calls Tryz.prog 116 ([.int .i64 h.size] : List Value).toArray w' fun e w'' => e = .returned (VS A) ∧ Below w'.heap.size w' w'')
 (hT : ∀ w', Below w.heap.size w w' → Calls Tryz.prog 116 ([.int .i64 h.time] : List Value).toArray w' fun e w'' => e = .returned (VS T) ∧ Below w'.heap.size w' w'') :
 Calls Tryz.prog 83 ([.agg (hdC h)] : List Value).toArray w fun e w' => ∃ x : Nat × Nat, True ∧ e = .returned (.tuple #[.slice (some ⟨x.1, 0, none⟩) (qO h (A ++ [32] ++ T)).length x.2, .nilIface]) ∧ St [] w w' [qdz x.1 x.2 (qO h (A ++ [32] ++ T))] := by
 refine (enter qc Tryz.func83 rfl Tryz.ntmps83 rfl (St.start w) (R := fun v w' => ∃ x : Nat × Nat, v = .tuple #[.slice (some ⟨x.1, 0, none⟩) (qO h (A ++ [32] ++ T)).length x.2, .nilIface] ∧ St [] w w' [qdz x.1 x.2 (qO h (A ++ [32] ++ T))]) ?_).mono (fun e w' ⟨v, he, x, h1, h2⟩ => ⟨x, trivial, by rw [he, h1], h2⟩)
 have hsz := qT h hr hg
 intro b1
 refine ldN 0 rfl hsz ?_
 refine cv (qeB h (by omega) hn h0 h1 h2 h3) ?_
 refine cf rfl ?_
 refine dr [cl b1 (hdC h) THd] 99 (.t 0 (.t 1 (.t 4 (.t 5 (.n 2 (.t 3 (.n 6 (.t 7 (.t 8 .nil))))))))) qc qe (by kernel_rfl) (.cons .nil) ?_
 refine ld1 0 rfl rfl ?_
 refine ld1 0 rfl rfl ?_
 refine cvs (fun w' hs => hA w' hs.below) ?_
 refine ⟨.cons .nil, ?_⟩
 refine ⟨by simp [ByteArray.size]; omega, ?_⟩
 rw [show (⟨A.toArray⟩ : ByteArray) ++ ⟨#[32]⟩ = ⟨(A ++ [32]).toArray⟩ from qbx A [32]]
 refine cvs (fun w' hs => hT w' hs.below) ?_
 refine ⟨.cons .nil, ?_⟩
 refine ⟨by simp [ByteArray.size]; omega, ?_⟩
 rw [qbx]
 refine dr [cl b1 (hdC h) THd] 99 (.t 0 (.t 1 (.t 2 (.t 3 (.t 4 (.n 5 (.n 6 (.n 7 (.n 8 (.t 9 (.t 10 .nil))))))))))) qc qe (by kernel_rfl) (.cons .nil) ?_
 refine ld1 0 rfl rfl ?_
 refine ⟨.mk 0 32 32 rfl rfl rfl (by decide) (by decide) (by decide) (by simp) (.on (by decide) ?_)⟩
 have hrd : ∀ w', St [] w w' [cl b1 (hdC h) THd] → Rd w' (.slice (some ⟨b1, 3, none⟩) 32 32) (Lib.byteCells h.root) := fun w' hs => Rd.ent hs 0 (n := 32) (o := 3) rfl (by rw [Lib.byteCells_length, hr]) (by
  show (List.drop 3 (hdC h).toList).take 32 = _
  unfold hdC
  show (Lib.byteCells h.root ++ Lib.byteCells h.sig).take 32 = _
  rw [List.take_left' (by rw [Lib.byteCells_length, hr])])
 refine cvs (fun w' hs => hex_any _ h.root (by omega) w' (hrd w' hs)) ?_
 refine ⟨.cons .nil, ?_⟩
 refine .mk (strC [za, h.o, A ++ [32] ++ T, QH zQ 4 h.root, [], []]) 9 (fun w => bs6 _ _ _ _ _ _ w) (fun bn => ?_)
 refine ⟨.cons .nil, ?_⟩
 have hjl : (qO h (A ++ [32] ++ T)).length ≤ 1000000 := by
  have hc : (QH zQ 4 h.root).length = 64 := by rw [qe1 _ _ (by decide), hr]
  have e : qO h (A ++ [32] ++ T) = za ++ ([10] ++ (h.o ++ ([10] ++ ((A ++ [32] ++ T) ++ ([10] ++ (QH zQ 4 h.root ++ ([10] ++ ([] ++ ([10] ++ []))))))))) := rfl
  rw [e]
  simp only [List.length_append, List.length_cons, List.length_nil, hc, za]
  omega
 refine cvs (fun w' hs => join_any [za, h.o, A ++ [32] ++ T, QH zQ 4 h.root, [], []] bn 6 [10] w' (hs.nth (k := 1) rfl) (by simp) (by simp) hjl) ?_
 refine ⟨.cons .nil, ?_⟩
 refine cvSt qdi Zq undU8 (fun b cap => ?_)
 refine ⟨.cons .nil, ?_⟩
 have hzz : (⟨(qO h (A ++ [32] ++ T)).toArray⟩ : ByteArray).size = (qO h (A ++ [32] ++ T)).length := by simp [ByteArray.size]
 refine ⟨fun w1 hs => ⟨(b, cap), ?_, hs.sub (.drop (.drop (.cons .nil)))⟩⟩
 rw [← hzz]; rfl
end
section
open Go.RowKit Go.Sx
theorem cMs {C : Cx} {L : List Ent} {g : FuncId} {vs : List Value} {α : Type} {Φ : α → Prop} {v : α → Value} {es : α → List Ent} {next : Value → List Ent → Prop}
 (h : ∀ w, St C.M C.B w L → Calls C.P g vs.toArray w fun e w' => ∃ x, Φ x ∧ e = .returned (v x) ∧ St [] w w' (es x)) (hA : ∀ x, Φ x → ∀ e ∈ es x, ∀ k, e.A k → e.W k)
 (go : ∀ x, Φ x → next (v x) (L ++ es x)) : zJ C g vs L next := by
 refine ⟨fun w hs => (h w hs).mono fun e w' ⟨x, hx, he, h1⟩ => ⟨_, _, he, ?_, go x hx⟩⟩
 have hW : ∀ e ∈ es x, ∀ k, e.W k → w.heap.size ≤ k := fun e he k hk => by
  rcases h1.ownW e he k hk with h4 | ⟨_, h4, _⟩
  · exact h4
  · cases h4
 have h2 : St C.M C.B w' (L ++ [rs (qH (es x))]) := hs.push h1.below ((qc0 _ _).2 ⟨h1.ok, h1.apart⟩) (fun k hk => by
  obtain ⟨e, he, hk⟩ := (Z6 _ _).1 hk
  exact hW e he k hk) (fun k hk => by
  obtain ⟨e, he, hk⟩ := (Z7 _ _).1 hk
  exact .inl (hW e he k (hA x hx e he k hk)))
 have h3 : St C.M C.B w' (L ++ es x ++ []) := St.unpack (X := L) (Y := []) (by simpa using h2)
 simpa using h3
theorem hd_sig (h : Hd) (hr : h.root.length = 32) (hg : h.sig.length = 64) : (hdC h).extract 35 (35 + 64) = (Lib.byteCells h.sig).toArray := by
 unfold hdC
 rw [List.extract_toArray]
 have e : (VS h.o :: .int .i64 h.size :: .int .i64 h.time :: (Lib.byteCells h.root ++ Lib.byteCells h.sig)) = ([VS h.o, .int .i64 h.size, .int .i64 h.time] ++ Lib.byteCells h.root) ++ Lib.byteCells h.sig := rfl
 rw [e, List.extract_eq_take_drop, List.drop_left' (by simp [Lib.byteCells_length, hr])]
 rw [List.take_of_length_le (by simp [Lib.byteCells_length, hg])]
theorem qcr (h : Hd) (N : Bs) (hr : h.root.length = 32) (hl : h.o.length ≤ 1000) (hN : N.length ≤ 300) : (qO h N).length ≤ 2000 := by
 have hc : (QH zQ 4 h.root).length = 64 := by rw [qe1 _ _ (by decide), hr]
 have e : qO h N = za ++ ([10] ++ (h.o ++ ([10] ++ (N ++ ([10] ++ (QH zQ 4 h.root ++ ([10] ++ ([] ++ ([10] ++ []))))))))) := rfl
 rw [e]
 simp only [List.length_append, List.length_cons, List.length_nil, hc, za]
 omega
theorem nright_any (h : Hd) (A T : Bs) (p : Nat) (hp : p < 115792089237316195423570985008687907853269984665640564039457584007913129639936) (hr : h.root.length = 32) (hg : h.sig.length = 64) (hl : h.o.length ≤ 1000) (hn : Zk h.o) (h0 : 0 ≤ h.size) (h1 : h.size ≤ 1048576) (h2 : 0 ≤ h.time) (h3 : h.time ≤ 9007199254740991) (hAl : A.length ≤ 100) (hTl : T.length ≤ 100) (w : World)
 (hA : ∀ w', Below w.heap.size w w' → Calls Tryz.prog 116 ([.int .i64 h.size] : List Value).toArray w' fun e w'' => e = .returned (VS A) ∧ Below w'.heap.size w' w'')
 (hT : ∀ w', Below w.heap.size w w' → Calls Tryz.prog 116 ([.int .i64 h.time] : List Value).toArray w' fun e w'' => e = .returned (VS T) ∧ Below w'.heap.size w' w'')
 (hR : qan p h.sig (qO h (A ++ [32] ++ T)) = true) :
 Calls Tryz.prog 47 ([.agg (hdC h), .agg (k32 p), VS h.o] : List Value).toArray w fun e w' => e = .returned .nilIface ∧ Below w.heap.size w w' := by
 have hsz := qT h hr hg
 have hoo : (!(ByteArray.mk h.o.toArray).toList == (ByteArray.mk h.o.toArray).toList) = false := by rw [qaW]; simp
 refine qj qc Tryz.func47 rfl Tryz.ntmps47 rfl (St.start w) ?_
 intro b3 b4
 refine ldN 0 rfl hsz ?_
 refine cMs (v := fun x : Nat × Nat => .tuple #[.slice (some ⟨x.1, 0, none⟩) (qO h (A ++ [32] ++ T)).length x.2, .nilIface]) (es := fun x => [qdz x.1 x.2 (qO h (A ++ [32] ++ T))]) (fun w' hs => body_any h A T hr hg hl hn h0 h1 h2 h3 hAl hTl w' (fun w'' hb => hA w'' (hs.below.trans (hb.mono hs.below.size))) (fun w'' hb => hT w'' (hs.below.trans (hb.mono hs.below.size)))) (fun x _ e he k hk => by
  obtain rfl : e = qdz x.1 x.2 (qO h (A ++ [32] ++ T)) := by simpa using he
  simpa using hk) (fun x _ => ?_)
 refine cf rfl ?_
 refine ld1 0 rfl rfl ?_
 refine cf hoo ?_
 refine ldN 1 rfl (qf _) ?_
 refine ldP 0 (d := (Lib.byteCells h.sig).toArray) rfl (by simp [Lib.byteCells_length, hg]) (hd_sig h hr hg) ?_
 refine .mk #[.slice (some ⟨x.1, 0, none⟩) (qO h (A ++ [32] ++ T)).length x.2] 48 (fun w => bss1 _ _ _ w) (fun bn => ?_)
 have hbl := qcr h (A ++ [32] ++ T) hr hl (by simp; omega)
 have hzz : (⟨(qO h (A ++ [32] ++ T)).toArray⟩ : ByteArray).size = (qO h (A ++ [32] ++ T)).length := by simp [ByteArray.size]
 refine cvs (v := .bool true) (fun w' hs => ?_) ?_
 · have hrd : Rd w' (.slice (some ⟨x.1, 0, none⟩) (qO h (A ++ [32] ++ T)).length x.2) (Lib.byteCells (qO h (A ++ [32] ++ T))) := Rd.ent hs 2 rfl (by rw [Lib.byteCells_length]) (by have := qcJ (qO h (A ++ [32] ++ T)) x.2; rw [hzz] at this; exact this)
   have hP := Parts.made (bs := qO h (A ++ [32] ++ T)) hs 3 (vs := [.slice (some ⟨x.1, 0, none⟩) (qO h (A ++ [32] ++ T)).length x.2]) [Lib.byteCells (qO h (A ++ [32] ++ T))] 1 rfl rfl rfl (List.append_nil _) (fun i v xs hv hx => by
    cases i with
    | zero => injection hv with hv; injection hx with hx; subst hv; subst hx; exact hrd
    | succ i => simp at hv) (by simp)
   have := Qm p hp h.sig hg _ (qO h (A ++ [32] ++ T)) w' hP (by omega)
   rw [hR] at this
   exact this
 refine cf rfl ?_
 exact rt rfl
end
end Go.Proofs.YtbgefoamhdgnaaaGreatDoor
namespace Go.Sx
section
open Go Go.RowKit
variable {C : Cx} {L : List Ent}
section maps
variable {κ : Type} [DecidableEq κ] {ke : κ → Value}
def qcc (k : κ) (z : Value) (clk : Nat) : Es κ → Es κ
 | [] => [(k, z, clk)]
 | e :: l => if k = e.1 then e :: l else e :: qcc k z clk l
def stS (k : κ) (clk : Nat) : Es κ → Nat
 | [] => clk
 | e :: l => if k = e.1 then e.2.2 else stS k clk l
theorem tch_found {k : κ} {z : Value} {clk : Nat} {fs : Es κ} {p : Nat × Value} (h : QF k fs 0 = some p) : qcc k z clk fs = fs := by
 induction fs generalizing p with
 | nil => cases h
 | cons e l ih =>
  unfold QF at h; unfold qcc
  split at h
  · rename_i hk; rw [if_pos hk]
  · rename_i hk
    rw [if_neg hk]
    rw [zt] at h
    cases hf : QF k l 0 with
    | none => rw [hf] at h; cases h
    | some p => rw [ih hf]
theorem tch_new {k : κ} {z : Value} {clk : Nat} {fs : Es κ} (h : QF k fs 0 = none) : qcc k z clk fs = fs ++ [(k, z, clk)] ∧ stS k clk fs = clk := by
 induction fs with
 | nil => exact ⟨rfl, rfl⟩
 | cons e l ih =>
  unfold QF at h; unfold qcc stS
  split at h
  · cases h
  · rename_i hk
    rw [if_neg hk, if_neg hk]
    rw [zt] at h
    cases hf : QF k l 0 with
    | none => rw [(ih hf).1, (ih hf).2]; exact ⟨rfl, rfl⟩
    | some p => rw [hf] at h; cases h
theorem st_found {k : κ} {clk : Nat} {fs : Es κ} {i : Nat} {u : Value} (h : QF k fs 0 = some (i, u)) : fs[i]? = some (k, u, stS k clk fs) := by
 induction fs generalizing i with
 | nil => cases h
 | cons e l ih =>
  unfold QF at h; unfold stS
  split at h
  · rename_i hk
    injection h with h; injection h with h1 h2
    subst h1 h2
    rw [if_pos hk, hk]; rfl
  · rename_i hk
    rw [if_neg hk]
    rw [zt] at h
    cases hf : QF k l 0 with
    | none => rw [hf] at h; cases h
    | some p =>
     rw [hf] at h
     injection h with h; injection h with h1 h2
     subst h1 h2
     simpa using ih (i := p.1) (by rw [hf])
theorem st_mem (k : κ) (clk : Nat) (fs : Es κ) : stS k clk fs = clk ∨ ∃ e ∈ fs, e.2.2 = stS k clk fs := by
 induction fs with
 | nil => exact .inl rfl
 | cons e l ih =>
  unfold stS
  split
  · exact .inr ⟨e, by simp, rfl⟩
  · exact ih.imp id fun ⟨f, h1, h2⟩ => ⟨f, by simp [h1], h2⟩
theorem find_st (k : κ) (z v : Value) (clk : Nat) (fs : Es κ) (hn : (fs.map (·.2.2)).Nodup) (hl : ∀ e ∈ fs, e.2.2 < clk) :
 ∃ i, ((qcc k z clk fs).map (zH ke)).findIdx? (fun e => (e.born : Int) == ((stS k clk fs : Nat) : Int)) = some i ∧ (((qcc k z clk fs).map (zH ke)).modify i fun e => { e with val := v }) = (Zc k v clk fs).map (zH ke) := by
 induction fs with
 | nil => exact ⟨0, by simp [qcc, stS, zH, List.findIdx?_cons], by simp [qcc, Zc, zH]⟩
 | cons e l ih =>
  simp only [List.map_cons, List.nodup_cons] at hn
  unfold qcc stS Zc
  by_cases hk : k = e.1
  · simp only [if_pos hk]
    exact ⟨0, by simp [zH, List.findIdx?_cons], by simp [zH, hk]⟩
  · simp only [if_neg hk]
    obtain ⟨i, h1, h2⟩ := ih hn.2 fun f hf => hl f (by simp [hf])
    have hne : ((e.2.2 : Nat) : Int) ≠ ((stS k clk l : Nat) : Int) := by
     have := hl e (by simp)
     rcases st_mem k clk l with h | ⟨f, hf, h⟩
     · omega
     · intro he
       exact hn.1 (List.mem_map.2 ⟨f, hf, by omega⟩)
    refine ⟨i + 1, ?_, ?_⟩
    · have hb : (((zH ke e).born : Int) == ((stS k clk l : Nat) : Int)) = false := by simpa [zH] using hne
      rw [List.map_cons, List.findIdx?_cons, hb, h1]
      rfl
    · simp only [List.map_cons, List.modify_succ_cons, h2]
theorem men (i : Nat) {t kt et : TypeId} {b clk : Nat} {fs : Es κ} {k : κ} {z : Value} {next : Value → List Ent → Prop} (hi : L[i]? = some (me b ke fs clk)) (ht : C.P.underlying t = some (.map kt et)) (hK : KeyOk C.P kt ke)
 (hz : (C.P.info? et).bind (·.zero) = some z) (go : next (.tuple #[(getS k fs).getD z, .int .i64 (stS k clk fs)]) (L.set i (me b ke (qcc k z clk fs) (clkS k fs clk)))) : ZV C (Instr.mapEntry t (.map (some b)) (ke k)) L next := by
 refine ⟨fun w hs => ⟨_, w.putObj b (qc3 ke (qcc k z clk fs) (clkS k fs clk)), _, ?_, hs.put hi, go⟩⟩
 have hg := hs.nth hi
 have hf := hK.find k fs w
 have hzz : (zeroValue et).run C.P w = .ok z w := by
  cases hi : C.P.info? et with
  | none => rw [hi] at hz; cases hz
  | some inf => rw [hi] at hz; simp only [Option.bind_some] at hz; simp [zeroValue, qak hi, hz]
 simp only [Instr.mapEntry, Sem.run_bind, run_underlying ht, Result.andThen_ok, qam hg (by simp [qc3]), qc3, hK.check, hf]
 unfold clkS getS
 cases h : QF k fs 0 with
 | none =>
  simp only [Option.map_none, Option.isSome_none, Bool.false_eq_true, if_false, (tch_new (z := z) (clk := clk) h).1, (tch_new (z := z) (clk := clk) h).2, Sem.run_bind, hzz, Result.andThen_ok]
  rw [qal hg (by simp [qc3])]; simp [zH, goInt]
 | some p =>
  obtain ⟨j, u⟩ := p
  have hn := st_found (clk := clk) h
  have hj : j < fs.length := (List.getElem?_eq_some_iff.1 hn).1
  have e1 : (((fs.map (zH ke)).toArray[j]?).map (·.key)).getD (ke k) = ke k := by simp [hn, zH]
  have e2 : (((fs.map (zH ke)).toArray[j]?).map (fun x => (x.born : Int))).getD 0 = ((stS k clk fs : Nat) : Int) := by simp [hn, zH]
  simp only [e1, e2, Sem.run_bind, hK.stays, Result.andThen_ok, Option.map_some, Option.isSome_some, if_true, tch_found h, Option.getD_some]
  rw [qal hg (by simp [qc3])]
  have e3 : ((fs.map (zH ke)).toArray.modify j fun e => { e with key := ke k }) = (fs.map (zH ke)).toArray := by
   apply Array.ext'
   rw [Array.toList_modify]
   apply List.ext_getElem?
   intro m
   simp only [List.getElem?_modify, List.getElem?_map]
   by_cases hm : j = m
   · subst hm; simp [hn, zH]
   · simp [hm]
  simp only [e3, Result.andThen_ok, Sem.run_pure, goInt]
theorem est (i : Nat) {t : TypeId} {b clk clk' : Nat} {fs : Es κ} {k : κ} {z v : Value} {x : Int} {next : List Ent → Prop} (hi : L[i]? = some (me b ke (qcc k z clk fs) clk')) (hx : x = ((stS k clk fs : Nat) : Int)) (hn : (fs.map (·.2.2)).Nodup) (hl : ∀ e ∈ fs, e.2.2 < clk)
 (go : next (L.set i (me b ke (Zc k v clk fs) clk'))) : SemU C (Instr.entryStore t (.map (some b)) (.int .i64 x) v) L next := by
 subst hx
 refine ⟨fun w hs => ⟨w.putObj b (qc3 ke (Zc k v clk fs) clk'), _, ?_, hs.put hi, go⟩⟩
 have hg := hs.nth hi
 obtain ⟨j, h1, h2⟩ := find_st (ke := ke) k z v clk fs hn hl
 simp only [Instr.entryStore, Sem.run_bind, qam hg (by simp [qc3]), qc3, Result.andThen_ok, asInt, asIntOf, Sem.run_pure, List.findIdx?_toArray, h1]
 rw [qal hg (by simp [qc3])]
 congr 2
 congr 1
 apply Array.ext'
 rw [Array.toList_modify]
 exact h2
end maps
end
end Go.Sx
namespace Go.Proofs.YtbgefoamhdgnaaaGreatDoor
section
open Go.RowKit Go.Sx
def ErrN (n : Nat) : Value := .iface 81 (.int .i64 n)
def Q7 (n : Nat) : Value := if n = 0 then .nilIface else ErrN n
theorem errVs (n : Nat) (h : n ≠ 0) : Q7 n = ErrN n := if_neg h
theorem assertN (n : Nat) (w : World) : (Instr.typeAssert (ErrN n) 32 81 true).run Tryz.prog w = .ok (.tuple #[.int .i64 n, .bool true]) w := by
 kernel_rfl
theorem num_any (n : Nat) (w : World) : Calls Tryz.prog 25 ([Q7 n] : List Value).toArray w fun e w' => e = .returned (.int .i64 n) ∧ Below w.heap.size w w' := by
 refine qj qc Tryz.func25 rfl Tryz.ntmps25 rfl (St.start w) ?_
 by_cases h0 : n = 0
 · subst h0
   refine ct rfl ?_
   exact rt rfl
 rw [errVs n h0]
 refine cf rfl ?_
 refine semV (fun w _ => assertN n w) ?_
 refine ct rfl ?_
 refine ct rfl ?_
 refine ct rfl ?_
 refine ct (bne_iff_ne.2 (by omega)) ?_
 exact rt rfl
theorem errIs_any (n m : Nat) (w : World) : Calls Tryz.prog 34 ([Q7 n, .int .i64 m] : List Value).toArray w fun e w' => e = .returned (.bool (decide (n = m))) ∧ Below w.heap.size w w' := by
 refine qj qc Tryz.func34 rfl Tryz.ntmps34 rfl (St.start w) ?_
 refine cv (num_any n) ?_
 refine rt (congrArg Value.bool ?_)
 rw [Bool.eq_iff_iff, beq_iff_eq, decide_eq_true_eq]; omega
theorem keyInt {P : Program} {kt : TypeId} (hk : P.underlying kt = some (.int .i64)) : KeyOk P kt keI := by
 have hnow : ∀ (k : Int) (fs : Es Int) (i : Nat), Instr.findNow (.int .i64) (keI k) (fs.map (zH keI)) i = some (QF k fs i) := by
  intro k fs
  induction fs with
  | nil => intro i; rfl
  | cons e l ih =>
   intro i
   simp only [List.map_cons, Instr.findNow, zH, keI, Instr.sameNow, if_true, QF]
   by_cases h : k = e.1
   · simp [h]
   · have hb : (k == e.1) = false := by simpa using h
     simp only [hb, if_neg h]; exact ih (i + 1)
 refine ⟨fun k b w => ?_, fun k fs w => ?_, fun k w => ?_⟩
 · show (Instr.checkKey b (9999 + 1) kt (keI k)).run P w = _
   rw [Instr.checkKey]
   simp [run_underlying hk, keI]
 · simp only [Instr.findKey, Sem.run_bind, run_underlying hk, Result.andThen_ok, hnow, Sem.run_pure]
 · simp [Instr.keyThatStays, keI, Instr.sameBits]
theorem undInt : Tryz.prog.underlying 3 = some (.int .i64) := by kernel_rfl
theorem undMp : Tryz.prog.underlying 93 = some (.map 3 39) := by kernel_rfl
theorem zSum : (Tryz.prog.info? 39).bind (·.zero) = some (.agg Z32) := by kernel_rfl
abbrev keyI : KeyOk Tryz.prog 3 keI := keyInt undInt
abbrev mrI (b : Nat) (fs : Es Int) (clk : Nat) : Ent := ⟨b, some (qc3 keI fs clk), true, none⟩
theorem au_ro {S : AuS} {w : World} (h : AuP S w) : St [] w w [cr S.bA (auC S.p S.o S.lastV (.map (some S.bm))) TAu, mrI S.bm S.fs S.clk] :=
 St.from w [] _ (fun e he => by
  simp only [List.mem_cons, List.not_mem_nil, or_false] at he
  rcases he with rfl | rfl
  · exact ⟨by simpa using h.a, fun k hk => by simp at hk⟩
  · exact ⟨by simpa using h.m, fun k hk => by simp at hk⟩) (by
    refine .cons (fun y hy => ?_) (by simp)
    obtain rfl : y = mrI S.bm S.fs S.clk := by simpa using hy
    exact fun k => ⟨fun h => by simp at h, fun h => by simp at h⟩)
theorem au_roH {S : AuS} {w : World} (h : AuP S w) (x : Hd) (hx : S.last = some x) : St [] w w [cr S.bA (auC S.p S.o (ptr S.bh) (.map (some S.bm))) TAu, cr S.bh (hdC x) THd] :=
 St.from w [] _ (fun e he => by
  simp only [List.mem_cons, List.not_mem_nil, or_false] at he
  rcases he with rfl | rfl
  · have := h.a
    unfold AuS.lastV at this
    rw [hx] at this
    exact ⟨by simpa using this, fun k hk => by simp at hk⟩
  · exact ⟨by simpa using h.h x hx, fun k hk => by simp at hk⟩) (by
    refine .cons (fun y hy => ?_) (by simp)
    obtain rfl : y = cr S.bh (hdC x) THd := by simpa using hy
    exact fun k => ⟨fun h => by simp at h, fun h => by simp at h⟩)
theorem auC_size (p : Nat) (o : Bs) (l m : Value) : (auC p o l m).size = 35 := by
 unfold auC
 have := qf p
 simp [this]
theorem ZF (p : Nat) (o : Bs) (l m : Value) : (auC p o l m)[32]? = some (VS o) ∧ (auC p o l m)[33]? = some l ∧ (auC p o l m)[34]? = some m := by
 have hl : (k32 p).toList.length = 32 := by simpa using qf p
 unfold auC
 simp only [List.getElem?_toArray]
 refine ⟨?_, ?_, ?_⟩
 · rw [List.getElem?_append_right (by omega), hl]; rfl
 · rw [List.getElem?_append_right (by omega), hl]; rfl
 · rw [List.getElem?_append_right (by omega), hl]; rfl
def H0 : Hd := ⟨[], 0, 0, List.replicate 32 0, List.replicate 64 0⟩
theorem qau (h : Hd) : (hdC h).toList.all (·.oneCell') = true := by
 unfold hdC
 simp only [List.all_cons, List.all_append, Bool.and_eq_true]
 refine ⟨rfl, rfl, rfl, ?_, ?_⟩ <;>
 · rw [List.all_eq_true]; exact one8 _
def lastT (l : Option Hd) : Value := .tuple #[.agg (hdC (l.getD H0)), .bool l.isSome]
theorem last_any (S : AuS) (w : World) (h : AuP S w) : Calls Tryz.prog 14 ([ptr S.bA] : List Value).toArray w fun e w' => e = .returned (lastT S.last) ∧ Below w.heap.size w w' := by
 have ha := (ZF S.p S.o S.lastV (.map (some S.bm))).2.1
 cases hx : S.last with
 | none =>
  have hv : S.lastV = .pointer none := by unfold AuS.lastV; rw [hx]
  refine qj qc Tryz.func14 rfl Tryz.ntmps14 rfl (au_ro h) ?_
  intro b2
  rw [hv]
  rw [hv] at ha
  iterate 4 refine ct rfl ?_
  refine ld1 0 rfl (by exact ha) ?_
  refine ct rfl ?_
  refine cf rfl ?_
  refine ct rfl ?_
  refine bu (c := hdC H0) (by kernel_rfl) ?_
  refine sN 2 rfl rfl (qau _) ?_ (by kernel_rfl)
  refine ldN 2 rfl rfl ?_
  exact rt rfl
 | some x =>
  have hsz := qT x (h.hk x hx).1 (h.hk x hx).2
  refine qj qc Tryz.func14 rfl Tryz.ntmps14 rfl (au_roH h x hx) ?_
  intro b2
  have ha := (ZF S.p S.o (ptr S.bh) (.map (some S.bm))).2.1
  iterate 4 refine ct rfl ?_
  refine ld1 0 rfl (by exact ha) ?_
  refine ct rfl ?_
  iterate 2 refine cf rfl ?_
  refine ld1 0 rfl (by exact ha) ?_
  refine ldN 1 rfl hsz ?_
  refine sN 2 rfl (hsz.trans (by kernel_rfl)) (qau _) ?_ (by rw [hsz]; kernel_rfl)
  refine ldN 2 rfl hsz ?_
  exact rt rfl
theorem qD (r : Bs) : (Lib.byteCells r).toArray.toList.all (·.oneCell') = true := by
 rw [List.all_eq_true]; exact one8 r
end
section
open Go.RowKit Go.Sx
abbrev qen (bs : Bs) : Bs := S.shaB bs
theorem qI (bs : Bs) : (qen bs).length = 32 := S.shaB_len bs
theorem short_p {w : World} {v : Value} {bs : Bs} (h : Parts w v bs) (hn : bs.length ≤ 1000000) : Calls Tryz.prog 94 ([v] : List Value).toArray w fun e w' => e = .returned (qV (qen bs)) ∧ Below w.heap.size w w' := by
 obtain ⟨pb, po, kc, vs, xss, rfl, h1, h2, h3, h4, h5, h6⟩ := h
 exact S.short_any pb po kc vs xss bs h1 h2 w h3 h4 h5 hn h6
theorem qx (r : Bs) (h : r.length = 32) : (Lib.byteCells r).toArray.size = 32 := by simp [Lib.byteCells_length, h]
def qJ (bs : Bs) : Bs := qen (0 :: bs)
def qU (l r : Bs) : Bs := qen (1 :: (l ++ r))
theorem leaf_any (v : Value) (bs : Bs) (w : World) (hrd : Rd w v (Lib.byteCells bs)) (hn : bs.length ≤ 100000) : Calls Tryz.prog 55 ([v] : List Value).toArray w fun e w' => e = .returned (qV (qJ bs)) ∧ Below w.heap.size w w' := by
 have hrd0 := hrd
 obtain ⟨va, vc, hv, _⟩ := hrd0
 rw [Lib.byteCells_length] at hv
 refine qj qc Tryz.func55 rfl Tryz.ntmps55 rfl (St.start w) ?_
 intro b2
 refine .mk #[.int .u8 0] 5 (fun w => bs5 _ w) (fun b3 => ?_)
 rw [hv]
 refine .mk #[.slice (some ⟨b3, 0, none⟩) 1 1, .slice va bs.length vc] 48 (fun w => bss2 _ _ _ _ _ _ w) (fun bn => ?_)
 refine cvs (v := qV (qJ bs)) (fun w' hs => short_p (bs := 0 :: bs) (Parts.made hs 2 [Lib.byteCells [0], Lib.byteCells bs] 2 rfl rfl rfl (by simp [Lib.byteCells]) (fun i u xs hu hx => ?_) (by simp)) (by simp; omega)) ?_
 · match i, hu, hx with
   | 0, hu, hx => simp at hu hx; subst hu hx; exact Rd.ent hs 1 (n := 1) rfl rfl rfl
   | 1, hu, hx => simp at hu hx; subst hu hx; rw [← hv]; exact hrd.below hs.below
 have hz := qx (qJ bs) (qI _)
 refine sN 0 rfl (hz.trans (by kernel_rfl)) (qD _) ?_ (by rw [hz]; kernel_rfl)
 refine ldN 0 rfl hz ?_
 exact rt rfl
theorem qaK (l r : Bs) (hl : l.length = 32) (hr : r.length = 32) (w : World) : Calls Tryz.prog 128 ([qV l, qV r] : List Value).toArray w fun e w' => e = .returned (qV (qU l r)) ∧ Below w.heap.size w w' := by
 refine qj qc Tryz.func128 rfl Tryz.ntmps128 rfl (St.start w) ?_
 intro b2 b3 b4
 refine dr _ 5 (.t 1 (.t 2 (.n 0 (.n 3 (.n 4 (.n 5 .nil)))))) qc qe (by kernel_rfl) (.refl _) ?_
 refine ⟨.mk 0 32 32 rfl rfl rfl (by decide) (by decide) (by decide) (by simp) (.on (by decide) ?_)⟩
 refine ⟨.mk 0 32 32 rfl rfl rfl (by decide) (by decide) (by decide) (by simp) (.on (by decide) ?_)⟩
 refine .mk #[.int .u8 1] 5 (fun w => bs5 _ w) (fun b5 => ?_)
 refine ⟨qk _, ?_⟩
 refine .mk #[.slice (some ⟨b5, 0, none⟩) 1 1, .slice (some ⟨b2, 0, none⟩) 32 32, .slice (some ⟨b3, 0, none⟩) 32 32] 48 (fun w => bss3 _ _ _ _ _ _ _ _ _ w) (fun bn => ?_)
 refine ⟨.cons (.cons (.cons .nil)), ?_⟩
 refine cvs (v := qV (qU l r)) (fun w' hs => short_p (bs := 1 :: (l ++ r)) (Parts.made hs 4 [Lib.byteCells [1], Lib.byteCells l, Lib.byteCells r] 3 rfl rfl rfl (by simp [Lib.byteCells]) (fun i u xs hu hx => ?_) (by simp)) (by simp; omega)) ?_
 · match i, hu, hx with
   | 0, hu, hx => simp at hu hx; subst hu hx; exact Rd.ent hs 3 (n := 1) rfl rfl rfl
   | 1, hu, hx => simp at hu hx; subst hu hx; exact Rd.ent hs 0 (n := 32) rfl (by rw [Lib.byteCells_length, hl]) (by show (List.drop 0 (Lib.byteCells l)).take 32 = _; rw [List.drop_zero, List.take_of_length_le (by rw [Lib.byteCells_length]; omega)])
   | 2, hu, hx => simp at hu hx; subst hu hx; exact Rd.ent hs 1 (n := 32) rfl (by rw [Lib.byteCells_length, hr]) (by show (List.drop 0 (Lib.byteCells r)).take 32 = _; rw [List.drop_zero, List.take_of_length_le (by rw [Lib.byteCells_length]; omega)])
 refine ⟨.cons (.cons (.cons .nil)), ?_⟩
 have hz := qx (qU l r) (qI _)
 refine sN 2 rfl (hz.trans (by kernel_rfl)) (qD _) ?_ (by rw [hz]; kernel_rfl)
 refine ldN 2 rfl hz ?_
 exact rt rfl
end
section
open Go.RowKit Go.Sx
def blF : Nat → Nat → Nat
 | 0, _ => 0
 | f + 1, x => if x = 0 then 0 else blF f (x / 2) + 1
def bl2 (x : Nat) : Nat := blF 64 x
theorem qb3 (f : Nat) : blF f 0 = 0 := by cases f <;> rfl
theorem bl_pos (f x : Nat) (h : 0 < x) : blF (f + 1) x = blF f (x / 2) + 1 := by rw [blF, if_neg (by omega)]
theorem bl_stab (f : Nat) : ∀ x k, x < 2 ^ f → blF (f + k) x = blF f x := by
 induction f with
 | zero => intro x k h; obtain rfl : x = 0 := by simpa using h
           rw [qb3, qb3]
 | succ f ih =>
  intro x k h
  rcases Nat.eq_zero_or_pos x with rfl | hp
  · rw [qb3, qb3]
  · rw [show f + 1 + k = (f + k) + 1 by omega, bl_pos _ _ hp, bl_pos _ _ hp, ih (x / 2) k (by rw [Nat.pow_succ] at h; omega)]
theorem bl_shift (k : Nat) : ∀ f x, 2 ^ k ≤ x → blF (f + k) x = k + blF f (x / 2 ^ k) := by
 induction k with
 | zero => intro f x _; simp
 | succ k ih =>
  intro f x h
  have hp : 0 < x := Nat.lt_of_lt_of_le (Nat.pow_pos (by decide)) h
  rw [← Nat.add_assoc, bl_pos _ _ hp, ih f (x / 2) (by rw [Nat.pow_succ] at h; omega), Nat.div_div_eq_div_mul, Nat.mul_comm 2, ← Nat.pow_succ, Nat.succ_eq_add_one]
  omega
theorem qe7 (f : Nat) : ∀ x, blF f x ≤ f := by
 induction f with
 | zero => intro x; exact Nat.le_refl _
 | succ f ih =>
  intro x
  unfold blF
  split
  · omega
  · have := ih (x / 2); omega
theorem bl_bd (f : Nat) : ∀ x, 0 < x → x < 2 ^ f → 1 ≤ blF f x ∧ 2 ^ (blF f x - 1) ≤ x ∧ x < 2 ^ (blF f x) ∧ blF f x ≤ f := by
 induction f with
 | zero => intro x h1 h2; simp at h2; omega
 | succ f ih =>
  intro x h1 h2
  rw [bl_pos _ _ h1]
  rcases Nat.eq_zero_or_pos (x / 2) with h0 | hp
  · rw [h0, qb3]; simp; omega
  · obtain ⟨i1, i2, i3, i4⟩ := ih (x / 2) hp (by rw [Nat.pow_succ] at h2; omega)
    obtain ⟨q, hq⟩ : ∃ q, q = blF f (x / 2) := ⟨_, rfl⟩
    rw [← hq] at i1 i2 i3 i4 ⊢
    obtain ⟨r, rfl⟩ : ∃ r, q = r + 1 := ⟨q - 1, by omega⟩
    simp only [Nat.add_sub_cancel] at i2 ⊢
    rw [Nat.pow_succ] at i3
    refine ⟨by omega, ?_, ?_, by omega⟩
    · rw [Nat.pow_succ]; omega
    · rw [Nat.pow_succ, Nat.pow_succ]; omega
theorem qe8 (k x : Nat) (hk : k ≤ 20) (h : 2 ^ k ≤ x) (hx : x < 1048576) : bl2 x = k + bl2 (x / 2 ^ k) := by
 unfold bl2
 have e := bl_shift k (64 - k) x h
 rw [show 64 - k + k = 64 by omega] at e
 rw [e]
 have hs : x / 2 ^ k < 2 ^ (64 - k) := Nat.lt_of_le_of_lt (Nat.div_le_self _ _) (Nat.lt_of_lt_of_le hx (Nat.le_trans (show 1048576 ≤ 2 ^ 44 by decide) (Nat.pow_le_pow_right (by decide) (by omega))))
 have := bl_stab (64 - k) (x / 2 ^ k) k hs
 rw [show 64 - k + k = 64 by omega] at this
 rw [this]
def T8 : ByteArray := ⟨#[0, 1, 2, 2, 3, 3, 3, 3, 4, 4, 4, 4, 4, 4, 4, 4, 5, 5, 5, 5, 5, 5, 5, 5, 5, 5, 5, 5, 5, 5, 5, 5, 6, 6, 6, 6, 6, 6, 6, 6, 6, 6, 6, 6, 6, 6, 6, 6, 6, 6, 6, 6, 6, 6, 6, 6, 6, 6, 6, 6, 6, 6, 6, 6, 7, 7, 7, 7, 7, 7, 7, 7, 7, 7, 7, 7, 7, 7, 7, 7, 7, 7, 7, 7, 7, 7, 7, 7, 7, 7, 7, 7, 7, 7, 7, 7, 7, 7, 7, 7, 7, 7, 7, 7, 7, 7, 7, 7, 7, 7, 7, 7, 7, 7, 7, 7, 7, 7, 7, 7, 7, 7, 7, 7, 7, 7, 7, 7, 8, 8, 8, 8, 8, 8, 8, 8, 8, 8, 8, 8, 8, 8, 8, 8, 8, 8, 8, 8, 8, 8, 8, 8, 8, 8, 8, 8, 8, 8, 8, 8, 8, 8, 8, 8, 8, 8, 8, 8, 8, 8, 8, 8, 8, 8, 8, 8, 8, 8, 8, 8, 8, 8, 8, 8, 8, 8, 8, 8, 8, 8, 8, 8, 8, 8, 8, 8, 8, 8, 8, 8, 8, 8, 8, 8, 8, 8, 8, 8, 8, 8, 8, 8, 8, 8, 8, 8, 8, 8, 8, 8, 8, 8, 8, 8, 8, 8, 8, 8, 8, 8, 8, 8, 8, 8, 8, 8, 8, 8, 8, 8, 8, 8, 8, 8, 8, 8, 8, 8, 8, 8, 8, 8, 8, 8, 8, 8]⟩
theorem t8_at : ∀ i (h : i < 256), (T8[i]'h).toNat = bl2 i := by decide +kernel
def qq (n : Nat) : Nat := if n < 2 then 0 else 2 ^ (bl2 (n - 1) - 1)
theorem QQ (n : Nat) (h : 2 ≤ n) (hn : n ≤ 1048576) : 1 ≤ qq n ∧ qq n < n ∧ n ≤ 2 * qq n := by
 obtain ⟨h1, h2, h3, _⟩ := bl_bd 64 (n - 1) (by omega) (by omega)
 unfold qq bl2
 rw [if_neg (by omega)]
 obtain ⟨q, hq⟩ : ∃ q, q = blF 64 (n - 1) := ⟨_, rfl⟩
 rw [← hq] at h1 h2 h3 ⊢
 obtain ⟨r, rfl⟩ : ∃ r, q = r + 1 := ⟨q - 1, by omega⟩
 simp only [Nat.add_sub_cancel] at h2 ⊢
 rw [Nat.pow_succ] at h3
 have := Nat.pow_pos (n := r) (show 0 < 2 by decide)
 omega
theorem len64_any (x : Nat) (hx : x < 1048576) (w : World) : Calls Tryz.prog 187 ([.int .u64 x] : List Value).toArray w fun e w' => e = .returned (.int .i64 (bl2 x)) ∧ Below w.heap.size w w' := by
 refine qj qc Tryz.func187 rfl Tryz.ntmps187 rfl (St.start w) ?_
 refine cf (decide_eq_false (by omega)) ?_
 refine cd (fun h1 => ?_) (fun h1 => ?_)
 · refine ⟨by decide, ?_⟩
   rw [shrI x 16 (by decide) 16 rfl]
   refine .as 16 (by decide) (by decide) (by decide) ?_
   have hlt : x / 2 ^ 16 < 256 := by omega
   have hE := qe8 16 x (by decide) (by omega) hx
   refine cf (decide_eq_false (by omega)) ?_
   have hb : bl2 (x / 2 ^ 16) ≤ 64 := qe7 64 _
   refine .same (by simp only [mn]; omega) (by simp only [mx]; omega) ?_
   refine ⟨by omega, by rw [Int.toNat_natCast]; exact hlt, ?_⟩
   refine .as ((bl2 (x / 2 ^ 16) : Nat) : Int) (congrArg Int.ofNat (t8_at (x / 2 ^ 16) hlt)) (by simp only [mn]; omega) (by simp only [mx]; omega) ?_
   refine .as ((bl2 x : Nat) : Int) (by rw [hE]; omega) (by simp only [mn]; omega) (by have : bl2 x ≤ 64 := qe7 64 _; simp only [mx]; omega) ?_
   exact rt rfl
 · refine cd (fun h2 => ?_) (fun h2 => ?_)
   · refine ⟨by decide, ?_⟩
     rw [shrI x 8 (by decide) 8 rfl]
     refine .as 8 (by decide) (by decide) (by decide) ?_
     have hlt : x / 2 ^ 8 < 256 := by omega
     have hE := qe8 8 x (by decide) (by omega) hx
     have hb : bl2 (x / 2 ^ 8) ≤ 64 := qe7 64 _
     refine .same (by simp only [mn]; omega) (by simp only [mx]; omega) ?_
     refine ⟨by omega, by rw [Int.toNat_natCast]; exact hlt, ?_⟩
     refine .as ((bl2 (x / 2 ^ 8) : Nat) : Int) (congrArg Int.ofNat (t8_at (x / 2 ^ 8) hlt)) (by simp only [mn]; omega) (by simp only [mx]; omega) ?_
     refine .as ((bl2 x : Nat) : Int) (by rw [hE]; omega) (by simp only [mn]; omega) (by have : bl2 x ≤ 64 := qe7 64 _; simp only [mx]; omega) ?_
     exact rt rfl
   · have hlt : x < 256 := by omega
     have hE : bl2 x = 0 + bl2 x := by omega
     have hb : bl2 (x) ≤ 64 := qe7 64 _
     refine .same (by simp only [mn]; omega) (by simp only [mx]; omega) ?_
     refine ⟨by omega, by rw [Int.toNat_natCast]; exact hlt, ?_⟩
     refine .as ((bl2 (x) : Nat) : Int) (congrArg Int.ofNat (t8_at (x) hlt)) (by simp only [mn]; omega) (by simp only [mx]; omega) ?_
     refine .as ((bl2 x : Nat) : Int) (by rw [hE]; omega) (by simp only [mn]; omega) (by have : bl2 x ≤ 64 := qe7 64 _; simp only [mx]; omega) ?_
     exact rt rfl
theorem qcS (n : Nat) (hn : n ≤ 1048576) (w : World) : Calls Tryz.prog 176 ([.int .i64 n] : List Value).toArray w fun e w' => e = .returned (.int .i64 (qq n)) ∧ Below w.heap.size w w' := by
 refine qj qc Tryz.func176 rfl Tryz.ntmps176 rfl (St.start w) ?_
 refine cd (fun h1 => ?_) (fun h1 => ?_)
 · refine rt ?_
   unfold qq
   rw [if_pos (by omega)]; rfl
 · have h2 : 2 ≤ n := by omega
   obtain ⟨b1, b2, b3, b4⟩ := bl_bd 64 (n - 1) (by omega) (by omega)
   refine .as ((n - 1 : Nat) : Int) (by omega) (by simp only [mn]; omega) (by simp only [mx]; omega) ?_
   refine .same (by simp only [mn]; omega) (by simp only [mx]; omega) ?_
   refine inl (C := ⟨Tryz.prog, tab, _, [], w, none⟩) qc Tryz.func131 rfl Tryz.ntmps131 rfl ?_
   refine cf rfl ?_
   refine cv (len64_any (n - 1) (by omega)) ?_
   refine bk ?_
   have hcut : qq n = 2 ^ (bl2 (n - 1) - 1) := by unfold qq; rw [if_neg (by omega)]
   obtain ⟨c1, c2, c3⟩ := QQ n h2 hn
   have b1' : 1 ≤ bl2 (n - 1) := b1
   have b4' : bl2 (n - 1) ≤ 64 := b4
   obtain ⟨q, hq⟩ : ∃ q, q = bl2 (n - 1) - 1 := ⟨_, rfl⟩
   refine .as ((q : Nat) : Int) (by omega) (by simp only [mn]; omega) (by simp only [mx]; omega) ?_
   refine ⟨by omega, .as ((qq n : Nat) : Int) ?_ (by simp only [mn]; omega) (by simp only [mx]; omega) ?_⟩
   · rw [hcut, ← hq, Int.toNat_natCast]
     show (1 : Int) * 2 ^ (min q 64) = _
     rw [Nat.min_eq_left (by omega), Int.one_mul, Int.natCast_pow]; rfl
   · exact rt rfl
end
section
open Go.RowKit Go.Sx
def stp : Nat → Nat → Nat → List Bool × Bool
 | 0, _, _ => ([], true)
 | f + 1, m, n => if m < n then (if m ≤ qq n then (true :: (stp f m (qq n)).1, (stp f m (qq n)).2) else (false :: (stp f (m - qq n) (n - qq n)).1, false)) else ([], true)
theorem stp_stab (f : Nat) : ∀ m n g, 1 ≤ m → n ≤ 1048576 → n ≤ f → n ≤ g → stp f m n = stp g m n := by
 induction f with
 | zero =>
  intro m n g hm _ h1 _
  cases g with
  | zero => rfl
  | succ g => rw [stp, stp, if_neg (by omega)]
 | succ f ih =>
  intro m n g hm hn h1 h2
  cases g with
  | zero => rw [stp, stp, if_neg (by omega)]
  | succ g =>
   rw [stp, stp]
   by_cases h : m < n
   · obtain ⟨c1, c2, c3⟩ := QQ n (by omega) hn
     rw [if_pos h, if_pos h]
     by_cases h3 : m ≤ qq n
     · rw [if_pos h3, if_pos h3, ih m (qq n) g hm (by omega) (by omega) (by omega)]
     · rw [if_neg h3, if_neg h3, ih (m - qq n) (n - qq n) g (by omega) (by omega) (by omega) (by omega)]
   · rw [if_neg h, if_neg h]
def zg (m n : Nat) : List Bool × Bool := stp n m n
theorem stp_end (m n : Nat) (hm : 1 ≤ m) (hn : n ≤ m) : zg m n = ([], true) := by
 unfold zg
 cases n with
 | zero => rfl
 | succ n => rw [stp, if_neg (by omega)]
theorem stp_left (m n : Nat) (hm : 1 ≤ m) (hn : n ≤ 1048576) (h : m < n) (hc : m ≤ qq n) : zg m n = (true :: (zg m (qq n)).1, (zg m (qq n)).2) := by
 obtain ⟨c1, c2, c3⟩ := QQ n (by omega) hn
 obtain ⟨q, rfl⟩ : ∃ q, n = q + 1 := ⟨n - 1, by omega⟩
 show stp (q + 1) m (q + 1) = _
 rw [stp, if_pos h, if_pos hc, stp_stab q m (qq (q + 1)) (qq (q + 1)) hm (by omega) (by omega) (Nat.le_refl _)]
 rfl
theorem qey (m n : Nat) (hm : 1 ≤ m) (hn : n ≤ 1048576) (h : m < n) (hc : ¬ m ≤ qq n) : zg m n = (false :: (zg (m - qq n) (n - qq n)).1, false) := by
 obtain ⟨c1, c2, c3⟩ := QQ n (by omega) hn
 obtain ⟨q, rfl⟩ : ∃ q, n = q + 1 := ⟨n - 1, by omega⟩
 show stp (q + 1) m (q + 1) = _
 rw [stp, if_pos h, if_neg hc, stp_stab q (m - qq (q + 1)) (q + 1 - qq (q + 1)) (q + 1 - qq (q + 1)) (by omega) (by omega) (by omega) (Nat.le_refl _)]
 rfl
theorem stp_len (f : Nat) : ∀ m n, (stp f m n).1.length ≤ f := by
 induction f with
 | zero => intro m n; exact Nat.le_refl _
 | succ f ih =>
  intro m n
  unfold stp
  split
  · split
    · simp only [List.length_cons]; have := ih m (qq n); omega
    · simp only [List.length_cons]; have := ih (m - qq n) (n - qq n); omega
  · simp
abbrev TTn : Nat := 194
def boC (l : List Bool) : List Value := l.map Value.bool
theorem infoTn : (Tryz.prog.info? TTn).map (fun i => (i.zero, i.size, i.bytes)) = some (some (.bool false), 1, 1) := by kernel_rfl
theorem undTn : Tryz.prog.underlying 191 = some (.slice TTn) := by kernel_rfl
theorem bsTn (x : Bool) (w : World) : (Instr.buildSlice 191 1 #[(0, .bool x)]).run Tryz.prog w = .ok (.slice (some ⟨w.heap.size, 0, none⟩) 1 1) (w.alloc (.cells #[.bool x] TTn)) := by
 obtain ⟨i, hi, hz, hs, hb⟩ := Qg infoTn
 exact run_buildSlice w _ _ 1 _ #[.bool x] i (.bool false) undTn hi hz (by rw [hs]; decide) (by rw [hs]; decide) (by rw [hs]; kernel_rfl)
def qcj (xs : List Bool) (i : Nat) : List Bool := (List.range xs.length).map fun k => if k < i ∨ xs.length - i ≤ k then xs.getD (xs.length - 1 - k) false else xs.getD k false
theorem Qw (xs : List Bool) (i : Nat) : (qcj xs i).length = xs.length := by simp [qcj]
theorem qbE (xs : List Bool) (i k : Nat) (h : k < xs.length) : (qcj xs i)[k]? = some (if k < i ∨ xs.length - i ≤ k then xs.getD (xs.length - 1 - k) false else xs.getD k false) := by simp [qcj, h]
theorem qeL (xs : List Bool) : qcj xs 0 = xs := by
 apply List.ext_getElem?
 intro k
 by_cases h : k < xs.length
 · rw [qbE _ _ _ h, if_neg (by omega)]; simp [List.getD, h]
 · rw [List.getElem?_eq_none (by rw [Qw]; omega), List.getElem?_eq_none (by omega)]
theorem qeM (xs : List Bool) (i : Nat) (h : i < xs.length - 1 - i) : ((qcj xs i).set i (xs.getD (xs.length - 1 - i) false)).set (xs.length - 1 - i) (xs.getD i false) = qcj xs (i + 1) := by
 apply List.ext_getElem?
 intro k
 by_cases hk : k < xs.length
 · rw [qbE _ _ _ hk, List.getElem?_set, List.getElem?_set, List.length_set, Qw, qbE _ _ _ hk]
   by_cases h1 : xs.length - 1 - i = k
   · rw [if_pos h1, if_pos (by omega), if_pos (by omega)]
     congr 2; omega
   · rw [if_neg h1]
     by_cases h2 : i = k
     · rw [if_pos h2, if_pos (by omega), if_pos (by omega)]
       congr 2; omega
     · rw [if_neg h2]
       by_cases h3 : k < i ∨ xs.length - i ≤ k
       · rw [if_pos h3, if_pos (by omega)]
       · rw [if_neg h3, if_neg (by omega)]
 · rw [List.getElem?_eq_none (by rw [List.length_set, List.length_set, Qw]; omega), List.getElem?_eq_none (by rw [Qw]; omega)]
theorem revI_end (xs : List Bool) (i : Nat) (h : xs.length ≤ 2 * i + 1) (hi : i ≤ xs.length) : qcj xs i = xs.reverse := by
 apply List.ext_getElem?
 intro k
 by_cases hk : k < xs.length
 · rw [qbE _ _ _ hk, List.getElem?_reverse hk, List.getElem?_eq_getElem (by omega)]
   by_cases h3 : k < i ∨ xs.length - i ≤ k
   · rw [if_pos h3]; simp [List.getD, show xs.length - 1 - k < xs.length by omega]
   · rw [if_neg h3]
     have : k = xs.length - 1 - k := by omega
     simp only [List.getD, List.getElem?_eq_getElem hk, Option.getD_some]
     congr 1
     congr 1
 · rw [List.getElem?_eq_none (by rw [Qw]; omega), List.getElem?_eq_none (by simp; omega)]
end
end Go.Proofs.YtbgefoamhdgnaaaGreatDoor
