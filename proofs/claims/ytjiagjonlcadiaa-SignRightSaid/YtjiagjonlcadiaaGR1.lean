/- For every public key, signature and text the law SignRight returns true; no condition. -/
import Derived.Laws.Rows
import Derived.Laws.Tables
import Derived.Deep.MidRow
import Derived.Laws.ShiftsVarLaws
import Derived.Deep.DeepCutAuto
import Derived.Deep.CutBlock
import Derived.Test.YtjiagjonlcadiaaGb6
set_option maxRecDepth 100000
set_option maxHeartbeats 16000000
set_option linter.unusedVariables false
set_option linter.unusedSimpArgs false
namespace Go.Sx
section
open Go Go.RowKit
variable {C : Cx} {L : List Ent}
theorem lpe {C : Cx} (hT : TabOk C.P C.T) {body : Code} {K : Exit → Sy → Prop} {s : Sy} (id : Nat) {β : Type} (I : β → Prop) (E : β → Sy) {α : Type} (J : α → Prop) (f : α → Sy) (μ : α → Nat) (x0 : α) (h0 : J x0) (hle : Le (f x0) s)
 (step : ∀ x, J x → cx C body (fun e s' => match e with | .normal => ∃ y, J y ∧ μ y < μ x ∧ Le (f y) s' | .exit j => cond (Nat.beq j id) (∃ z, I z ∧ Le (E z) s') (K (.exit j) s') | e => K e s') (f x))
 (hE : ∀ z, I z → K (.exit id) (E z)) : LoopP C body K s := by
 have h := lp hT (K := fun e s' => match e with | .exit j => cond (Nat.beq j id) (∃ z, I z ∧ Le (E z) s') (K (.exit j) s') | e => K e s') J f μ x0 h0 hle (fun x hx => by
  have := step x hx
  have e : (fun e s' => match e with | .normal => ∃ y, J y ∧ μ y < μ x ∧ Le (f y) s' | .exit j => cond (Nat.beq j id) (∃ z, I z ∧ Le (E z) s') (K (.exit j) s') | e => K e s') = (fun e s' => match e with | .normal => ∃ y, J y ∧ μ y < μ x ∧ Le (f y) s' | e => (fun e s' => match e with | .exit j => cond (Nat.beq j id) (∃ z, I z ∧ Le (E z) s') (K (.exit j) s') | e => K e s') e s' : Exit → Sy → Prop) := by
   funext e s'; cases e <;> rfl
  rw [e] at this; exact this)
 refine ⟨fun n a w hf hs => wpIn_mono (h.go n a w hf hs) ?_⟩
 rintro e a' w' ⟨s', hf', hs', hk⟩
 cases e with
 | exit j =>
  simp only at hk
  by_cases hj : j = id
  · subst hj
    simp only [Nat.beq_refl, cond_true] at hk
    obtain ⟨z, hz, hle⟩ := hk
    exact ⟨E z, hf'.le hle, hs'.sub hle.l, hE z hz⟩
  · have : Nat.beq j id = false := Bool.eq_false_iff.2 fun e => hj (Nat.eq_of_beq_eq_true e)
    simp only [this, cond_false] at hk
    exact ⟨s', hf', hs', hk⟩
 | _ => exact ⟨s', hf', hs', hk⟩
end
end Go.Sx
namespace Go.Proofs.Ytjiagjonlcadiaa
section
open Go.RowKit Go.Lib
section has
variable {w w' : World} {b : Nat} {c : Array Value} {t : TypeId}
end has
section hasn
variable {w w' : World} {b n : Nat} {t : TypeId}
end hasn
theorem Has.setCells {w : World} {b : Nat} {t : TypeId} (l : List Value) : ∀ (c : Array Value) (o : Nat), Has w b c t → o + l.length ≤ c.size → Has (w.setCells b o l) b (c.toList.take o ++ l ++ c.toList.drop (o + l.length)).toArray t := by
 induction l generalizing w with
 | nil => intro c o h hl; simpa [World.setCells] using h
 | cons v l ih =>
  intro c o h hl
  simp only [World.setCells]
  have h1 := ih (c.setIfInBounds o v) (o + 1) (h.setAt o v) (by simp at hl ⊢; omega)
  have e : (c.setIfInBounds o v).toList.take (o + 1) ++ l ++ (c.setIfInBounds o v).toList.drop (o + 1 + l.length) = c.toList.take o ++ (v :: l) ++ c.toList.drop (o + (v :: l).length) := by
   have hlt : o < c.toList.length := by simp at hl ⊢; omega
   rw [Array.toList_setIfInBounds]
   generalize c.toList = xs at *
   have e1 : (xs.set o v).take (o + 1) = xs.take o ++ [v] := by
    rw [List.take_succ_eq_append_getElem (by simpa using hlt), List.take_set_of_le (Nat.le_refl _)]
    simp
   have e2 : (xs.set o v).drop (o + 1 + l.length) = xs.drop (o + 1 + l.length) := List.drop_set_of_lt (by omega)
   rw [e1, e2]
   simp [Nat.add_comm, Nat.add_left_comm]
  rw [← e]; exact h1
theorem qaC {B : Nat} {a : World} (g : Nat) (hg : B ≤ g) (l : List Value) : ∀ (w : World) (o : Nat), Below B a w → Below B a (w.setCells g o l) := by
 induction l with
 | nil => intro w o h; exact h
 | cons v l ih => intro w o h; simp only [World.setCells]; exact ih _ _ (h.setCell hg v)
end
section
open Go.RowKit Go.Lib
theorem half_fig (n i : Nat) : dg 4096 (n / 2) i = (dg 4096 n i + dg 4096 n (i + 1) % 2 * 4096) / 2 := by
 unfold dg
 have e1 : n / 2 / 4096 ^ i = n / 4096 ^ i / 2 := by rw [Nat.div_div_eq_div_mul, Nat.div_div_eq_div_mul, Nat.mul_comm]
 have e2 : n / 4096 ^ (i + 1) = n / 4096 ^ i / 4096 := by rw [Nat.pow_succ, Nat.div_div_eq_div_mul]
 rw [e1, e2]
 generalize n / 4096 ^ i = q
 omega
theorem half_top (n : Nat) (hn : n < 4096 ^ 22) : dg 4096 n 22 = 0 := by
 unfold dg
 rw [Nat.div_eq_of_lt hn]; rfl
theorem half_last (n : Nat) (hn : n < 4096 ^ 22) : dg 4096 (n / 2) 21 = dg 4096 n 21 / 2 := by
 rw [half_fig, half_top n hn]; omega
theorem qay (n : Nat) (hn : n < 4096 ^ 22) (w : World) :
 Calls Try.prog 86 #[.agg (r22 n)] w fun e w' => e = .returned (.agg (r22 (n / 2))) ∧ Below w.heap.size w w' := by
 have HE := Lib.hid (half_fig n)
 have HL := Lib.hid (half_last n hn); clear hn
 obtain ⟨d, hd⟩ : ∃ d, d = n / 2 := ⟨_, rfl⟩
 rw [← hd] at HE HL ⊢
 clear hd
 go_enter Try.func86, Try.ntmps86
 go_wp2_with fail
 go_loopw [3] (fun i wr => ∃ (k : Nat) (h : Nat → Int), k ≤ 22 ∧ i = .int .i64 k ∧ (∀ j, j < k → h j = dg 4096 d j) ∧ (∀ j, k ≤ j → h j = dg 4096 n j) ∧ Has wr w.heap.size (row .i64 22 h) 40 ∧ HasN wr (w.heap.size + 1) 22 40 ∧ Below w.heap.size w wr) (fun i _ => 22 - (intOf i).toNat)
 case atStart => exact ⟨0, dg 4096 n, by omega, rfl, fun j hj => by omega, fun _ _ => rfl, (Has.new _ _ _).alloc _, HasN.new1 _ _ _ _ 22 rfl, Qx _ _ _⟩
 case round =>
  obtain ⟨k, h, hk, rfl, hl, hh, m0, m1, hB⟩ := hrel
  have M0 := Lib.hid m0; clear m0
  have M1 := Lib.hid m1; clear m1
  have Hl := Lib.hid hl; clear hl
  have Hh := Lib.hid hh; clear hh
  by_cases hlt : k < 22
  · have h1 := M0.out.cell k hlt
    have hfz := M0.out.frozen k
    have x0 := qah n k
    have x1 := qaA n k
    have y0 := qah n (k + 1)
    have y1 := qaA n (k + 1)
    rw [Hh.out k (Nat.le_refl _)] at h1
    obtain ⟨x, hx⟩ : ∃ x, x = dg 4096 n k := ⟨_, rfl⟩
    obtain ⟨y, hy⟩ : ∃ y, y = dg 4096 n (k + 1) := ⟨_, rfl⟩
    rw [← hx] at h1 x0 x1
    rw [← hy] at y0 y1
    by_cases hl21 : k < 21
    · have h2 := M0.out.cell (k + 1) (by omega)
      rw [Hh.out (k + 1) (by omega), ← hy] at h2
      have hres : dg 4096 d k = (x + y % 2 * 4096) / 2 := by rw [hx, hy]; exact HE.out k
      have HR := Lib.hid hres; clear hres
      have Hx := Lib.hid hx; clear hx
      have Hy := Lib.hid hy; clear hy
      go_wp2_with fail
      go_roundw
      case measure => simp [intOf]; omega
      case rel =>
       refine ⟨k + 1, upd h k ((x + y % 2 * 4096) / 2), by omega, by go_num, ?_, ?_, M0.out.set _ _, M1.out.other _ _ (by simp <;> omega), hB.setCell (by simp <;> omega) _⟩
       · intro j hj
         by_cases e : j = k
         · subst e; rw [qw, HR.out]
         · rw [qD _ _ _ _ e]; exact Hl.out j (by omega)
       · intro j hj; rw [qD _ _ _ _ (by omega)]; exact Hh.out j (by omega)
    · obtain rfl : k = 21 := by omega
      have hres : dg 4096 d 21 = x / 2 := by rw [hx]; exact HL.out
      have HR := Lib.hid hres; clear hres
      have Hx := Lib.hid hx; clear hx
      have Hy := Lib.hid hy; clear hy
      go_wp2_with fail
      go_roundw
      case measure => simp [intOf]
      case rel =>
       refine ⟨22, upd h 21 (x / 2), by omega, by go_num, ?_, ?_, M0.out.set _ _, M1.out.other _ _ (by simp <;> omega), hB.setCell (by simp <;> omega) _⟩
       · intro j hj
         by_cases e : j = 21
         · subst e; rw [qw, HR.out]
         · rw [qD _ _ _ _ e]; exact Hl.out j (by omega)
       · intro j hj; rw [qD _ _ _ _ (by omega)]; exact Hh.out j (by omega)
  · obtain rfl : k = 22 := by omega
    have m0 := M0.out
    rw [Qb .i64 22 h (dg 4096 d) (fun i hi => Hl.out i hi)] at m0
    have M2 := Lib.hid (show Has wr w.heap.size (r22 d) 40 from m0); clear m0
    obtain ⟨Z, hZ, mz⟩ := M1.out
    have MZ := Lib.hid mz; clear mz
    have HZ := Lib.hid hZ; clear hZ
    go_wp2_with (first | (refine wpList_load_row rfl 40 _ rfl (w.heap.size) rfl 40 (r22 d) (0, 0) _ M2.out Try.underlying40 rfl (by rw [qe]; kernel_rfl) ?_) | (refine wpList_store_row rfl 40 _ _ rfl (w.heap.size + 1) _ rfl rfl 40 Z MZ.out (by rw [qe]; kernel_rfl) (HZ.out.trans (qe _).symm) (qp _ _ _) ?_))
    exact bodyPost_ret (v := .agg (r22 d)) (results_cell_row (t := 40) (by rfl) _ _ (w.heap.size + 1) _ _ _ rfl (MZ.out.setRow _) Try.underlying40 rfl (by rw [qe]; kernel_rfl)) rfl ⟨rfl, below_setRow hB _ _ (by omega)⟩
end
section
open Go.RowKit Go.Sx
variable {C : Cx} {L : List Ent} {t : TypeId} {a b : Operand} {c d : Array Value} {r : Bool} {next : Value → List Ent → Prop}
theorem eqR (hP : C.P = Try.prog) (hg : Try.prog.eqGuardType Try.prog.depth t = false) (h : ∀ w, (Op.equalIn 10000 t (.agg c) (.agg d)).run Try.prog w = .ok r w) (go : next (.bool r) L) :
 qaf C (do eqGuard .eql t a b (.agg c) (.agg d); binOp .eql t (.agg c) (.agg d)) L next := by
 refine semV (fun w _ => ?_) go
 rw [hP]
 simp only [Sem.run_bind, qaR hg, Result.andThen_ok]
 rw [run_eql_struct, h]
 rfl
theorem neR (hP : C.P = Try.prog) (hg : Try.prog.eqGuardType Try.prog.depth t = false) (h : ∀ w, (Op.equalIn 10000 t (.agg c) (.agg d)).run Try.prog w = .ok r w) (go : next (.bool (!r)) L) :
 qaf C (do eqGuard .neq t a b (.agg c) (.agg d); binOp .neq t (.agg c) (.agg d)) L next := by
 refine semV (fun w _ => ?_) go
 rw [hP]
 simp only [Sem.run_bind, qaR hg, Result.andThen_ok]
 rw [run_neq_struct, h]
 rfl
end
section
open Go.RowKit Go.Sx
theorem p3_row : row .i64 22 (upd (dg 4096 PP) 0 4080) = r22 (PP + 3) := by
 refine Qb _ _ _ _ ?_
 have : (List.range 22).all (fun i => upd (dg 4096 PP) 0 4080 i == dg 4096 (PP + 3) i) = true := by decide +kernel
 intro i hi
 simpa using List.all_eq_true.1 this i (by simpa using hi)
theorem pp0 : dg 4096 PP 0 = 4077 := by decide +kernel
theorem p3_lt : PP + 3 < 4096 ^ 22 := by decide +kernel
theorem r22_eq (x y : Nat) (hx : x < 4096 ^ 22) (hy : y < 4096 ^ 22) (w : World) : (Op.equalIn 10000 40 (.agg (r22 x)) (.agg (r22 y))).run Try.prog w = .ok (decide (x = y)) w := by
 rw [← eqr_dg 4096 22 x y hx hy]
 exact zR w 9998 40 3 22 .i64 Try.underlying40 Try.underlying3 sz_int _ _
theorem ei_lt : (PP - 1 % PP) / 2 / 2 < 2 ^ 255 := by decide +kernel
theorem qcr (n : Nat) (h : n < 4096 ^ 22) : n / 2 < 4096 ^ 22 := Nat.lt_of_le_of_lt (Nat.div_le_self _ _) h
theorem e3_lt : (PP + 3) / 2 / 2 / 2 < 2 ^ 255 := by decide +kernel
theorem r2_cases (a : Nat) (h : rt1 a * rt1 a % PP = a) : rt2 a = rt1 a := by unfold rt2; rw [if_pos h]
theorem r2_other (a : Nat) (h : ¬ rt1 a * rt1 a % PP = a) : rt2 a = rt1 a * rti % PP := by unfold rt2; rw [if_neg h]
theorem r3_odd (a : Nat) (h : rt2 a * rt2 a % PP = a) (ho : rt2 a % 2 = 1) : rt3 a = PP - rt2 a ∧ Qy a = true := by
 have h1 : Qy a = true := by unfold Qy; exact decide_eq_true h
 refine ⟨?_, h1⟩
 unfold rt3
 rw [h1, if_pos rfl, if_pos ho]
theorem r3_even (a : Nat) (h : rt2 a * rt2 a % PP = a) (ho : ¬ rt2 a % 2 = 1) : rt3 a = rt2 a ∧ Qy a = true := by
 have h1 : Qy a = true := by unfold Qy; exact decide_eq_true h
 refine ⟨?_, h1⟩
 unfold rt3
 rw [h1, if_pos rfl, if_neg ho]
theorem r3_non (a : Nat) (h : ¬ rt2 a * rt2 a % PP = a) : rt3 a = 0 ∧ Qy a = false := by
 have h1 : Qy a = false := by unfold Qy; exact decide_eq_false h
 refine ⟨?_, h1⟩
 unfold rt3
 rw [h1, if_neg (by decide)]
theorem dg0_odd (r : Nat) (h : r % 2 = 1) : (dg 4096 r 0 % 2 == 1) = true := by
 have hz0 : dg 4096 r 0 % 2 = ((r % 2 : Nat) : Int) := by unfold dg; rw [Nat.pow_zero, Nat.div_one]; omega
 rw [hz0, h]; rfl
theorem dg0_even (r : Nat) (h : ¬ r % 2 = 1) : (dg 4096 r 0 % 2 == 1) = false := by
 have hz0 : dg 4096 r 0 % 2 = ((r % 2 : Nat) : Int) := by unfold dg; rw [Nat.pow_zero, Nat.div_one]; omega
 rw [hz0, show r % 2 = 0 by omega]; rfl
theorem zk (n : Nat) : (r22 n).toList.all (·.oneCell') = true := by unfold r22 row; exact List.all_eq_true.2 fun v hv => Ze _ _ _ v hv
abbrev pu (b : Nat) : Value := .pointer (some ⟨b, 0, none⟩)
theorem qdW : Try.prog.built 40 [] = some (r22 0) := by kernel_rfl
theorem rroot_core (a q q1 q2 q3 r1 ti v1 v2 v3 v4 v5 r2 : Nat) (ha : a < PP) (hr1 : r1 < PP) (hrt1 : r1 = rt1 a) (hti : r2 = r1 * ti % PP) (htl : ti < PP) (hrt2 : rti = ti) (hp3 : (r22 PP).setIfInBounds 0 (.int .i64 4080) = r22 q)
 (hh1 : ∀ w, Calls Try.prog 86 ([.agg (r22 q)] : List Value).toArray w fun e w' => e = .returned (.agg (r22 q1)) ∧ Below w.heap.size w w')
 (hh2 : ∀ w, Calls Try.prog 86 ([.agg (r22 q1)] : List Value).toArray w fun e w' => e = .returned (.agg (r22 q2)) ∧ Below w.heap.size w w')
 (hh3 : ∀ w, Calls Try.prog 86 ([.agg (r22 q2)] : List Value).toArray w fun e w' => e = .returned (.agg (r22 q3)) ∧ Below w.heap.size w w')
 (hpw : ∀ w, Calls Try.prog 85 ([.agg (r22 a), .agg (r22 q3)] : List Value).toArray w fun e w' => e = .returned (.agg (r22 r1)) ∧ Below w.heap.size w w')
 (k1 : ∀ w, Calls Try.prog 35 ([.int .i64 2] : List Value).toArray w fun e w' => e = .returned (.agg (r22 v2)) ∧ Below w.heap.size w w')
 (k2 : ∀ w, Calls Try.prog 35 ([.int .i64 1] : List Value).toArray w fun e w' => e = .returned (.agg (r22 v1)) ∧ Below w.heap.size w w')
 (k3 : ∀ w, Calls Try.prog 81 ([.agg (r22 PP), .agg (r22 v1)] : List Value).toArray w fun e w' => e = .returned (.agg (r22 v3)) ∧ Below w.heap.size w w')
 (k4 : ∀ w, Calls Try.prog 86 ([.agg (r22 v3)] : List Value).toArray w fun e w' => e = .returned (.agg (r22 v4)) ∧ Below w.heap.size w w')
 (k5 : ∀ w, Calls Try.prog 86 ([.agg (r22 v4)] : List Value).toArray w fun e w' => e = .returned (.agg (r22 v5)) ∧ Below w.heap.size w w')
 (k6 : ∀ w, Calls Try.prog 85 ([.agg (r22 v2), .agg (r22 v5)] : List Value).toArray w fun e w' => e = .returned (.agg (r22 ti)) ∧ Below w.heap.size w w') (w : World) :
 Calls Try.prog 45 ([.agg (r22 a)] : List Value).toArray w fun e w' => e = .returned (.tuple #[.agg (r22 (rt3 a)), .bool (Qy a)]) ∧ Below w.heap.size w w' := by
 refine q9 qi Try.func45 rfl Try.ntmps45 rfl (St.start w) ?_
 intro b1 b2
 refine cv Q8 ?_
 intro b4
 refine sN 2 rfl (by rw [qe]; rfl) (zk _) ?_ (by kernel_rfl)
 refine ⟨by decide, by decide, ?_⟩
 refine ld1 2 rfl (v := .int .i64 4077) (by unfold r22; rw [← pp0]; exact QJ _ _ _ _ (by decide)) ?_
 refine .as 4080 (by decide) (by decide) (by decide) ?_
 refine ⟨by decide, by decide, ?_⟩
 refine s1e 2 (r22 q) rfl (by show 0 < (r22 PP).size; rw [qe]; decide) hp3 ?_
 refine cut (α := Nat) (fun _ => True) (fun b5 => ⟨[(1, pu b1), (2, pu b2), (5, pu b5)], [cl b1 (r22 a) 40, cl b2 #[.int .i64 0, .int .i64 0, .int .i64 0, .int .i64 0, .int .i64 0, .int .i64 0, .int .i64 0, .int .i64 0, .int .i64 0, .int .i64 0, .int .i64 0, .int .i64 0, .int .i64 0, .int .i64 0, .int .i64 0, .int .i64 0, .int .i64 0, .int .i64 0, .int .i64 0, .int .i64 0, .int .i64 0, .int .i64 0] 40, cl b5 (r22 r1) 40], []⟩) ?_ ?_
 · refine drs [cl b1 (r22 a) 40, dead, cl b4 (r22 q) 40] [] (.t 0 (.t 1 (.b 2 6 (.b 3 6 (.b 4 6 (.b 5 6 (.n 6 (.n 7 .nil)) (.n 5 (.n 7 .nil))) (.n 4 (.n 5 (.n 7 .nil)))) (.n 3 (.n 4 (.n 5 (.n 7 .nil))))) (.n 2 (.n 3 (.n 4 (.n 5 (.n 7 .nil)))))))) qi qq (by kernel_rfl) (.cons (.dead (.cons .nil))) ?_
   refine ldN 0 rfl (qe _) ?_
   refine ldN 2 rfl (qe _) ?_
   refine ⟨?_, ?_⟩
   · refine cv (fun w => hh1 w) ?_
     refine ⟨.cons (.dead (.cons .nil)), ?_⟩
     refine ⟨?_, ?_⟩
     · refine cv (fun w => hh2 w) ?_
       refine ⟨.cons (.dead (.cons .nil)), ?_⟩
       refine ⟨?_, ?_⟩
       · refine cv (fun w => hh3 w) ?_
         refine ⟨.cons (.dead (.cons .nil)), ?_⟩
         refine ⟨?_, ?_⟩
         · refine cv (fun w => hpw w) ?_
           refine ⟨.cons (.dead (.cons .nil)), ?_⟩
           intro b5
           refine ⟨.cons (.dead (.cons .nil)), ?_⟩
           refine sN 3 rfl (by rw [qe]; rfl) (zk _) ?_ (by kernel_rfl)
           refine ⟨.cons (.dead (.cons .nil)), ?_⟩
           exact ⟨b5, trivial, ⟨rfl, rfl, rfl, trivial⟩, .cons (.cons (.drop (.cons .nil))), rfl⟩
         · intro b5
           refine ⟨.cons (.dead (.cons .nil)), ?_⟩
           refine cv (fun w => hpw w) ?_
           refine ⟨.cons (.dead (.cons .nil)), ?_⟩
           refine sN 3 rfl (by rw [qe]; rfl) (zk _) ?_ (by kernel_rfl)
           refine ⟨.cons (.dead (.cons .nil)), ?_⟩
           exact ⟨b5, trivial, ⟨rfl, rfl, rfl, trivial⟩, .cons (.cons (.drop (.cons .nil))), rfl⟩
       · intro b5
         refine ⟨.cons (.dead (.cons .nil)), ?_⟩
         refine cv (fun w => hh3 w) ?_
         refine ⟨.cons (.dead (.cons .nil)), ?_⟩
         refine cv (fun w => hpw w) ?_
         refine ⟨.cons (.dead (.cons .nil)), ?_⟩
         refine sN 3 rfl (by rw [qe]; rfl) (zk _) ?_ (by kernel_rfl)
         refine ⟨.cons (.dead (.cons .nil)), ?_⟩
         exact ⟨b5, trivial, ⟨rfl, rfl, rfl, trivial⟩, .cons (.cons (.drop (.cons .nil))), rfl⟩
     · intro b5
       refine ⟨.cons (.dead (.cons .nil)), ?_⟩
       refine cv (fun w => hh2 w) ?_
       refine ⟨.cons (.dead (.cons .nil)), ?_⟩
       refine cv (fun w => hh3 w) ?_
       refine ⟨.cons (.dead (.cons .nil)), ?_⟩
       refine cv (fun w => hpw w) ?_
       refine ⟨.cons (.dead (.cons .nil)), ?_⟩
       refine sN 3 rfl (by rw [qe]; rfl) (zk _) ?_ (by kernel_rfl)
       refine ⟨.cons (.dead (.cons .nil)), ?_⟩
       exact ⟨b5, trivial, ⟨rfl, rfl, rfl, trivial⟩, .cons (.cons (.drop (.cons .nil))), rfl⟩
   · intro b5
     refine ⟨.cons (.dead (.cons .nil)), ?_⟩
     refine cv (fun w => hh1 w) ?_
     refine ⟨.cons (.dead (.cons .nil)), ?_⟩
     refine cv (fun w => hh2 w) ?_
     refine ⟨.cons (.dead (.cons .nil)), ?_⟩
     refine cv (fun w => hh3 w) ?_
     refine ⟨.cons (.dead (.cons .nil)), ?_⟩
     refine cv (fun w => hpw w) ?_
     refine ⟨.cons (.dead (.cons .nil)), ?_⟩
     refine sN 3 rfl (by rw [qe]; rfl) (zk _) ?_ (by kernel_rfl)
     refine ⟨.cons (.dead (.cons .nil)), ?_⟩
     exact ⟨b5, trivial, ⟨rfl, rfl, rfl, trivial⟩, .cons (.cons (.drop (.cons .nil))), rfl⟩
 · intro b5 _
   have ht := fun w => qO r1 r1 hr1 hr1 w
   have hsl : r1 * r1 % PP < PP := Nat.mod_lt _ qH
   refine drs [cl b1 (r22 a) 40, dead, cl b5 (r22 r1) 40] [] (.t 0 (.t 1 (.t 3 (.n 2 (.n 4 .nil))))) qi qq (by kernel_rfl) (.cons (.dead (.cons .nil))) ?_
   refine ldN 2 rfl (qe _) ?_
   refine ldN 2 rfl (qe _) ?_
   refine ldN 0 rfl (qe _) ?_
   refine cv (fun w => ht w) ?_
   refine ⟨.cons (.dead (.cons .nil)), ?_⟩
   refine neR rfl (by kernel_rfl) (r22_eq _ a (zb _ hsl) (zb a ha)) ?_
   refine ⟨.cons (.dead (.cons .nil)), ?_⟩
   by_cases c1 : r1 * r1 % PP = a
   · refine cf (by simp [c1]) ?_
     have hk : r1 = rt2 a := by rw [hrt1] at c1 ⊢; exact (r2_cases a c1).symm
     have ht := fun w => qO r1 r1 hr1 hr1 w
     have hsl : r1 * r1 % PP < PP := Nat.mod_lt _ qH
     refine drs [cl b1 (r22 a) 40, dead, cl b5 (r22 r1) 40] [] (.t 0 (.t 1 (.t 3 (.n 2 (.n 4 .nil))))) qi qq (by kernel_rfl) (.cons (.dead (.cons .nil))) ?_
     refine ldN 2 rfl (qe _) ?_
     refine ldN 2 rfl (qe _) ?_
     refine ldN 0 rfl (qe _) ?_
     refine cv (fun w => ht w) ?_
     refine ⟨.cons (.dead (.cons .nil)), ?_⟩
     refine neR rfl (by kernel_rfl) (r22_eq _ a (zb _ hsl) (zb a ha)) ?_
     refine ⟨.cons (.dead (.cons .nil)), ?_⟩
     by_cases c2 : r1 * r1 % PP = a
     · refine cf (by simp [c2]) ?_
       refine ⟨by decide, by decide, ?_⟩
       refine ld1 2 rfl (v := .int .i64 (dg 4096 r1 0)) (by unfold r22; exact QJ _ _ _ _ (by decide)) ?_
       have hb := zV 4096 r1 0 (by decide)
       refine ⟨hb.1, by simp only [mx]; omega, by decide, ?_⟩
       rw [hk] at c2
       by_cases c3 : r1 % 2 = 1
       · obtain ⟨f1, f2⟩ := r3_odd a c2 (by rw [← hk]; exact c3)
         refine ct (dg0_odd r1 c3) ?_
         refine drs [dead, dead, cl b5 (r22 r1) 40] [3] (.t 1 (.n 0 (.n 2 (.n 3 .nil)))) qi qq (by kernel_rfl) (.dead (.dead (.cons .nil))) ?_
         refine ldN 2 rfl (qe _) ?_
         refine cv Q8 ?_
         refine ⟨.dead (.dead (.cons .nil)), ?_⟩
         refine cv (fun w => Zn PP r1 (Nat.le_of_lt hr1) qai w) ?_
         refine ⟨.dead (.dead (.cons .nil)), ?_⟩
         refine sN 2 rfl (by rw [qe, qe]) (zk _) ?_ (by kernel_rfl)
         refine ldN 2 rfl (qe _) ?_
         refine sN 1 rfl (by rw [qe]; rfl) (zk _) ?_ (by kernel_rfl)
         refine ldN 1 rfl (qe _) ?_
         exact rt (by rw [f1, f2, hk]; rfl)
       · obtain ⟨f1, f2⟩ := r3_even a c2 (by rw [← hk]; exact c3)
         refine cf (dg0_even r1 c3) ?_
         refine ldN 2 rfl (qe _) ?_
         refine sN 1 rfl (by rw [qe]; rfl) (zk _) ?_ (by kernel_rfl)
         refine ldN 1 rfl (qe _) ?_
         exact rt (by rw [f1, f2, hk]; rfl)
     · refine ct (by simp [c2]) ?_
       rw [hk] at c2
       obtain ⟨f1, f2⟩ := r3_non a c2
       refine bu (c := r22 0) qdW ?_
       refine sN 1 rfl (by rw [qe]; rfl) (zk _) ?_ (by kernel_rfl)
       refine ldN 1 rfl (qe _) ?_
       exact rt (by rw [f1, f2]; rfl)
   · refine ct (by simp [c1]) ?_
     have k7 := fun w => qO r1 ti hr1 htl w
     rw [← hti] at k7
     have hk : r2 = rt2 a := by rw [hrt1] at c1; rw [r2_other a c1, hti, hrt1, hrt2]
     have hr2 : r2 < PP := by rw [hti]; exact Nat.mod_lt _ qH
     clear hti
     refine drs [dead, dead, cl b5 (r22 r1) 40] [9] (.t 0 (.n 1 (.n 2 (.n 3 (.n 4 (.n 5 (.n 6 (.n 7 (.n 8 (.n 9 .nil)))))))))) qi qq (by kernel_rfl) (.dead (.dead (.cons .nil))) ?_
     refine ldN 2 rfl (qe _) ?_
     refine cv (fun w => k1 w) ?_
     refine ⟨.dead (.dead (.cons .nil)), ?_⟩
     refine cv (fun w => Q8 w) ?_
     refine ⟨.dead (.dead (.cons .nil)), ?_⟩
     refine cv (fun w => k2 w) ?_
     refine ⟨.dead (.dead (.cons .nil)), ?_⟩
     refine cv (fun w => k3 w) ?_
     refine ⟨.dead (.dead (.cons .nil)), ?_⟩
     refine cv (fun w => k4 w) ?_
     refine ⟨.dead (.dead (.cons .nil)), ?_⟩
     refine cv (fun w => k5 w) ?_
     refine ⟨.dead (.dead (.cons .nil)), ?_⟩
     refine cv (fun w => k6 w) ?_
     refine ⟨.dead (.dead (.cons .nil)), ?_⟩
     refine cv (fun w => k7 w) ?_
     refine ⟨.dead (.dead (.cons .nil)), ?_⟩
     refine sN 2 rfl (by rw [qe, qe]) (zk _) ?_ (by kernel_rfl)
     have ht := fun w => qO r2 r2 hr2 hr2 w
     have hsl : r2 * r2 % PP < PP := Nat.mod_lt _ qH
     refine drs [cl b1 (r22 a) 40, dead, cl b5 (r22 r2) 40] [] (.t 0 (.t 1 (.t 3 (.n 2 (.n 4 .nil))))) qi qq (by kernel_rfl) (.cons (.dead (.cons .nil))) ?_
     refine ldN 2 rfl (qe _) ?_
     refine ldN 2 rfl (qe _) ?_
     refine ldN 0 rfl (qe _) ?_
     refine cv (fun w => ht w) ?_
     refine ⟨.cons (.dead (.cons .nil)), ?_⟩
     refine neR rfl (by kernel_rfl) (r22_eq _ a (zb _ hsl) (zb a ha)) ?_
     refine ⟨.cons (.dead (.cons .nil)), ?_⟩
     by_cases c2 : r2 * r2 % PP = a
     · refine cf (by simp [c2]) ?_
       refine ⟨by decide, by decide, ?_⟩
       refine ld1 2 rfl (v := .int .i64 (dg 4096 r2 0)) (by unfold r22; exact QJ _ _ _ _ (by decide)) ?_
       have hb := zV 4096 r2 0 (by decide)
       refine ⟨hb.1, by simp only [mx]; omega, by decide, ?_⟩
       rw [hk] at c2
       by_cases c3 : r2 % 2 = 1
       · obtain ⟨f1, f2⟩ := r3_odd a c2 (by rw [← hk]; exact c3)
         refine ct (dg0_odd r2 c3) ?_
         refine drs [dead, dead, cl b5 (r22 r2) 40] [3] (.t 1 (.n 0 (.n 2 (.n 3 .nil)))) qi qq (by kernel_rfl) (.dead (.dead (.cons .nil))) ?_
         refine ldN 2 rfl (qe _) ?_
         refine cv Q8 ?_
         refine ⟨.dead (.dead (.cons .nil)), ?_⟩
         refine cv (fun w => Zn PP r2 (Nat.le_of_lt hr2) qai w) ?_
         refine ⟨.dead (.dead (.cons .nil)), ?_⟩
         refine sN 2 rfl (by rw [qe, qe]) (zk _) ?_ (by kernel_rfl)
         refine ldN 2 rfl (qe _) ?_
         refine sN 1 rfl (by rw [qe]; rfl) (zk _) ?_ (by kernel_rfl)
         refine ldN 1 rfl (qe _) ?_
         exact rt (by rw [f1, f2, hk]; rfl)
       · obtain ⟨f1, f2⟩ := r3_even a c2 (by rw [← hk]; exact c3)
         refine cf (dg0_even r2 c3) ?_
         refine ldN 2 rfl (qe _) ?_
         refine sN 1 rfl (by rw [qe]; rfl) (zk _) ?_ (by kernel_rfl)
         refine ldN 1 rfl (qe _) ?_
         exact rt (by rw [f1, f2, hk]; rfl)
     · refine ct (by simp [c2]) ?_
       rw [hk] at c2
       obtain ⟨f1, f2⟩ := r3_non a c2
       refine bu (c := r22 0) qdW ?_
       refine sN 1 rfl (by rw [qe]; rfl) (zk _) ?_ (by kernel_rfl)
       refine ldN 1 rfl (qe _) ?_
       exact rt (by rw [f1, f2]; rfl)
theorem rroot_any (a : Nat) (ha : a < PP) (w : World) :
 Calls Try.prog 45 #[.agg (r22 a)] w fun en w' => en = .returned (.tuple #[.agg (r22 (rt3 a)), .bool (Qy a)]) ∧ Below w.heap.size w w' :=
 rroot_core a (PP + 3) ((PP + 3) / 2) ((PP + 3) / 2 / 2) ((PP + 3) / 2 / 2 / 2) (rt1 a) rti (1 % PP) (2 % PP) (PP - 1 % PP) ((PP - 1 % PP) / 2) ((PP - 1 % PP) / 2 / 2) (rt1 a * rti % PP) ha (qcO _ _) rfl rfl (qcO _ _) rfl
  (by unfold r22; rw [qbp]; exact p3_row) (fun w => qay (PP + 3) p3_lt w) (fun w => qay ((PP + 3) / 2) (qcr _ p3_lt) w) (fun w => qay ((PP + 3) / 2 / 2) (qcr _ (qcr _ p3_lt)) w)
  (fun w => qcJ a ((PP + 3) / 2 / 2 / 2) ha e3_lt w) (fun w => ZS 2 (by omega) w) (fun w => ZS 1 (by omega) w) (fun w => Zn PP (1 % PP) (Nat.le_of_lt (Nat.mod_lt _ qH)) qai w)
  (fun w => qay (PP - 1 % PP) (Nat.lt_of_le_of_lt (Nat.sub_le _ _) qai) w) (fun w => qay ((PP - 1 % PP) / 2) (qcr _ (Nat.lt_of_le_of_lt (Nat.sub_le _ _) qai)) w) (fun w => qcJ (2 % PP) ((PP - 1 % PP) / 2 / 2) (Nat.mod_lt _ qH) ei_lt w) w
end
section
open Go.RowKit Go.Lib
theorem bes_lt (C : Nat) (ev : Bool) (Y : Nat) (hY : Y < PP) : (bes C ev Y).2.1 < PP ∧ (bes C ev Y).2.2 < PP := by
 unfold bes
 by_cases h : Qy C = true ∧ ¬ (rt3 C = 0 ∧ ev = false)
 · rw [if_pos h]
   refine ⟨?_, hY⟩
   by_cases he : ev = true
   · rw [if_pos he]; exact qbO C
   · rw [if_neg he]; exact Nat.mod_lt _ qH
 · rw [if_neg h]
   have := QB
   refine ⟨?_, ?_⟩
   · show 0 < PP; omega
   · show 1 < PP; omega
theorem cof_lt (n : Nat) : (cof n).2.1 < PP ∧ (cof n).2.2 < PP := by
 by_cases h : n % 57896044618658097711785492504343953926634992332820282019728792003956564819968 < PP
 · rw [qbI n h]; exact bes_lt _ _ _ h
 · rw [cof_no n h]
   have := QB
   refine ⟨?_, ?_⟩
   · show 0 < PP; omega
   · show 1 < PP; omega
end
section
open Go.RowKit Go.Sx
theorem cx_def (Y sq e1 e2 e3 C : Nat) (h1 : sq = Y * Y % PP) (h2 : e1 = (sq + (PP - 1)) % PP) (h3 : e2 = SL * sq % PP) (h4 : e3 = (e2 + 1) % PP) (h5 : C = e1 * pwm e3 (PP - 2) % PP) : cx Y = C := by
 unfold cx; rw [h5, h2, h4, h3, h1]
theorem Zj (n : Nat) : (r22 n).toList.all (·.oneCell') = true := by unfold r22 row; exact List.all_eq_true.2 fun v hv => Ze _ _ _ v hv
abbrev pw (b : Nat) : Value := .pointer (some ⟨b, 0, none⟩)
theorem KQ {e1 e2 e3 e4 e5 : Ent} {l : List Ent} : Sub [dead, dead, dead, e4, e5] (e1 :: e2 :: e3 :: e4 :: e5 :: l) := .dead (.dead (.dead (.cons (.cons .nil))))
theorem rofp_core (n n0 c q A : Nat) (p : Nat × Nat) (ok0 : Bool) (w : World) (hcell : (k32 n)[31]? = some (.int .u8 (c : Int))) (hc : c < 256) (hq : ((c : Nat) : Int) / 128 = (q : Int)) (hset : (k32 n).setIfInBounds 31 (.int .u8 ((c : Int) % 128)) = k32 n0)
 (hl0 : n0 < 115792089237316195423570985008687907853269984665640564039457584007913129639936) (hro : ∀ w, Calls Try.prog 33 ([.agg (k32 n0)] : List Value).toArray w fun e w' => e = .returned (.agg (r22 A)) ∧ Below w.heap.size w w') (hrk : ∀ w, Calls Try.prog 74 ([.agg (r22 A)] : List Value).toArray w fun e w' => e = .returned (.agg (k32 A)) ∧ Below w.heap.size w w')
 (hA : A < 115792089237316195423570985008687907853269984665640564039457584007913129639936) (hno : A ≠ n0 → ok0 = false ∧ p = (0, 1))
 (hyes : A = n0 → n0 < PP ∧ ((Qy (cx n0) = false ∨ q = 1 ∧ rt3 (cx n0) = 0) → ok0 = false ∧ p = (0, 1)) ∧ (Qy (cx n0) = true → q = 0 → ok0 = true ∧ p = (rt3 (cx n0), n0)) ∧ (Qy (cx n0) = true → q = 1 → rt3 (cx n0) ≠ 0 → ok0 = true ∧ p = ((0 + (PP - rt3 (cx n0))) % PP, n0))) (hq2 : q = 0 ∨ q = 1) :
 Calls Try.prog 48 ([.agg (k32 n)] : List Value).toArray w fun e w' => e = .returned (.tuple #[.agg (rp p.1 p.2 1 (p.1 * p.2 % PP)), .bool ok0]) ∧ Below w.heap.size w w' := by
 refine q9 qi Try.func48 rfl Try.ntmps48 rfl (St.start w) ?_
 intro b1 b2
 refine ⟨by decide, by decide, ?_⟩
 refine ld1 0 rfl (v := .int .u8 (c : Int)) hcell ?_
 refine ⟨by omega, by simp only [mx]; omega, by decide, ?_⟩
 rw [hq]
 refine ⟨by decide, by decide, ?_⟩
 refine ld1 0 rfl (v := .int .u8 (c : Int)) hcell ?_
 refine ⟨by omega, by simp only [mx]; omega, by decide, ?_⟩
 refine ⟨by decide, by decide, ?_⟩
 refine s1e 0 (k32 n0) rfl (by show 31 < (k32 n).size; rw [qf]; decide) hset ?_
 refine ldN 0 rfl (qf _) ?_
 refine cv hro ?_
 intro b5
 refine sN 2 rfl (by rw [qe]; rfl) (Zj _) ?_ (by kernel_rfl)
 refine drs [cl b1 (k32 n0) 24, dead, cl b5 (r22 A) 40] [] (.t 0 (.t 2 (.n 1 (.n 3 .nil)))) qi qq (by kernel_rfl) (.cons (.dead (.cons .nil))) ?_
 refine ldN 2 rfl (qe _) ?_
 refine ldN 0 rfl (qf _) ?_
 refine cv hrk ?_
 refine ⟨.cons (.dead (.cons .nil)), ?_⟩
 refine neR rfl (by kernel_rfl) (k32_eq A n0 hA hl0) ?_
 refine ⟨.cons (.dead (.cons .nil)), ?_⟩
 by_cases hAn : A = n0
 · obtain ⟨hlt, h1, h2, h3⟩ := hyes hAn
   clear hyes hno hrk hro
   subst hAn
   refine cf (by simp) ?_
   have hint : ∀ w, Calls Try.prog 35 ([.int .i64 1] : List Value).toArray w fun e w' => e = .returned (.agg (r22 1)) ∧ Below w.heap.size w w' := fun w => by have := ZS 1 (by decide) w; rwa [ZC] at this
   have ht1 := fun w => qO A A hlt hlt w
   obtain ⟨sq, hsq⟩ : ∃ s, s = A * A % PP := ⟨_, rfl⟩
   rw [← hsq] at ht1
   have hsql : sq < PP := by rw [hsq]; exact Nat.mod_lt _ qH
   have h1l : 1 < PP := by have := QB; omega
   have hm1 := fun w => Zh sq 1 hsql h1l w
   obtain ⟨e1, he1⟩ : ∃ s, s = (sq + (PP - 1)) % PP := ⟨_, rfl⟩
   rw [← he1] at hm1
   have he1l : e1 < PP := by rw [he1]; exact Nat.mod_lt _ qH
   have ht2 := fun w => qO SL sq SL_lt hsql w
   obtain ⟨e2, he2⟩ : ∃ s, s = SL * sq % PP := ⟨_, rfl⟩
   rw [← he2] at ht2
   have he2l : e2 < PP := by rw [he2]; exact Nat.mod_lt _ qH
   have hp1 := fun w => ZI e2 1 (zb _ he2l) (zb _ h1l) w
   obtain ⟨e3, he3⟩ : ∃ s, s = (e2 + 1) % PP := ⟨_, rfl⟩
   rw [← he3] at hp1
   have he3l : e3 < PP := by rw [he3]; exact Nat.mod_lt _ qH
   have ho1 := fun w => qbP e1 e3 he1l he3l w
   obtain ⟨C, hC⟩ : ∃ s, s = e1 * pwm e3 (PP - 2) % PP := ⟨_, rfl⟩
   rw [← hC] at ho1
   have hCl : C < PP := by rw [hC]; exact Nat.mod_lt _ qH
   have hrr := fun w => rroot_any C hCl w
   have hsl := qa7
   rw [cx_def A sq e1 e2 e3 C hsq he1 he2 he3 hC] at h1 h2 h3
   have hRl : rt3 C < PP := qbO C
   generalize Qy C = ok at hrr h1 h2 h3
   generalize rt3 C = R at hrr h1 h2 h3 hRl
   clear hC hCl he3 he3l he2 he2l he1 he1l hsq hsql
   refine cv hint ?_
   intro b6
   refine sN 3 rfl (by rw [qe]; rfl) (Zj _) ?_ (by kernel_rfl)
   refine ldN 2 rfl (qe _) ?_
   refine ldN 2 rfl (qe _) ?_
   refine cv ht1 ?_
   intro b7
   refine sN 4 rfl (by rw [qe]; rfl) (Zj _) ?_ (by kernel_rfl)
   refine cut (α := Nat) (fun _ => True) (fun b8 => ⟨[(2, pw b2), (4, .int .u8 q), (5, pw b5), (6, pw b6), (8, pw b8), (9, .bool ok)], [dead, cl b2 Try.zeroCells57 57, cl b5 (r22 A) 40, cl b6 (r22 1) 40, cl b8 (r22 R) 40], []⟩) ?_ ?_
   · refine drs [dead, dead, dead, cl b6 (r22 1) 40, cl b7 (r22 sq) 40] [] (.t 0 (.t 1 (.t 4 (.t 6 (.b 2 13 (.b 3 13 (.b 5 13 (.b 7 13 (.b 8 13 (.b 9 13 (.t 10 (.t 11 (.t 12 (.n 13 (.n 14 (.n 15 .nil)))))) (.n 9 (.t 10 (.t 11 (.t 12 (.n 14 (.n 15 .nil))))))) (.n 8 (.n 9 (.t 10 (.t 11 (.t 12 (.n 14 (.n 15 .nil)))))))) (.n 7 (.n 8 (.n 9 (.t 10 (.t 11 (.t 12 (.n 14 (.n 15 .nil))))))))) (.n 5 (.n 7 (.n 8 (.n 9 (.t 10 (.t 11 (.t 12 (.n 14 (.n 15 .nil)))))))))) (.n 3 (.n 5 (.n 7 (.n 8 (.n 9 (.t 10 (.t 11 (.t 12 (.n 14 (.n 15 .nil))))))))))) (.n 2 (.n 3 (.n 5 (.n 7 (.n 8 (.n 9 (.t 10 (.t 11 (.t 12 (.n 14 (.n 15 .nil)))))))))))))))) qi qq (by kernel_rfl) KQ ?_
     refine ldN 4 rfl (qe _) ?_
     refine ldN 3 rfl (qe _) ?_
     refine ldN 4 rfl (qe _) ?_
     refine ldN 3 rfl (qe _) ?_
     refine ⟨?_, ?_⟩
     · refine cv hm1 ?_
       refine ⟨KQ, ?_⟩
       refine ⟨?_, ?_⟩
       · refine cv hsl ?_
         refine ⟨KQ, ?_⟩
         refine ⟨?_, ?_⟩
         · refine cv ht2 ?_
           refine ⟨KQ, ?_⟩
           refine ⟨?_, ?_⟩
           · refine cv hp1 ?_
             refine ⟨KQ, ?_⟩
             refine ⟨?_, ?_⟩
             · refine cv ho1 ?_
               refine ⟨KQ, ?_⟩
               refine ⟨?_, ?_⟩
               · refine cv hrr ?_
                 refine ⟨KQ, ?_⟩
                 intro b8
                 refine ⟨KQ, ?_⟩
                 refine sN 5 rfl (by rw [qe]; rfl) (Zj _) ?_ (by kernel_rfl)
                 refine ⟨KQ, ?_⟩
                 refine ⟨KQ, ?_⟩
                 exact ⟨b8, trivial, ⟨rfl, rfl, rfl, rfl, rfl, rfl, trivial⟩, .dead (.cons (.cons (.cons (.drop (.cons .nil))))), rfl⟩
               · intro b8
                 refine ⟨KQ, ?_⟩
                 refine cv hrr ?_
                 refine ⟨KQ, ?_⟩
                 refine sN 5 rfl (by rw [qe]; rfl) (Zj _) ?_ (by kernel_rfl)
                 refine ⟨KQ, ?_⟩
                 refine ⟨KQ, ?_⟩
                 exact ⟨b8, trivial, ⟨rfl, rfl, rfl, rfl, rfl, rfl, trivial⟩, .dead (.cons (.cons (.cons (.drop (.cons .nil))))), rfl⟩
             · intro b8
               refine ⟨KQ, ?_⟩
               refine cv ho1 ?_
               refine ⟨KQ, ?_⟩
               refine cv hrr ?_
               refine ⟨KQ, ?_⟩
               refine sN 5 rfl (by rw [qe]; rfl) (Zj _) ?_ (by kernel_rfl)
               refine ⟨KQ, ?_⟩
               refine ⟨KQ, ?_⟩
               exact ⟨b8, trivial, ⟨rfl, rfl, rfl, rfl, rfl, rfl, trivial⟩, .dead (.cons (.cons (.cons (.drop (.cons .nil))))), rfl⟩
           · intro b8
             refine ⟨KQ, ?_⟩
             refine cv hp1 ?_
             refine ⟨KQ, ?_⟩
             refine cv ho1 ?_
             refine ⟨KQ, ?_⟩
             refine cv hrr ?_
             refine ⟨KQ, ?_⟩
             refine sN 5 rfl (by rw [qe]; rfl) (Zj _) ?_ (by kernel_rfl)
             refine ⟨KQ, ?_⟩
             refine ⟨KQ, ?_⟩
             exact ⟨b8, trivial, ⟨rfl, rfl, rfl, rfl, rfl, rfl, trivial⟩, .dead (.cons (.cons (.cons (.drop (.cons .nil))))), rfl⟩
         · intro b8
           refine ⟨KQ, ?_⟩
           refine cv ht2 ?_
           refine ⟨KQ, ?_⟩
           refine cv hp1 ?_
           refine ⟨KQ, ?_⟩
           refine cv ho1 ?_
           refine ⟨KQ, ?_⟩
           refine cv hrr ?_
           refine ⟨KQ, ?_⟩
           refine sN 5 rfl (by rw [qe]; rfl) (Zj _) ?_ (by kernel_rfl)
           refine ⟨KQ, ?_⟩
           refine ⟨KQ, ?_⟩
           exact ⟨b8, trivial, ⟨rfl, rfl, rfl, rfl, rfl, rfl, trivial⟩, .dead (.cons (.cons (.cons (.drop (.cons .nil))))), rfl⟩
       · intro b8
         refine ⟨KQ, ?_⟩
         refine cv hsl ?_
         refine ⟨KQ, ?_⟩
         refine cv ht2 ?_
         refine ⟨KQ, ?_⟩
         refine cv hp1 ?_
         refine ⟨KQ, ?_⟩
         refine cv ho1 ?_
         refine ⟨KQ, ?_⟩
         refine cv hrr ?_
         refine ⟨KQ, ?_⟩
         refine sN 5 rfl (by rw [qe]; rfl) (Zj _) ?_ (by kernel_rfl)
         refine ⟨KQ, ?_⟩
         refine ⟨KQ, ?_⟩
         exact ⟨b8, trivial, ⟨rfl, rfl, rfl, rfl, rfl, rfl, trivial⟩, .dead (.cons (.cons (.cons (.drop (.cons .nil))))), rfl⟩
     · intro b8
       refine ⟨KQ, ?_⟩
       refine cv hm1 ?_
       refine ⟨KQ, ?_⟩
       refine cv hsl ?_
       refine ⟨KQ, ?_⟩
       refine cv ht2 ?_
       refine ⟨KQ, ?_⟩
       refine cv hp1 ?_
       refine ⟨KQ, ?_⟩
       refine cv ho1 ?_
       refine ⟨KQ, ?_⟩
       refine cv hrr ?_
       refine ⟨KQ, ?_⟩
       refine sN 5 rfl (by rw [qe]; rfl) (Zj _) ?_ (by kernel_rfl)
       refine ⟨KQ, ?_⟩
       refine ⟨KQ, ?_⟩
       exact ⟨b8, trivial, ⟨rfl, rfl, rfl, rfl, rfl, rfl, trivial⟩, .dead (.cons (.cons (.cons (.drop (.cons .nil))))), rfl⟩
   · intro b8 _
     cases ok with
     | false =>
      obtain ⟨rfl, rfl⟩ := h1 (.inl rfl)
      iterate 4 refine cf rfl ?_
      iterate 2 refine ct rfl ?_
      refine cv Zx ?_
      refine sN 1 rfl (by rw [qA]; rfl) (by rw [Array.all_toList]; exact QF _ _ _ _) ?_ (by kernel_rfl)
      refine ldN 1 rfl (qA _ _ _ _) ?_
      exact rt rfl
     | true =>
      rcases hq2 with rfl | rfl
      · obtain ⟨rfl, rfl⟩ := h2 rfl rfl
        iterate 3 refine ct rfl ?_
        iterate 3 refine cf rfl ?_
        refine ct rfl ?_
        iterate 3 refine cf rfl ?_
        refine cf rfl ?_
        have ht := fun w => qO R A hRl hlt w
        refine drs [dead, dead, cl b5 (r22 A) 40, cl b6 (r22 1) 40, cl b8 (r22 R) 40] [] (.t 0 (.t 1 (.t 2 (.t 3 (.t 4 (.n 5 (.t 6 (.n 7 (.n 8 .nil))))))))) qi qq (by kernel_rfl) (.dead (.dead (.cons (.cons (.cons .nil))))) ?_
        refine ldN 4 rfl (qe _) ?_
        refine ldN 2 rfl (qe _) ?_
        refine ldN 3 rfl (qe _) ?_
        refine ldN 4 rfl (qe _) ?_
        refine ldN 2 rfl (qe _) ?_
        refine cv ht ?_
        refine ⟨.dead (.dead (.cons (.cons (.cons .nil)))), ?_⟩
        refine bu (c := rp R A 1 (R * A % PP)) (bd57 _ _ _ _) ?_
        refine sN 1 rfl (by rw [qA]; rfl) (by rw [Array.all_toList]; exact QF _ _ _ _) ?_ (by kernel_rfl)
        refine ⟨.dead (.dead (.cons (.cons (.cons .nil)))), ?_⟩
        refine ⟨.dead (.dead (.cons (.cons (.cons .nil)))), ?_⟩
        refine ldN 1 rfl (qA _ _ _ _) ?_
        exact rt rfl
      · iterate 4 refine ct rfl ?_
        refine ldN 4 rfl (qe _) ?_
        refine ct rfl ?_
        refine bu (c := r22 0) qdW ?_
        refine ct rfl ?_
        refine eqR rfl (by kernel_rfl) (r22_eq R 0 (zb _ hRl) (zb 0 qH)) ?_
        refine ct rfl ?_
        refine ct rfl ?_
        refine cf rfl ?_
        by_cases hz : R = 0
        · obtain ⟨rfl, rfl⟩ := h1 (.inr ⟨rfl, hz⟩)
          refine ct (decide_eq_true hz) ?_
          refine cv Zx ?_
          refine sN 1 rfl (by rw [qA]; rfl) (by rw [Array.all_toList]; exact QF _ _ _ _) ?_ (by kernel_rfl)
          refine ldN 1 rfl (qA _ _ _ _) ?_
          exact rt rfl
        · obtain ⟨rfl, rfl⟩ := h3 rfl rfl hz
          have hmn := fun w => Zh 0 R qH hRl w
          have hx2 : (0 + (PP - R)) % PP < PP := Nat.mod_lt _ qH
          generalize (0 + (PP - R)) % PP = x2 at hmn hx2 ⊢
          refine cf (decide_eq_false hz) ?_
          refine ct rfl ?_
          refine bu (c := r22 0) qdW ?_
          refine ldN 4 rfl (qe _) ?_
          refine cv hmn ?_
          refine sN 4 rfl (by rw [qe, qe]) (Zj _) ?_ (by kernel_rfl)
          have ht := fun w => qO x2 A hx2 hlt w
          refine drs [dead, dead, cl b5 (r22 A) 40, cl b6 (r22 1) 40, cl b8 (r22 x2) 40] [] (.t 0 (.t 1 (.t 2 (.t 3 (.t 4 (.n 5 (.t 6 (.n 7 (.n 8 .nil))))))))) qi qq (by kernel_rfl) (.dead (.dead (.cons (.cons (.cons .nil))))) ?_
          refine ldN 4 rfl (qe _) ?_
          refine ldN 2 rfl (qe _) ?_
          refine ldN 3 rfl (qe _) ?_
          refine ldN 4 rfl (qe _) ?_
          refine ldN 2 rfl (qe _) ?_
          refine cv ht ?_
          refine ⟨.dead (.dead (.cons (.cons (.cons .nil)))), ?_⟩
          refine bu (c := rp x2 A 1 (x2 * A % PP)) (bd57 _ _ _ _) ?_
          refine sN 1 rfl (by rw [qA]; rfl) (by rw [Array.all_toList]; exact QF _ _ _ _) ?_ (by kernel_rfl)
          refine ⟨.dead (.dead (.cons (.cons (.cons .nil)))), ?_⟩
          refine ⟨.dead (.dead (.cons (.cons (.cons .nil)))), ?_⟩
          refine ldN 1 rfl (qA _ _ _ _) ?_
          exact rt rfl
 · obtain ⟨rfl, rfl⟩ := hno hAn
   refine ct (by simp [hAn]) ?_
   refine cv Zx ?_
   refine sN 1 rfl (by rw [qA]; rfl) (by rw [Array.all_toList]; exact QF _ _ _ _) ?_ (by kernel_rfl)
   refine ldN 1 rfl (qA _ _ _ _) ?_
   exact rt rfl
theorem rofp_any (n : Nat) (hn : n < 115792089237316195423570985008687907853269984665640564039457584007913129639936) (w : World) :
 Calls Try.prog 48 #[.agg (k32 n)] w fun e w' => e = .returned (.tuple #[.agg (rp (cof n).2.1 (cof n).2.2 1 ((cof n).2.1 * (cof n).2.2 % PP)), .bool (cof n).1]) ∧ Below w.heap.size w w' := by
 obtain ⟨c, hc, hcl, hcq, hcd⟩ := dg31_any n hn
 have hclr := qdK n c hcd ((c % 128 : Nat) : Int) rfl
 have hcell : (k32 n)[31]? = some (.int .u8 (c : Int)) := by unfold k32; rw [QJ _ _ _ _ (by decide), hc]
 have hset : (k32 n).setIfInBounds 31 (.int .u8 ((c : Int) % 128)) = k32 (n % 57896044618658097711785492504343953926634992332820282019728792003956564819968) := by
  rw [← hclr, show ((c % 128 : Nat) : Int) = (c : Int) % 128 by omega]
  unfold k32
  rw [qbp]
 have hro := fun w => qck (n % 57896044618658097711785492504343953926634992332820282019728792003956564819968) w
 rw [show (2 : Nat) ^ 255 = 57896044618658097711785492504343953926634992332820282019728792003956564819968 by decide +kernel, m255_m] at hro
 have hl0 := m255_lt n
 have hyes := qbI n
 have hno := cof_no n
 have hq2 : n / 57896044618658097711785492504343953926634992332820282019728792003956564819968 = 0 ∨ n / 57896044618658097711785492504343953926634992332820282019728792003956564819968 = 1 := by omega
 have hqz : ((c : Nat) : Int) / 128 = ((n / 57896044618658097711785492504343953926634992332820282019728792003956564819968 : Nat) : Int) := by omega
 generalize n / 57896044618658097711785492504343953926634992332820282019728792003956564819968 = q at *
 generalize n % 57896044618658097711785492504343953926634992332820282019728792003956564819968 = n0 at *
 have hA : n0 % PP < PP := Nat.mod_lt _ qH
 refine rofp_core n n0 c q (n0 % PP) ((cof n).2.1, (cof n).2.2) (cof n).1 w hcell hcl hqz hset hl0 hro (fun w => rkey_any _ (PP_256 _ hA) w) (PP_256 _ hA) (fun h => ?_) (fun h => ?_) hq2
 · rw [hno fun h' => h (Nat.mod_eq_of_lt h')]; exact ⟨rfl, rfl⟩
 · have hlt : n0 < PP := by rw [← h]; exact hA
   rw [hyes hlt]
   refine ⟨hlt, fun h1 => ?_, fun h1 h2 => ?_, fun h1 h2 h3 => ?_⟩
   · rcases h1 with h1 | ⟨h1, h2⟩
     · rw [bes_no1 _ _ _ h1]; exact ⟨rfl, rfl⟩
     · rw [h1, decide_eq_false (by decide), bes_no2 _ _ h2]; exact ⟨rfl, rfl⟩
   · rw [h2, decide_eq_true rfl, qaB _ _ h1]; exact ⟨rfl, rfl⟩
   · rw [h2, decide_eq_false (by decide), qcu _ _ h1 h3, Nat.zero_mod]; exact ⟨rfl, rfl⟩
end
section
open Go.RowKit Go.Lib
theorem rp_there {w : World} {b : Nat} {t : TypeId} {x y z s : Nat} (h : Has w b (rp x y z s) t) (o : Nat) (ho : o + 22 ≤ 88) : w.there b o 22 := fun j hj => by
 rw [h.cellAt, h.frozen]
 have : o + j < (rp x y z s).size := by rw [qA]; omega
 simp [this]
theorem rp_setx {w : World} {b : Nat} {t : TypeId} {x y z s : Nat} (h : Has w b (rp x y z s) t) (x2 : Nat) : Has (w.setCells b 0 (r22 x2).toList) b (rp x2 y z s) t := by
 have := Has.setCells (Qa x2) (rp x y z s) 0 h (by rw [qM, qA]; omega)
 rw [qM] at this
 have e : (List.take 0 (rp x y z s).toList ++ Qa x2 ++ List.drop (0 + 22) (rp x y z s).toList).toArray = rp x2 y z s := by
  unfold rp
  simp only [List.take_zero, List.nil_append, Nat.zero_add, List.append_assoc]
  rw [show (22 : Nat) = (Qa x).length from (qM x).symm, List.drop_left]
 rw [e] at this
 exact this
theorem rp_sett {w : World} {b : Nat} {t : TypeId} {x y z s : Nat} (h : Has w b (rp x y z s) t) (s2 : Nat) : Has (w.setCells b 66 (r22 s2).toList) b (rp x y z s2) t := by
 have := Has.setCells (Qa s2) (rp x y z s) 66 h (by rw [qM, qA]; omega)
 rw [qM] at this
 have e : (List.take 66 (rp x y z s).toList ++ Qa s2 ++ List.drop (66 + 22) (rp x y z s).toList).toArray = rp x y z s2 := by
  unfold rp
  have h66 : (66 : Nat) = (Qa x ++ Qa y ++ Qa z).length := by simp [qM]
  have h88 : List.drop (66 + 22) (Qa x ++ Qa y ++ Qa z ++ Qa s) = [] := by
   apply List.drop_eq_nil_of_le; simp [qM]
  rw [show ((Qa x ++ Qa y ++ Qa z ++ Qa s).toArray).toList = Qa x ++ Qa y ++ Qa z ++ Qa s from rfl, h88, h66, List.take_left, List.append_nil]
 rw [e] at this
 exact this
theorem turned_any (X Y Z T : Nat) (hX : X < PP) (hT : T < PP) (w : World) :
 Calls Try.prog 54 #[.agg (rp X Y Z T)] w fun e w' => e = .returned (.agg (rp (qbY X) Y Z (qbY T))) ∧ Below w.heap.size w w' := by
 have h1 := fun w => Zh 0 X qH hX w
 have h2 := fun w => Zh 0 T qH hT w
 obtain ⟨NX, hNX⟩ : ∃ n, n = qbY X := ⟨_, rfl⟩
 obtain ⟨NT, hNT⟩ : ∃ n, n = qbY T := ⟨_, rfl⟩
 rw [show (0 + (PP - X)) % PP = NX by rw [hNX]; unfold qbY; rw [Nat.zero_mod]] at h1
 rw [show (0 + (PP - T)) % PP = NT by rw [hNT]; unfold qbY; rw [Nat.zero_mod]] at h2
 rw [← hNX, ← hNT]
 clear hNX hNT hX hT
 have H1 := Lib.hid h1; clear h1
 have H2 := Lib.hid h2; clear h2
 go_enter Try.func54, Try.ntmps54
 repeat ((fail_if_success (with_reducible (show wpList _ _ _ _ _ _))); go_step)
 iterate 2 (refine wpList_step (fun K hK => ?_); go_simp; (try go_bits); refine hK _ _ ?_; clear hK K)
 refine wpList_nil ?_
 have M1 := Lib.hid ((Has.new w  (rp X Y Z T) 57).alloc (.cells Try.zeroCells57 57))
 have M2 := Lib.hid (HasN.new1 w (.cells (rp X Y Z T) 57) Try.zeroCells57 57 88 (by kernel_rfl))
 have HB := Lib.hid (Qx w (.cells (rp X Y Z T) 57) (.cells Try.zeroCells57 57))
 obtain ⟨yw1, hwyw1⟩ : ∃ ww, ww = ((w.alloc (.cells (rp X Y Z T) 57)).alloc (.cells Try.zeroCells57 57)) := ⟨_, rfl⟩
 rw [← hwyw1] at M1 M2 HB ⊢
 clear hwyw1
 repeat ((fail_if_success (with_reducible (show wpList _ _ _ _ _ _))); go_step)
 refine Qt (by rfl) 40 _ rfl _ (by rfl) (r22 0) (qdW) 3 rfl ?_
 (try simp only [Act.put, sI, sS, sZ])
 (refine wpList_step (fun K hK => ?_); go_simp; (try go_bits); refine hK _ _ ?_; clear hK K)
 refine qW (by rfl) 40 _ rfl (w.heap.size) 0 rfl (Qa X) (r22 X) rfl (rp_x M1.out) _ Try.underlying40 rfl (by rw [qM]; kernel_rfl) 5 rfl ?_
 (try simp only [Act.put, sI, sS, sZ])
 refine qm (by rfl) rfl rfl (by rfl) ent40 (by rfl) (H1.out _) 6 rfl ?_
 rintro e uw1 ⟨rfl, hb⟩
 replace M1 := Lib.hid (M1.out.call hb)
 replace M2 := Lib.hid (M2.out.call hb)
 replace HB := Lib.hid (qh HB.out hb)
 refine ⟨_, rfl, ?_⟩
 clear hb
 (try simp only [Act.put, sI, sS, sZ])
 (refine wpList_step (fun K hK => ?_); go_simp; (try go_bits); refine hK _ _ ?_; clear hK K)
 refine wpList_store_mid rfl 40 _ _ rfl (w.heap.size) 0 (r22 NX) rfl rfl (by rw [qe]; exact rp_there M1.out 0 (by omega)) (by rw [qe]; kernel_rfl) (qp _ _ _) ?_
 (try simp only [Act.put, sI, sS, sZ])
 replace M2 := Lib.hid (M2.out.setCells_other (w.heap.size) 0 (r22 NX).toList (by omega))
 replace HB := Lib.hid (qaC (w.heap.size) (by omega) (r22 NX).toList _ 0 HB.out)
 replace M1 := Lib.hid (rp_setx M1.out NX)
 obtain ⟨yw2, hwyw2⟩ : ∃ ww, ww = uw1.setCells (w.heap.size) 0 (r22 NX).toList := ⟨_, rfl⟩
 rw [← hwyw2] at M1 M2 HB ⊢
 clear hwyw2
 refine wpList_nil ?_
 repeat ((fail_if_success (with_reducible (show wpList _ _ _ _ _ _))); go_step)
 refine Qt (by rfl) 40 _ rfl _ (by rfl) (r22 0) (qdW) 8 rfl ?_
 (try simp only [Act.put, sI, sS, sZ])
 (refine wpList_step (fun K hK => ?_); go_simp; (try go_bits); refine hK _ _ ?_; clear hK K)
 refine qW (by rfl) 40 _ rfl (w.heap.size) 66 rfl (Qa T) (r22 T) rfl (rp_t M1.out) _ Try.underlying40 rfl (by rw [qM]; kernel_rfl) 10 rfl ?_
 (try simp only [Act.put, sI, sS, sZ])
 refine qm (by rfl) rfl rfl (by rfl) ent40 (by rfl) (H2.out _) 11 rfl ?_
 rintro e uw2 ⟨rfl, hb⟩
 replace M1 := Lib.hid (M1.out.call hb)
 replace M2 := Lib.hid (M2.out.call hb)
 replace HB := Lib.hid (qh HB.out hb)
 refine ⟨_, rfl, ?_⟩
 clear hb
 (try simp only [Act.put, sI, sS, sZ])
 (refine wpList_step (fun K hK => ?_); go_simp; (try go_bits); refine hK _ _ ?_; clear hK K)
 refine wpList_store_mid rfl 40 _ _ rfl (w.heap.size) 66 (r22 NT) rfl rfl (by rw [qe]; exact rp_there M1.out 66 (by omega)) (by rw [qe]; kernel_rfl) (qp _ _ _) ?_
 (try simp only [Act.put, sI, sS, sZ])
 replace M2 := Lib.hid (M2.out.setCells_other (w.heap.size) 66 (r22 NT).toList (by omega))
 replace HB := Lib.hid (qaC (w.heap.size) (by omega) (r22 NT).toList _ 66 HB.out)
 replace M1 := Lib.hid (rp_sett M1.out NT)
 obtain ⟨yw3, hwyw3⟩ : ∃ ww, ww = uw2.setCells (w.heap.size) 66 (r22 NT).toList := ⟨_, rfl⟩
 rw [← hwyw3] at M1 M2 HB ⊢
 clear hwyw3
 refine wpList_nil ?_
 repeat ((fail_if_success (with_reducible (show wpList _ _ _ _ _ _))); go_step)
 refine qv (by rfl) 57 _ rfl (w.heap.size) rfl 57 (rp NX Y Z NT) M1.out Try.underlying57 rfl (by rw [qA]; kernel_rfl) 13 rfl ?_
 (try simp only [Act.put, sI, sS, sZ])
 first | (obtain ⟨Zq, hZ, mZ⟩ := M2.out) | (obtain ⟨Zq, hZ, mZ⟩ := M2.out.toN (qA ..))
 refine ql (by rfl) 57 _ _ rfl rfl (w.heap.size + 1) (rp NX Y Z NT) rfl rfl 57 Zq mZ (by rw [qA]; kernel_rfl) (hZ.trans (qA ..).symm) (QF _ _ _ _) ?_
 intro yw4 hw2
 replace M1 := Lib.hid (M1.out.setRow_other (w.heap.size + 1) (rp NX Y Z NT) (by omega))
 replace M2 := Lib.hid (mZ.setRow (rp NX Y Z NT))
 replace HB := Lib.hid (below_setRow HB.out (w.heap.size + 1) (rp NX Y Z NT) (by omega))
 rw [← hw2] at M1 M2 HB; clear mZ hZ hw2
 refine wpList_nil ?_
 go_wp2_with fail
 exact bodyPost_ret (v := .agg (rp NX Y Z NT)) (results_cell_row (t := 57) (by rfl) _ _ (w.heap.size + 1) _ _ _ rfl M2.out Try.underlying57 rfl (by rw [qA]; kernel_rfl)) rfl ⟨rfl, HB.out⟩
end
section
open Go.RowKit Go.Lib
theorem gr_of (n : Nat) (hn : n < 115792089237316195423570985008687907853269984665640564039457584007913129639936) (w : World) :
 Calls Try.prog 48 #[.agg (k32 n)] w fun e w' => ∃ X Y Z T : Nat, Rq X Y Z T (qaj n) ∧ e = .returned (.tuple #[.agg (rp X Y Z T), .bool (cof n).1]) ∧ Below w.heap.size w w' := by
 refine (rofp_any n hn w).mono ?_
 rintro e w' ⟨h1, h2⟩
 obtain ⟨lx, ly⟩ := cof_lt n
 refine ⟨_, _, _, _, ⟨⟨cof_rep n, ?_⟩, lx, ly, by have := QB; omega, Nat.mod_lt _ qH⟩, h1, h2⟩
 rw [Qu, Qi, zn]
 show _ = fi (cof n).2.1 * fi (cof n).2.2 * 1
 grind
theorem gr_plus (X1 Y1 Z1 T1 X2 Y2 Z2 T2 : Nat) (p q : Fin PP × Fin PP) (hp : Rq X1 Y1 Z1 T1 p) (hq : Rq X2 Y2 Z2 T2 q) (w : World) :
 Calls Try.prog 52 #[.agg (rp X1 Y1 Z1 T1), .agg (rp X2 Y2 Z2 T2)] w (RqG (QH qP fd p q) w) := radd_rq X1 Y1 Z1 T1 X2 Y2 Z2 T2 p q hp hq w
theorem gr_turned (X Y Z T : Nat) (p : Fin PP × Fin PP) (h : Rq X Y Z T p) (w : World) :
 Calls Try.prog 54 #[.agg (rp X Y Z T)] w (RqG (ZD p) w) := by
 obtain ⟨⟨r, t⟩, x, y, z, lt⟩ := h
 refine (turned_any X Y Z T x lt w).mono ?_
 rintro e w' ⟨h1, h2⟩
 refine ⟨_, _, _, _, ⟨⟨neg_rep X Y Z p r x, ?_⟩, Nat.mod_lt _ qH, y, z, Nat.mod_lt _ qH⟩, h1, h2⟩
 have h := qbc T
 rw [Nat.mod_eq_of_lt lt] at h
 rw [Nat.zero_mod, Nat.zero_add, Qu, h, t]
 show -(p.1 * p.2 * fi Z) = -p.1 * p.2 * fi Z
 grind
end
section
open Go.RowKit Go.Lib
theorem bd24L2 : Try.prog.built 24 [(0, .int .u8 237), (1, .int .u8 211), (2, .int .u8 245), (3, .int .u8 92), (4, .int .u8 26), (5, .int .u8 99), (6, .int .u8 18), (7, .int .u8 88), (8, .int .u8 214), (9, .int .u8 156), (10, .int .u8 247), (11, .int .u8 162), (12, .int .u8 222), (13, .int .u8 249), (14, .int .u8 222), (15, .int .u8 20), (16, .int .u8 0), (17, .int .u8 0), (18, .int .u8 0), (19, .int .u8 0), (20, .int .u8 0), (21, .int .u8 0), (22, .int .u8 0), (23, .int .u8 0), (24, .int .u8 0), (25, .int .u8 0), (26, .int .u8 0), (27, .int .u8 0), (28, .int .u8 0), (29, .int .u8 0), (30, .int .u8 0), (31, .int .u8 16)] = some (k32 L0) := by kernel_rfl
theorem qcL (w : World) : Calls Try.prog 59 #[] w fun e w' => e = .returned (.agg (k32 L0)) ∧ Below w.heap.size w w' := by
 go_enter Try.func59, Try.ntmps59
 repeat ((fail_if_success (with_reducible (show wpList _ _ _ _ _ _))); go_step)
 (refine wpList_step (fun K hK => ?_); go_simp; (try go_bits); refine hK _ _ ?_; clear hK K)
 refine wpList_nil ?_
 have M0 := Lib.hid (HasN.new w  (#[.int .u8 0, .int .u8 0, .int .u8 0, .int .u8 0, .int .u8 0, .int .u8 0, .int .u8 0, .int .u8 0, .int .u8 0, .int .u8 0, .int .u8 0, .int .u8 0, .int .u8 0, .int .u8 0, .int .u8 0, .int .u8 0, .int .u8 0, .int .u8 0, .int .u8 0, .int .u8 0, .int .u8 0, .int .u8 0, .int .u8 0, .int .u8 0, .int .u8 0, .int .u8 0, .int .u8 0, .int .u8 0, .int .u8 0, .int .u8 0, .int .u8 0, .int .u8 0] : Array Value) 24 32 (by kernel_rfl))
 have HB := Lib.hid (Qc w (.cells (#[.int .u8 0, .int .u8 0, .int .u8 0, .int .u8 0, .int .u8 0, .int .u8 0, .int .u8 0, .int .u8 0, .int .u8 0, .int .u8 0, .int .u8 0, .int .u8 0, .int .u8 0, .int .u8 0, .int .u8 0, .int .u8 0, .int .u8 0, .int .u8 0, .int .u8 0, .int .u8 0, .int .u8 0, .int .u8 0, .int .u8 0, .int .u8 0, .int .u8 0, .int .u8 0, .int .u8 0, .int .u8 0, .int .u8 0, .int .u8 0, .int .u8 0, .int .u8 0] : Array Value) 24))
 obtain ⟨yw1, hwyw1⟩ : ∃ ww, ww = (w.alloc (.cells (#[.int .u8 0, .int .u8 0, .int .u8 0, .int .u8 0, .int .u8 0, .int .u8 0, .int .u8 0, .int .u8 0, .int .u8 0, .int .u8 0, .int .u8 0, .int .u8 0, .int .u8 0, .int .u8 0, .int .u8 0, .int .u8 0, .int .u8 0, .int .u8 0, .int .u8 0, .int .u8 0, .int .u8 0, .int .u8 0, .int .u8 0, .int .u8 0, .int .u8 0, .int .u8 0, .int .u8 0, .int .u8 0, .int .u8 0, .int .u8 0, .int .u8 0, .int .u8 0] : Array Value) 24)) := ⟨_, rfl⟩
 rw [← hwyw1] at M0 HB ⊢
 clear hwyw1
 repeat ((fail_if_success (with_reducible (show wpList _ _ _ _ _ _))); go_step)
 refine Qt (by rfl) 24 _ rfl _ (by rfl) (k32 L0) (bd24L2) 1 rfl ?_
 (try simp only [Act.put, sI, sS, sZ])
 first | (obtain ⟨Zq, hZ, mZ⟩ := M0.out) | (obtain ⟨Zq, hZ, mZ⟩ := M0.out.toN (qf ..))
 refine ql (by rfl) 24 _ _ rfl rfl (w.heap.size) (k32 L0) rfl rfl 24 Zq mZ (by rw [qf]; kernel_rfl) (hZ.trans (qf ..).symm) (qp _ _ _) ?_
 intro yw2 hw2
 replace M0 := Lib.hid (mZ.setRow (k32 L0))
 replace HB := Lib.hid (below_setRow HB.out (w.heap.size) (k32 L0) (by omega))
 rw [← hw2] at M0 HB; clear mZ hZ hw2
 refine wpList_nil ?_
 go_wp2_with fail
 exact bodyPost_ret (v := .agg (k32 L0)) (results_cell_row (t := 24) (by rfl) _ _ (w.heap.size) _ _ _ rfl M0.out Try.underlying24 rfl (by rw [qf]; kernel_rfl)) rfl ⟨rfl, HB.out⟩
def Ints (w : World) (b len : Nat) (g : Nat → Int) : Prop := b < w.heap.size ∧ ∀ j, j < len → w.cell? ⟨b, j, none⟩ = some (.int .i64 (g j))
section ints
variable {w w' : World} {b len : Nat} {g : Nat → Int}
end ints
def i34 (n : Nat) : Array Value := row .i64 34 (dg 256 n)
def z131 : Array Value := (#[.int .i64 0, .int .i64 0, .int .i64 0, .int .i64 0, .int .i64 0, .int .i64 0, .int .i64 0, .int .i64 0, .int .i64 0, .int .i64 0, .int .i64 0, .int .i64 0, .int .i64 0, .int .i64 0, .int .i64 0, .int .i64 0, .int .i64 0, .int .i64 0, .int .i64 0, .int .i64 0, .int .i64 0, .int .i64 0, .int .i64 0, .int .i64 0, .int .i64 0, .int .i64 0, .int .i64 0, .int .i64 0, .int .i64 0, .int .i64 0, .int .i64 0, .int .i64 0, .int .i64 0, .int .i64 0] : Array Value)
theorem z131i : z131 = i34 0 := by kernel_rfl
def upf (v k : Nat) : Nat → Int := fun j => if k < j then dg 256 v (j - 1) else dg 256 v j
theorem upf_33 (v : Nat) : row .i64 34 (upf v 33) = i34 v := Qb _ _ _ _ fun j hj => by unfold upf; rw [if_neg (by omega)]
theorem upf_upd (v k : Nat) (x : Int) (h : x = dg 256 v k) : upd (upf v (k + 1)) (k + 1) x = upf v k := by
 funext j
 unfold upd upf
 by_cases e : j = k + 1
 · rw [if_pos e, if_pos (by omega), h, e]; rfl
 · rw [if_neg e]
   by_cases e2 : k + 1 < j
   · rw [if_pos e2, if_pos (by omega)]
   · rw [if_neg e2, if_neg (by omega)]
theorem upf_at (v k : Nat) : upf v (k + 1) k = dg 256 v k := by unfold upf; rw [if_neg (by omega)]
theorem upf_0 (v c : Nat) (hc : c < 256) : row .i64 34 (upd (upf v 0) 0 (c : Int)) = i34 (256 * v + c) := by
 refine Qb _ _ _ _ fun j hj => ?_
 unfold upd upf
 by_cases e : j = 0
 · subst e; rw [if_pos rfl]; unfold dg; rw [Nat.pow_zero, Nat.div_one]; omega
 · rw [if_neg e, if_pos (by omega)]
   obtain ⟨i, rfl⟩ : ∃ i, j = i + 1 := ⟨j - 1, by omega⟩
   unfold dg
   rw [Nat.add_sub_cancel, Nat.pow_succ, Nat.mul_comm (256 ^ i) 256, ← Nat.div_div_eq_div_mul, show (256 * v + c) / 256 = v by omega]
def qbB (m n k : Nat) : Nat → Int := fun j => if j < k then dg 256 m j else dg 256 n j
theorem mixi_at (m n k : Nat) : qbB m n k k = dg 256 n k := by unfold qbB; rw [if_neg (by omega)]
theorem qbA (m n k : Nat) (x : Int) (h : x = dg 256 m k) : upd (qbB m n k) k x = qbB m n (k + 1) := by
 funext j
 unfold upd qbB
 by_cases e : j = k
 · rw [if_pos e, if_pos (by omega), h, e]
 · rw [if_neg e]
   by_cases e2 : j < k
   · rw [if_pos e2, if_pos (by omega)]
   · rw [if_neg e2, if_neg (by omega)]
theorem mixi_0 (m n : Nat) : row .i64 34 (qbB m n 0) = i34 n := Qb _ _ _ _ (fun j hj => by unfold qbB; rw [if_neg (by omega)])
theorem mixi_34 (m n : Nat) : row .i64 34 (qbB m n 34) = i34 m := Qb _ _ _ _ (fun j hj => by unfold qbB; rw [if_pos hj])
theorem sub8 (d n l k c x y : Nat) (h : n / 256 ^ k = d / 256 ^ k + l / 256 ^ k + c) (hc : c < 2) (hx : n / 256 ^ k % 256 = x) (hy : l / 256 ^ k % 256 = y) :
 (x < y + c → d / 256 ^ k % 256 = x + 256 - y - c ∧ n / 256 ^ (k + 1) = d / 256 ^ (k + 1) + l / 256 ^ (k + 1) + 1) ∧ (y + c ≤ x → d / 256 ^ k % 256 = x - y - c ∧ n / 256 ^ (k + 1) = d / 256 ^ (k + 1) + l / 256 ^ (k + 1) + 0) := by
 rw [Nat.pow_succ, ← Nat.div_div_eq_div_mul, ← Nat.div_div_eq_div_mul, ← Nat.div_div_eq_div_mul]
 generalize n / 256 ^ k = N at *
 generalize d / 256 ^ k = D at *
 generalize l / 256 ^ k = L at *
 omega
theorem top_lt (n l k : Nat) (h : ∀ j, k < j → j < 34 → dg 256 n j = dg 256 l j) (hk : k < 34) (hn : n < 256 ^ 34) (hl : l < 256 ^ 34) (hne : dg 256 n k ≠ dg 256 l k) : decide (dg 256 n k < dg 256 l k) = decide (n < l) := by
 have key : ∀ i, i ≤ 33 - k → n / 256 ^ (34 - i) = l / 256 ^ (34 - i) := by
  intro i
  induction i with
  | zero => intro _; rw [Nat.sub_zero, Nat.div_eq_of_lt hn, Nat.div_eq_of_lt hl]
  | succ i ih =>
   intro hi
   have h1 := ih (by omega)
   have h2 := h (34 - (i + 1)) (by omega) (by omega)
   unfold dg at h2
   rw [show 34 - i = 34 - (i + 1) + 1 by omega, Nat.pow_succ, ← Nat.div_div_eq_div_mul, ← Nat.div_div_eq_div_mul] at h1
   omega
 have h1 := key (33 - k) (Nat.le_refl _)
 rw [show 34 - (33 - k) = k + 1 by omega, Nat.pow_succ, ← Nat.div_div_eq_div_mul, ← Nat.div_div_eq_div_mul] at h1
 unfold dg at hne ⊢
 generalize hp : 256 ^ k = p at *
 by_cases h0 : n < l
 · have h3 : n / p ≤ l / p := Nat.div_le_div_right (by omega)
   rw [decide_eq_true h0, decide_eq_true (by omega)]
 · have h3 : l / p ≤ n / p := Nat.div_le_div_right (by omega)
   rw [decide_eq_false h0, decide_eq_false (by omega)]
theorem top_eq (n l : Nat) (h : ∀ j, j < 34 → dg 256 n j = dg 256 l j) (hn : n < 256 ^ 34) (hl : l < 256 ^ 34) : n = l := by
 have key : ∀ i, i ≤ 34 → n / 256 ^ (34 - i) = l / 256 ^ (34 - i) := by
  intro i
  induction i with
  | zero => intro _; rw [Nat.sub_zero, Nat.div_eq_of_lt hn, Nat.div_eq_of_lt hl]
  | succ i ih =>
   intro hi
   have h1 := ih (by omega)
   have h2 := h (34 - (i + 1)) (by omega)
   unfold dg at h2
   rw [show 34 - i = 34 - (i + 1) + 1 by omega, Nat.pow_succ, ← Nat.div_div_eq_div_mul, ← Nat.div_div_eq_div_mul] at h1
   omega
 have := key 34 (Nat.le_refl _)
 rwa [Nat.sub_self, Nat.pow_zero, Nat.div_one, Nat.div_one] at this
theorem L0_val : L0 = 7237005577332262213973186563042994240857116359379907606001950938285454250989 := rfl
theorem p256_34 : (256 : Nat) ^ 34 = 7588550360256754183279148073529370729071901715047420004889892225542594864082845696 := by decide +kernel
theorem dg8 (n j : Nat) : 0 ≤ dg 256 n j ∧ dg 256 n j < 256 := by unfold dg; omega
theorem L0_top (j : Nat) (h : 32 ≤ j) : dg 256 L0 j = 0 := by
 unfold dg
 rw [Nat.div_eq_of_lt (Nat.lt_of_lt_of_le (show L0 < 256 ^ 32 by decide +kernel) (Nat.pow_le_pow_right (by decide) h))]; rfl
end
section
open Go.RowKit Go.Sx
def IntsA (w : World) (a : Option Addr) (len : Nat) (g : Nat → Int) : Prop := len = 0 ∨ ∃ b, a = some ⟨b, 0, none⟩ ∧ Ints w b len g
theorem down_step (N m : Nat) : N / 256 ^ (m + 1) * 256 + N / 256 ^ m % 256 = N / 256 ^ m := by
 rw [Nat.pow_succ, ← Nat.div_div_eq_div_mul]; omega
abbrev ptq (b : Nat) : Value := .pointer (some ⟨b, 0, none⟩)
theorem k32_os (n : Nat) : (k32 n).toList.all (·.oneCell') = true := by unfold k32 row; exact List.all_eq_true.2 fun v hv => Ze _ _ _ v hv
theorem adq (i : Nat) : nad 0 (nmu (Int.toNat (i : Int)) 1) = i := by rw [qK, qI, Nat.zero_add, Nat.mul_one, Int.toNat_natCast]
theorem rgq (kd : IntKind) (n : Nat) (f : Nat → Int) (i : Nat) (h : i < n) : (row kd n f)[nad 0 (nmu (Int.toNat (i : Int)) 1)]? = some (.int kd (f i)) := by rw [adq]; exact QJ _ _ _ _ h
theorem rzq (kd : IntKind) (n : Nat) (f : Nat → Int) (i : Nat) (h : i < n) : nad 0 (nmu (Int.toNat (i : Int)) 1) < (row kd n f).size := by rw [adq, QG]; exact h
theorem rsq (kd : IntKind) (n : Nat) (f g : Nat → Int) (i : Nat) (x : Int) (h : upd f i x = g) : (row kd n f).setIfInBounds (nad 0 (nmu (Int.toNat (i : Int)) 1)) (.int kd x) = row kd n g := by rw [adq, qbp, h]
abbrev qdm : Array Value := #[.int .u8 0, .int .u8 0, .int .u8 0, .int .u8 0, .int .u8 0, .int .u8 0, .int .u8 0, .int .u8 0, .int .u8 0, .int .u8 0, .int .u8 0, .int .u8 0, .int .u8 0, .int .u8 0, .int .u8 0, .int .u8 0, .int .u8 0, .int .u8 0, .int .u8 0, .int .u8 0, .int .u8 0, .int .u8 0, .int .u8 0, .int .u8 0, .int .u8 0, .int .u8 0, .int .u8 0, .int .u8 0, .int .u8 0, .int .u8 0, .int .u8 0, .int .u8 0]
theorem rest_any (a : Option Addr) (len cap N : Nat) (hlen : len ≤ 1000) (hN : N < 256 ^ len) (w : World) (hI : IntsA w a len (dg 256 N)) :
 Calls Try.prog 71 #[.slice a len cap] w fun e w' => e = .returned (.agg (k32 (N % L0))) ∧ Below w.heap.size w w' := by
 refine q9 qi Try.func71 rfl Try.ntmps71 rfl (St.start w) (vs := [.slice a len cap]) ?_
 intro b2
 refine cv qcL ?_
 intro b3
 refine sN 1 rfl (by rw [qf]; rfl) (k32_os _) ?_ (by kernel_rfl)
 intro b4
 refine .as ((len : Int) - 1) (by omega) (by simp only [mn]; omega) (by simp only [mx]; omega) ?_
 have h0 : i34 0 = i34 (N / 256 ^ len % L0) := by rw [Nat.div_eq_of_lt hN, Nat.zero_mod]
 refine lp qi (fun m : Nat => m ≤ len) (fun m => ⟨[(0, .slice a len cap), (2, ptq b2), (3, ptq b3), (4, ptq b4), (5, .int .i64 ((m : Int) - 1))], [cl b2 qdm 24, cl b3 (k32 L0) 24, cl b4 (i34 (N / 256 ^ m % L0)) 131], []⟩) (fun m => m) len (Nat.le_refl _) (by rw [← h0, ← z131i]; exact ⟨⟨rfl, rfl, rfl, rfl, rfl, trivial⟩, .cons (.cons (.cons .nil)), rfl⟩) ?_
 intro m hm
 refine cd (fun h => ?_) (fun h => ?_)
 · obtain ⟨i, rfl⟩ : ∃ i, m = i + 1 := ⟨m - 1, by omega⟩
   rcases hI with h1 | ⟨b, rfl, hIb⟩
   · omega
   have hcell := hIb.2 i (by omega)
   have hbl := hIb.1
   have hds := down_step N i
   obtain ⟨c, hc⟩ : ∃ c, N / 256 ^ i % 256 = c := ⟨_, rfl⟩
   have lc : c < 256 := by rw [← hc]; exact Nat.mod_lt _ (by decide)
   rw [Qp, hc] at hcell
   rw [hc] at hds
   have hTv : N / 256 ^ (i + 1) % L0 < L0 := Nat.mod_lt _ (by decide)
   have hcong : (256 * (N / 256 ^ (i + 1) % L0) + c) % L0 = N / 256 ^ i % L0 := by
    rw [← hds, Nat.add_mod, Nat.mul_mod, Nat.mod_mod, ← Nat.mul_mod, ← Nat.add_mod, Nat.mul_comm]
   generalize N / 256 ^ (i + 1) % L0 = V at hTv hcong ⊢
   generalize hR : N / 256 ^ i % L0 = R at hcong
   rw [show ((i + 1 : Nat) : Int) - 1 = (i : Int) by omega]
   refine lp qi (fun s : Nat => s ≤ 33) (fun s => ⟨[(0, .slice (some ⟨b, 0, none⟩) len cap), (2, ptq b2), (3, ptq b3), (4, ptq b4), (5, .int .i64 (i : Int)), (6, .int .i64 (s : Int))], [cl b2 qdm 24, cl b3 (k32 L0) 24, cl b4 (row .i64 34 (upf V s)) 131], []⟩) (fun s => s) 33 (Nat.le_refl _) (by rw [upf_33]; exact ⟨⟨rfl, rfl, rfl, rfl, rfl, rfl, trivial⟩, .cons (.cons (.cons .nil)), rfl⟩) ?_
   intro s hs
   refine cd (fun h => ?_) (fun h => ?_)
   · obtain ⟨t, rfl⟩ : ∃ t, s = t + 1 := ⟨s - 1, by omega⟩
     refine .as ((t : Int)) (by omega) (by simp only [mn]; omega) (by simp only [mx]; omega) ?_
     refine ⟨by omega, by omega, ?_⟩
     refine ld1 2 rfl (rgq .i64 34 _ t (by omega)) ?_
     refine ⟨by omega, by omega, ?_⟩
     refine s1e 2 _ rfl (rzq _ _ _ _ (by omega)) (rsq .i64 34 _ (upf V t) (t + 1) _ (upf_upd V t _ (upf_at V t))) ?_
     refine .as ((t : Int)) (by omega) (by simp only [mn]; omega) (by simp only [mx]; omega) ?_
     exact ⟨t, by omega, by omega, ⟨⟨rfl, rfl, rfl, rfl, rfl, rfl, trivial⟩, .cons (.cons (.cons .nil)), rfl⟩⟩
   · obtain rfl : s = 0 := by omega
     refine ⟨by omega, by omega, ?_⟩
     refine ldo (by rw [adq]; exact hcell) hbl ?_
     refine ⟨by decide, by decide, ?_⟩
     refine s1e 2 (i34 (256 * V + c)) rfl (by show 0 < (row .i64 34 (upf V 0)).size; rw [QG]; decide) (by show (row .i64 34 (upf V 0)).setIfInBounds 0 (.int .i64 (c : Int)) = _; rw [qbp]; exact upf_0 V c lc) ?_
     refine lpe qi 4 (β := Unit) (fun _ => True) (fun _ => ⟨[(0, .slice (some ⟨b, 0, none⟩) len cap), (2, ptq b2), (3, ptq b3), (4, ptq b4), (5, .int .i64 (i : Int))], [cl b2 qdm 24, cl b3 (k32 L0) 24, cl b4 (i34 R) 131], []⟩) (α := Nat) (fun X => X % L0 = R ∧ X < 256 * L0) (fun X => ⟨[(0, .slice (some ⟨b, 0, none⟩) len cap), (2, ptq b2), (3, ptq b3), (4, ptq b4), (5, .int .i64 (i : Int))], [cl b2 qdm 24, cl b3 (k32 L0) 24, cl b4 (i34 X) 131], []⟩) (fun X => X / L0) (256 * V + c) ⟨hcong, by omega⟩ ⟨⟨rfl, rfl, rfl, rfl, rfl, trivial⟩, .cons (.cons (.cons .nil)), rfl⟩ ?_ ?_
     · rintro X ⟨hX1, hX2⟩
       have hXb : X < 256 ^ 34 := by rw [p256_34]; rw [L0_val] at hX2; omega
       have hLb : L0 < 256 ^ 34 := by rw [p256_34, L0_val]; omega
       refine lpe qi 6 (β := Unit) (fun _ => True) (fun _ => ⟨[(0, .slice (some ⟨b, 0, none⟩) len cap), (2, ptq b2), (3, ptq b3), (4, ptq b4), (5, .int .i64 (i : Int)), (7, .bool (decide (X < L0)))], [cl b2 qdm 24, cl b3 (k32 L0) 24, cl b4 (i34 X) 131], []⟩) (α := Nat) (fun s => s ≤ 34 ∧ ∀ j, s ≤ j → j < 34 → dg 256 X j = dg 256 L0 j) (fun s => ⟨[(0, .slice (some ⟨b, 0, none⟩) len cap), (2, ptq b2), (3, ptq b3), (4, ptq b4), (5, .int .i64 (i : Int)), (7, .bool false), (8, .int .i64 ((s : Int) - 1))], [cl b2 qdm 24, cl b3 (k32 L0) 24, cl b4 (i34 X) 131], []⟩) (fun s => s) 34 ⟨Nat.le_refl _, fun j h1 h2 => by omega⟩ ⟨⟨rfl, rfl, rfl, rfl, rfl, rfl, rfl, trivial⟩, .cons (.cons (.cons .nil)), rfl⟩ ?_ ?_
       · rintro s ⟨hs, hsm⟩
         refine cd (fun h => ?_) (fun h => ?_)
         · obtain ⟨j, rfl⟩ : ∃ j, s = j + 1 := ⟨s - 1, by omega⟩
           rw [show ((j + 1 : Nat) : Int) - 1 = (j : Int) by omega]
           have fin : ∀ y : Int, dg 256 L0 j = y → dg 256 X j ≠ y → decide (dg 256 X j < y) = decide (X < L0) := fun y hy hne => by
            rw [← hy] at hne ⊢; exact top_lt X L0 j (fun q h1 h2 => hsm q (by omega) h2) (by omega) hXb hLb hne
           have go : ∀ y : Int, dg 256 L0 j = y → dg 256 X j = y → ∀ q, j ≤ q → q < 34 → dg 256 X q = dg 256 L0 q := fun y hy he q h1 h2 => by
            by_cases e : q = j
            · rw [e, he, hy]
            · exact hsm q (by omega) h2
           have dl := dg8 L0 j
           refine cd (fun h32 => ?_) (fun h32 => ?_)
           · refine ⟨by omega, by omega, ?_⟩
             refine ld1 1 rfl (rgq .u8 32 (dg 256 L0) j (by omega)) ?_
             refine .same (by simp only [mn]; omega) (by simp only [mx]; omega) ?_
             refine ⟨by omega, by omega, ?_⟩
             refine ld1 2 rfl (rgq .i64 34 (dg 256 X) j (by omega)) ?_
             refine cne (fun hne => ?_) (fun he => ?_)
             · refine ⟨by omega, by omega, ?_⟩
               refine ld1 2 rfl (rgq .i64 34 (dg 256 X) j (by omega)) ?_
               exact ⟨(), trivial, ⟨rfl, rfl, rfl, rfl, rfl, congrArg (fun b => some (Value.bool b)) (fin _ rfl hne), trivial⟩, .cons (.cons (.cons .nil)), rfl⟩
             · refine .as ((j : Int) - 1) (by omega) (by simp only [mn]; omega) (by simp only [mx]; omega) ?_
               exact ⟨j, ⟨by omega, go _ rfl he⟩, by omega, ⟨⟨rfl, rfl, rfl, rfl, rfl, rfl, rfl, trivial⟩, .cons (.cons (.cons .nil)), rfl⟩⟩
           · have hy0 := L0_top j (by omega)
             refine ⟨by omega, by omega, ?_⟩
             refine ld1 2 rfl (rgq .i64 34 (dg 256 X) j (by omega)) ?_
             refine cne (fun hne => ?_) (fun he => ?_)
             · refine ⟨by omega, by omega, ?_⟩
               refine ld1 2 rfl (rgq .i64 34 (dg 256 X) j (by omega)) ?_
               exact ⟨(), trivial, ⟨rfl, rfl, rfl, rfl, rfl, congrArg (fun b => some (Value.bool b)) (fin _ hy0 hne), trivial⟩, .cons (.cons (.cons .nil)), rfl⟩
             · refine .as ((j : Int) - 1) (by omega) (by simp only [mn]; omega) (by simp only [mx]; omega) ?_
               exact ⟨j, ⟨by omega, go _ hy0 he⟩, by omega, ⟨⟨rfl, rfl, rfl, rfl, rfl, rfl, rfl, trivial⟩, .cons (.cons (.cons .nil)), rfl⟩⟩
         · obtain rfl : s = 0 := by omega
           have hfin : false = decide (X < L0) := by rw [top_eq X L0 (fun j hj => hsm j (Nat.zero_le _) hj) hXb hLb]; exact (decide_eq_false (Nat.lt_irrefl _)).symm
           exact ⟨(), trivial, ⟨rfl, rfl, rfl, rfl, rfl, congrArg (fun b => some (Value.bool b)) hfin, trivial⟩, .cons (.cons (.cons .nil)), rfl⟩
       · intro _ _
         refine cd (fun hl => ?_) (fun hl => ?_)
         · have hXR : X = R := by rw [← hX1]; exact (Nat.mod_eq_of_lt hl).symm
           subst hXR
           exact ⟨(), trivial, ⟨⟨rfl, rfl, rfl, rfl, rfl, trivial⟩, .cons (.cons (.cons .nil)), rfl⟩⟩
         · obtain ⟨Y, hY⟩ : ∃ Y, X = Y + L0 := ⟨X - L0, by omega⟩
           have hY1 : Y % L0 = R := by rw [← hX1, hY, Nat.add_mod_right]
           have hY2 : Y < 256 * L0 := by omega
           have hY3 : Y / L0 < X / L0 := by rw [hY, Nat.add_div_right _ (by decide)]; omega
           have H0 : X / 256 ^ 0 = Y / 256 ^ 0 + L0 / 256 ^ 0 + 0 := by rw [Nat.pow_zero, Nat.div_one, Nat.div_one, Nat.div_one]; omega
           refine lp qi (fun x : Nat × Nat => x.1 ≤ 34 ∧ x.2 < 2 ∧ X / 256 ^ x.1 = Y / 256 ^ x.1 + L0 / 256 ^ x.1 + x.2) (fun x => ⟨[(0, .slice (some ⟨b, 0, none⟩) len cap), (2, ptq b2), (3, ptq b3), (4, ptq b4), (5, .int .i64 (i : Int)), (10, .int .i64 (x.2 : Int)), (11, .int .i64 (x.1 : Int))], [cl b2 qdm 24, cl b3 (k32 L0) 24, cl b4 (row .i64 34 (qbB Y X x.1)) 131], []⟩) (fun x => 34 - x.1) (0, 0) ⟨Nat.zero_le _, by decide, H0⟩ (by rw [mixi_0]; exact ⟨⟨rfl, rfl, rfl, rfl, rfl, rfl, rfl, trivial⟩, .cons (.cons (.cons .nil)), rfl⟩) ?_
           rintro ⟨k, cc⟩ ⟨hk, hcc, h0⟩
           dsimp only at hk hcc h0 ⊢
           refine cd (fun h => ?_) (fun h => ?_)
           · have hlt : k < 34 := by omega
             obtain ⟨x, hx⟩ : ∃ x, X / 256 ^ k % 256 = x := ⟨_, rfl⟩
             obtain ⟨y, hy⟩ : ∃ y, L0 / 256 ^ k % 256 = y := ⟨_, rfl⟩
             have lx : x < 256 := by rw [← hx]; exact Nat.mod_lt _ (by decide)
             have ly : y < 256 := by rw [← hy]; exact Nat.mod_lt _ (by decide)
             have lz : Y / 256 ^ k % 256 < 256 := Nat.mod_lt _ (by decide)
             refine ⟨by omega, by omega, ?_⟩
             refine ld1 2 rfl (v := .int .i64 (x : Int)) (by rw [rgq _ _ _ _ hlt, mixi_at, Qp, hx]) ?_
             refine .same (by simp only [mn]; omega) (by simp only [mx]; omega) ?_
             refine cd (fun h32 => ?_) (fun h32 => ?_)
             · refine ⟨by omega, by omega, ?_⟩
               refine ld1 1 rfl (v := .int .u8 (y : Int)) (by unfold k32; rw [rgq _ _ _ _ (by omega), Qp, hy]) ?_
               refine .same (by simp only [mn]; omega) (by simp only [mx]; omega) ?_
               refine .same (by simp only [mn]; omega) (by simp only [mx]; omega) ?_
               by_cases hng : x < y + cc
               · skip
                 obtain ⟨s1, s2⟩ := (sub8 Y X L0 k cc x y h0 hcc hx hy).1 (by omega)
                 refine cd (fun hn => ?_) (fun hn => absurd (by omega) hn)
                 refine .as ((Y / 256 ^ k % 256 : Nat) : Int) (by omega) (by simp only [mn]; omega) (by simp only [mx]; omega) ?_
                 refine ⟨by omega, by omega, ?_⟩
                 refine s1e 2 _ rfl (rzq _ _ _ _ hlt) (rsq .i64 34 _ (qbB Y X (k + 1)) k _ (qbA Y X k _ rfl)) ?_
                 refine .as (((k + 1 : Nat) : Int)) (by omega) (by simp only [mn]; omega) (by simp only [mx]; omega) ?_
                 exact ⟨(k + 1, 1), ⟨by omega, by show (_ : Nat) < 2; omega, s2⟩, by omega, ⟨⟨rfl, rfl, rfl, rfl, rfl, rfl, rfl, trivial⟩, .cons (.cons (.cons .nil)), rfl⟩⟩
               · skip
                 obtain ⟨s1, s2⟩ := (sub8 Y X L0 k cc x y h0 hcc hx hy).2 (by omega)
                 refine cd (fun hn => absurd hn (by omega)) (fun hn => ?_)
                 rw [show (x : Int) - (cc : Int) - (y : Int) = ((Y / 256 ^ k % 256 : Nat) : Int) by omega]
                 refine ⟨by omega, by omega, ?_⟩
                 refine s1e 2 _ rfl (rzq _ _ _ _ hlt) (rsq .i64 34 _ (qbB Y X (k + 1)) k _ (qbA Y X k _ rfl)) ?_
                 refine .as (((k + 1 : Nat) : Int)) (by omega) (by simp only [mn]; omega) (by simp only [mx]; omega) ?_
                 exact ⟨(k + 1, 0), ⟨by omega, by show (_ : Nat) < 2; omega, s2⟩, by omega, ⟨⟨rfl, rfl, rfl, rfl, rfl, rfl, rfl, trivial⟩, .cons (.cons (.cons .nil)), rfl⟩⟩
             · have hy0 : L0 / 256 ^ k % 256 = 0 := by have := L0_top k (by omega); rw [Qp] at this; omega
               by_cases hng : x < 0 + cc
               · skip
                 obtain ⟨s1, s2⟩ := (sub8 Y X L0 k cc x 0 h0 hcc hx hy0).1 (by omega)
                 refine cd (fun hn => ?_) (fun hn => absurd (by omega) hn)
                 refine .as ((Y / 256 ^ k % 256 : Nat) : Int) (by omega) (by simp only [mn]; omega) (by simp only [mx]; omega) ?_
                 refine ⟨by omega, by omega, ?_⟩
                 refine s1e 2 _ rfl (rzq _ _ _ _ hlt) (rsq .i64 34 _ (qbB Y X (k + 1)) k _ (qbA Y X k _ rfl)) ?_
                 refine .as (((k + 1 : Nat) : Int)) (by omega) (by simp only [mn]; omega) (by simp only [mx]; omega) ?_
                 exact ⟨(k + 1, 1), ⟨by omega, by show (_ : Nat) < 2; omega, s2⟩, by omega, ⟨⟨rfl, rfl, rfl, rfl, rfl, rfl, rfl, trivial⟩, .cons (.cons (.cons .nil)), rfl⟩⟩
               · skip
                 obtain ⟨s1, s2⟩ := (sub8 Y X L0 k cc x 0 h0 hcc hx hy0).2 (by omega)
                 refine cd (fun hn => absurd hn (by omega)) (fun hn => ?_)
                 rw [show (x : Int) - (cc : Int) = ((Y / 256 ^ k % 256 : Nat) : Int) by omega]
                 refine ⟨by omega, by omega, ?_⟩
                 refine s1e 2 _ rfl (rzq _ _ _ _ hlt) (rsq .i64 34 _ (qbB Y X (k + 1)) k _ (qbA Y X k _ rfl)) ?_
                 refine .as (((k + 1 : Nat) : Int)) (by omega) (by simp only [mn]; omega) (by simp only [mx]; omega) ?_
                 exact ⟨(k + 1, 0), ⟨by omega, by show (_ : Nat) < 2; omega, s2⟩, by omega, ⟨⟨rfl, rfl, rfl, rfl, rfl, rfl, rfl, trivial⟩, .cons (.cons (.cons .nil)), rfl⟩⟩
           · obtain rfl : k = 34 := by omega
             rw [mixi_34]
             exact ⟨Y, ⟨hY1, hY2⟩, hY3, ⟨⟨rfl, rfl, rfl, rfl, rfl, trivial⟩, .cons (.cons (.cons .nil)), rfl⟩⟩
     · intro _ _
       refine .as ((i : Int) - 1) (by omega) (by simp only [mn]; omega) (by simp only [mx]; omega) ?_
       rw [← hR]
       exact ⟨i, by omega, by omega, ⟨⟨rfl, rfl, rfl, rfl, rfl, trivial⟩, .cons (.cons (.cons .nil)), rfl⟩⟩
 · obtain rfl : m = 0 := by omega
   rw [Nat.pow_zero, Nat.div_one]
   generalize N % L0 = r
   intro b13
   have hz : qdm = row .u8 32 (qci r 0) := (show qdm = k32 0 by kernel_rfl).trans (mixb_0 r).symm
   refine lp qi (fun k : Nat => k ≤ 32) (fun k => ⟨[(2, ptq b2), (4, ptq b4), (13, ptq b13), (14, .int .i64 (k : Int))], [cl b2 qdm 24, dead, cl b4 (i34 r) 131, cl b13 (row .u8 32 (qci r k)) 24], []⟩) (fun k => 32 - k) 0 (Nat.zero_le _) (by rw [← hz]; exact ⟨⟨rfl, rfl, rfl, rfl, trivial⟩, .cons (.dead (.cons (.cons .nil))), rfl⟩) ?_
   intro k hk
   refine cd (fun h => ?_) (fun h => ?_)
   · have hlt : k < 32 := by omega
     have hb := dg8 r k
     refine ⟨by omega, by omega, ?_⟩
     refine ld1 2 rfl (rgq .i64 34 (dg 256 r) k (by omega)) ?_
     refine .same (by simp only [mn]; omega) (by simp only [mx]; omega) ?_
     refine ⟨by omega, by omega, ?_⟩
     refine s1e 3 _ rfl (rzq _ _ _ _ hlt) (rsq .u8 32 _ (qci r (k + 1)) k _ (qc2 r k _ rfl)) ?_
     refine .as (((k + 1 : Nat) : Int)) (by omega) (by simp only [mn]; omega) (by simp only [mx]; omega) ?_
     exact ⟨k + 1, by omega, by omega, ⟨rfl, rfl, rfl, rfl, trivial⟩, .cons (.dead (.cons (.cons .nil))), rfl⟩
   · obtain rfl : k = 32 := by omega
     rw [mixb_32]
     refine ldN 3 rfl (qf _) ?_
     refine sN 0 rfl (by rw [qf]; rfl) (k32_os _) ?_ (by kernel_rfl)
     refine ldN 0 rfl (qf _) ?_
     exact rt rfl
end
section
open Go.RowKit Go.Lib
theorem ent71 : _root_.Go.Enters Try.prog 71 := ⟨_, Try.func71, by kernel_rfl, by kernel_rfl⟩
theorem info3 : (Try.prog.info? 3).map (fun i => (i.zero, i.size, i.bytes)) = some (some (.int .i64 0), 1, 8) := by kernel_rfl
def qc5 (vals : Nat → Int) (k : Nat) : List Value := (List.range k).map fun j => Value.int .i64 (vals j)
theorem ivals_succ (vals : Nat → Int) (k : Nat) : qc5 vals (k + 1) = qc5 vals k ++ [.int .i64 (vals k)] := by simp [qc5, List.range_succ]
theorem own_ints {W : World} {base len : Nat} {v : Value} {g : Nat → Int} (h : W.ownsRow base 3 1 v len (qc5 g len)) : ∃ a cap, v = .slice a len cap ∧ IntsA W a len g := by
 obtain ⟨hl, hr⟩ := h
 rcases hr with ⟨rfl, rfl⟩ | ⟨b, cap, cur, rfl, _, hg, hn, _, hcs, htk⟩
 · exact ⟨none, 0, rfl, .inl rfl⟩
 · refine ⟨_, cap, rfl, .inr ⟨b, rfl, (Array.getElem?_eq_some_iff.1 hg).1, fun i hi => ?_⟩⟩
   have hm : Has W b cur 3 := hg
   rw [hm.cellAt]
   have h2 : (cur.toList.take (len * 1))[i]? = some (.int .i64 (g i)) := by rw [htk]; simp [qc5, hi]
   rw [List.getElem?_take_of_lt (by omega)] at h2
   simpa using h2
theorem qcM (a : Option Addr) (len cap n : Nat) (hlen : len ≤ 1000) (hn : n < 256 ^ len) (w : World) (hb : Byts w a len n) :
 Calls Try.prog 24 #[.slice a len cap] w fun e w' => e = .returned (.agg (k32 (n % L0))) ∧ Below w.heap.size w w' := by
 obtain ⟨i0, hi, hz0, hz1, hz2⟩ := info_parts info3
 have hre := fun a cap w h => rest_any a len cap n hlen hn w h
 have MBY := Lib.hid hb
 clear hb hn
 have Hre := Lib.hid hre; clear hre
 go_enter Try.func24, Try.ntmps24
 repeat ((fail_if_success (with_reducible (show wpList _ _ _ _ _ _))); go_step)
 (refine wpList_step (fun K hK => ?_); go_simp; (try go_bits); refine hK _ _ ?_; clear hK K)
 refine wpList_nil ?_
 have M2 := Lib.hid (HasN.new w  (#[.int .u8 0, .int .u8 0, .int .u8 0, .int .u8 0, .int .u8 0, .int .u8 0, .int .u8 0, .int .u8 0, .int .u8 0, .int .u8 0, .int .u8 0, .int .u8 0, .int .u8 0, .int .u8 0, .int .u8 0, .int .u8 0, .int .u8 0, .int .u8 0, .int .u8 0, .int .u8 0, .int .u8 0, .int .u8 0, .int .u8 0, .int .u8 0, .int .u8 0, .int .u8 0, .int .u8 0, .int .u8 0, .int .u8 0, .int .u8 0, .int .u8 0, .int .u8 0] : Array Value) 24 32 (by kernel_rfl))
 have HB := Lib.hid (Qc w (.cells (#[.int .u8 0, .int .u8 0, .int .u8 0, .int .u8 0, .int .u8 0, .int .u8 0, .int .u8 0, .int .u8 0, .int .u8 0, .int .u8 0, .int .u8 0, .int .u8 0, .int .u8 0, .int .u8 0, .int .u8 0, .int .u8 0, .int .u8 0, .int .u8 0, .int .u8 0, .int .u8 0, .int .u8 0, .int .u8 0, .int .u8 0, .int .u8 0, .int .u8 0, .int .u8 0, .int .u8 0, .int .u8 0, .int .u8 0, .int .u8 0, .int .u8 0, .int .u8 0] : Array Value) 24))
 obtain ⟨yw1, hwyw1⟩ : ∃ ww, ww = (w.alloc (.cells (#[.int .u8 0, .int .u8 0, .int .u8 0, .int .u8 0, .int .u8 0, .int .u8 0, .int .u8 0, .int .u8 0, .int .u8 0, .int .u8 0, .int .u8 0, .int .u8 0, .int .u8 0, .int .u8 0, .int .u8 0, .int .u8 0, .int .u8 0, .int .u8 0, .int .u8 0, .int .u8 0, .int .u8 0, .int .u8 0, .int .u8 0, .int .u8 0, .int .u8 0, .int .u8 0, .int .u8 0, .int .u8 0, .int .u8 0, .int .u8 0, .int .u8 0, .int .u8 0] : Array Value) 24)) := ⟨_, rfl⟩
 rw [← hwyw1] at M2 HB ⊢
 clear hwyw1
 repeat ((fail_if_success (with_reducible (show wpList _ _ _ _ _ _))); go_step)
 (refine wpList_step (fun K hK => ?_); go_simp; (try go_bits); refine hK _ _ ?_; clear hK K)
 refine wpList_nil ?_
 repeat ((fail_if_success (with_reducible (show wpList _ _ _ _ _ _))); go_step)
 (refine wpList_step (fun K hK => ?_); go_simp; (try go_bits); refine hK _ _ ?_; clear hK K)
 refine wpList_nil ?_
 repeat ((fail_if_success (with_reducible (show wpList _ _ _ _ _ _))); go_step)
 go_loopw [3, 4] (fun v i wr => ∃ k : Nat, k ≤ len ∧ i = .int .i64 (k : Int) ∧ wr.ownsRow (w.heap.size + 1) 3 1 v k (qc5 (dg 256 n) k) ∧ HasN wr w.heap.size 32 24 ∧ Below w.heap.size w wr) (fun _ i _ => (len - (intOf i).toNat))
 case atStart => exact ⟨0, Nat.zero_le _, rfl, World.ownsRow_nil _ _ _ _, M2.out, HB.out⟩
 case round =>
  clear M2 HB
  obtain ⟨k, hk, rfl, hown, m2, hB⟩ := hrel
  obtain ⟨v, rfl⟩ : ∃ v, v = u3 := ⟨_, rfl⟩
  have Hown := Lib.hid hown; clear hown
  have M2 := Lib.hid m2; clear m2
  have HB := Lib.hid hB; clear hB
  rcases Nat.lt_or_ge k len with hlt | hge
  · rcases MBY.out with h0 | ⟨b, o, rfl, hbl, hcb⟩
    · omega
    have kq : (k : Int) < (len : Int) := by omega
    have hc1 := (HB.out.cell (p := ⟨b, o + k, none⟩) hbl).trans (hcb k hlt)
    clear hcb
    obtain ⟨c, hc⟩ : ∃ c, n / 256 ^ k % 256 = c := ⟨_, rfl⟩
    have lc : c < 256 := by omega
    rw [Qp, hc] at hc1
    have hdc : dg 256 n k = (c : Int) := by rw [Qp, hc]
    clear hc
    have Hdc := Lib.hid hdc; clear hdc
    repeat ((fail_if_success (with_reducible (show wpList _ _ _ _ _ _))); go_step)
    iterate 4 (refine wpList_step (fun K hK => ?_); go_simp; (try go_bits); refine hK _ _ ?_; clear hK K)
    refine wpList_nil ?_
    repeat ((fail_if_success (with_reducible (show wpList _ _ _ _ _ _))); go_step)
    iterate 7 (refine wpList_step (fun K hK => ?_); go_simp; (try go_bits); refine hK _ _ ?_; clear hK K)
    clear hc1
    refine wpList_append_own _ rfl _ _ 88 rfl (w.heap.size + 1) 3 i0 (.int .i64 0) 1 8 Try.underlying88 hi hz0 hz1 hz2 rfl (by decide) v k (qc5 (dg 256 n) k) rfl (Hown.out.alloc _) ⟨wr.heap.size, 0, none⟩ 1 1 [.int .i64 (c : Int)] rfl rfl (cell_one_new _ _ _) (by simp [Value.oneCell']) (by unfold maxLen; omega) (by omega) (by have := M2.out.lt; simp; omega) ?_
    intro v' w1 hown' hgrow _
    rw [← Hdc.out, ← ivals_succ] at hown'
    have hlt2 := M2.out.lt
    have hb1 : Below w.heap.size w w1 := (HB.out.alloc HB.out.size (.cells #[.int .i64 (c : Int)] 3)).grown hgrow (by rw [World.size_alloc]; have := HB.out.size; omega) (fun j e => by have := (Hown.out.lt j e).1; omega)
    have m2' : HasN w1 w.heap.size 32 24 := by
     obtain ⟨cs, hn, hh⟩ := M2.out.alloc (.cells #[.int .i64 (c : Int)] 3)
     exact ⟨cs, hn, (hgrow.block _ hh.lt (fun e => by have := (Hown.out.lt _ e.symm).1; omega)).trans hh⟩
    clear Hown M2 HB hgrow hlt2
    have Hown' := Lib.hid hown'; clear hown'
    have M2' := Lib.hid m2'; clear m2'
    have Hb1 := Lib.hid hb1; clear hb1
    (try simp only [Act.put, sI, sS, sZ])
    (refine wpList_step (fun K hK => ?_); go_simp; (try go_bits); refine hK _ _ ?_; clear hK K)
    refine wpList_nil ?_
    repeat ((fail_if_success (with_reducible (show wpList _ _ _ _ _ _))); go_step)
    iterate 3 (refine wpList_step (fun K hK => ?_); go_simp; (try go_bits); refine hK _ _ ?_; clear hK K)
    refine wpList_nil ?_
    go_roundw
    case measure => simp [intOf]; omega
    case rel => (repeat apply Exists.intro); exact ⟨⟨k + 1, by omega, by go_num, Hown'.out, M2'.out, Hb1.out⟩, rfl⟩
  · have hkl : k = len := by omega
    subst hkl
    clear hk hge
    obtain ⟨a2, cap2, rfl, hia⟩ := own_ints Hown.out
    have Hia := Lib.hid hia; clear hia
    repeat ((fail_if_success (with_reducible (show wpList _ _ _ _ _ _))); go_step)
    iterate 4 (refine wpList_step (fun K hK => ?_); go_simp; (try go_bits); refine hK _ _ ?_; clear hK K)
    refine wpList_nil ?_
    repeat ((fail_if_success (with_reducible (show wpList _ _ _ _ _ _))); go_step)
    (refine wpList_step (fun K hK => ?_); go_simp; (try go_bits); refine hK _ _ ?_; clear hK K)
    refine qm (by rfl) rfl rfl (by rfl) ent71 (by rfl) (Hre.out a2 cap2 _ Hia.out) 20 rfl ?_
    rintro e uw101 ⟨rfl, hb⟩
    replace M2 := Lib.hid (M2.out.call hb)
    replace HB := Lib.hid (qh HB.out hb)
    refine ⟨_, rfl, ?_⟩
    clear hb
    (try simp only [Act.put, sI, sS, sZ])
    first | (obtain ⟨Zq, hZ, mZ⟩ := M2.out) | (obtain ⟨Zq, hZ, mZ⟩ := M2.out.toN (qf ..))
    refine ql (by rfl) 24 _ _ rfl rfl (w.heap.size) (k32 (n % L0)) rfl rfl 24 Zq mZ (by rw [qf]; kernel_rfl) (hZ.trans (qf ..).symm) (qp _ _ _) ?_
    intro yw101 hw2
    replace M2 := Lib.hid (mZ.setRow (k32 (n % L0)))
    replace HB := Lib.hid (below_setRow HB.out (w.heap.size) (k32 (n % L0)) (by omega))
    rw [← hw2] at M2 HB; clear mZ hZ hw2
    refine wpList_nil ?_
    go_wp2_with fail
    exact bodyPost_ret (v := .agg (k32 (n % L0))) (results_cell_row (t := 24) (by rfl) _ _ (w.heap.size) _ _ _ rfl M2.out Try.underlying24 rfl (by rw [qf]; kernel_rfl)) rfl ⟨rfl, HB.out⟩
end
section
open Go.RowKit Go.Sx
theorem ZR (w : World) (v : Value) (bs : List UInt8) (hrd : Rd w v (Lib.byteCells bs)) (hn : bs.length ≤ 1000000) : Calls Try.prog 101 ([v] : List Value).toArray w fun e w' => e = .returned (.agg (k32 (resN bs))) ∧ Below w.heap.size w w' := by
 have hlen := zL bs
 refine q9 qi Try.func101 rfl Try.ntmps101 rfl (St.start w) ?_
 intro b2
 refine cvs (fun w' hs => qdD v bs w' (hrd.below hs.below) hn) ?_
 unfold resN
 generalize zt bs = D at *
 have hl : (Lib.byteCells D).length = 64 := by rw [Lib.byteCells_length, hlen]
 intro b3
 refine sN 1 rfl (by simp [hl]) (QS D) ?_ (by kernel_rfl)
 refine ⟨.mk 0 64 64 rfl rfl rfl (by decide) (by decide) (by decide) (by simp) (.on (by decide) ?_)⟩
 refine cvs (v := .agg (k32 (leN D % L0))) (fun w' hs => ?_) ?_
 · have hrd : Rd w' (.slice (some ⟨b3, 0, none⟩) 64 64) (Lib.byteCells D) := Rd.ent hs 1 rfl hl.symm (by rw [List.drop_zero, List.take_of_length_le (by simpa using Nat.le_of_eq hl)])
   obtain ⟨a, c, hv, hb⟩ := byts_of hrd
   rw [hlen] at hv hb
   injection hv with h1 h2 h3
   subst h1 h3
   exact qcM _ 64 64 (leN D) (by decide) (by rw [← hlen]; exact qaw D) w' hb
 refine sN 0 rfl (by rw [qf]; rfl) (qF _) ?_ (by kernel_rfl)
 refine ldN 0 rfl (qf _) ?_
 exact rt rfl
end
section
open Go.RowKit Go.Sx
theorem apB {N : Nat} {M : Bks} {B : World} {F : Option Nat} {L : List Ent} (k : Nat) {cs : Array Bool} {r : Sx.Own} {n : Nat} {pre l : List UInt8} {x : Value} {next : Value → List Ent → Prop}
 (hk : L[k]? = some (se r (Lib.byteCells pre) 5)) (hR : Rw 1 n r (Lib.byteCells pre)) (hrd : ∀ w, St M B w L → Rd w x (Lib.byteCells l)) (hb : n + l.length ≤ 10000000)
 (go : ∀ r', Rw 1 (n + l.length) r' (Lib.byteCells (pre ++ l)) → next (sv r' (n + l.length)) (L.set k (se r' (Lib.byteCells (pre ++ l)) 5))) : BiP ⟨Try.prog, tab, N, M, B, F⟩ .append #[22, 22] 22 cs [sv r n, x] L next := by
 refine ap (C := ⟨Try.prog, tab, N, M, B, F⟩) k (m := l.length) (news := Lib.byteCells l) qi rfl zp rfl hk hR (fun w hs => ?_) (by omega) (by unfold maxLen; omega) (fun r' hr' => ?_)
 · have := (hrd w hs).src (P := Try.prog) q8 (fun u hu => by obtain ⟨_, _, rfl⟩ := List.mem_map.1 hu; rfl)
   rwa [Lib.byteCells_length] at this
 · rw [← Lib.byteCells_append] at hr' ⊢; exact go r' hr'
theorem zM (b0 : Nat) : Rw 1 0 (some (b0, 0, [])) (Lib.byteCells []) := ⟨rfl, by decide, by decide, rfl⟩
theorem rdw {M : Bks} {B w : World} {L : List Ent} (hs : St M B w L) (k : Nat) {r : Sx.Own} {n : Nat} {l : List UInt8} (hk : L[k]? = some (se r (Lib.byteCells l) 5)) (hR : Rw 1 n r (Lib.byteCells l)) : Rd w (sv r n) (Lib.byteCells l) := Rd.own hs k hk hR
end
section
open Go.RowKit Go.Sx
theorem negA_add (a b : Fin PP × Fin PP) : QH qP fd (ZD a) (ZD b) = ZD (QH qP fd a b) := by
 unfold QH ZD sx sy
 have e : fd * -a.1 * -b.1 * a.2 * b.2 = fd * a.1 * b.1 * a.2 * b.2 := by grind
 simp only [e]
 refine Prod.ext ?_ ?_
 · show (-a.1 * b.2 + -b.1 * a.2) * _ = -((a.1 * b.2 + b.1 * a.2) * _)
   grind
 · show (a.2 * b.2 + -a.1 * -b.1) * _ = (a.2 * b.2 + a.1 * b.1) * _
   grind
theorem negA_mul (p : Fin PP × Fin PP) (k : Nat) : qX qP fd (ZD p) k = ZD (qX qP fd p k) := by
 induction k with
 | zero => unfold qX ZD; refine Prod.ext ?_ rfl; show (0 : Fin PP) = -0; grind
 | succ k ih => rw [qX, ih, negA_add]; rfl
end
section
open Go.RowKit Go.Sx
theorem neq_bytes {P : Program} (t e : TypeId) (n : Nat) (ht : P.underlying t = some (.array n e)) (he : P.underlying e = some (.int .u8)) (hz : zj P e 1 = true) (hg : P.eqGuardType P.depth t = false) (x y : List UInt8) (hx : x.length = n) (hy : y.length = n) (a b : Operand) (w : World) :
 (do eqGuard .neq t a b (.agg (Lib.byteCells x).toArray) (.agg (Lib.byteCells y).toArray); binOp .neq t (.agg (Lib.byteCells x).toArray) (.agg (Lib.byteCells y).toArray) : Sem Value).run P w = .ok (.bool (!decide (x = y))) w := by
 have h := qdP t e n ht he hz hg x y hx hy a b w
 simp only [Sem.run_bind, qaR hg, Result.andThen_ok] at h ⊢
 rw [run_eql_struct] at h
 rw [run_neq_struct]
 cases hr : (Op.equalIn 10000 t (.agg (Lib.byteCells x).toArray) (.agg (Lib.byteCells y).toArray)).run P w with
 | ok c w' =>
  rw [hr] at h
  simp only [Result.andThen_ok, Result.ok.injEq, Value.bool.injEq] at h ⊢
  exact ⟨by rw [h.1], h.2⟩
 | _ => rw [hr] at h; simp [Result.andThen] at h
theorem neq_k32 {C : Cx} {L : List Ent} {m n : Nat} {a b : Operand} {next : Value → List Ent → Prop} (hP : C.P = Try.prog) (hm : m < 115792089237316195423570985008687907853269984665640564039457584007913129639936) (hn : n < 115792089237316195423570985008687907853269984665640564039457584007913129639936) (go : next (.bool (!decide (m = n))) L) :
 qaf C (do eqGuard .neq 24 a b (.agg (k32 m)) (.agg (k32 n)); binOp .neq 24 (.agg (k32 m)) (.agg (k32 n))) L next := by
 rw [zl, zl]
 rw [← show decide (qC m = qC n) = decide (m = n) from decide_eq_decide.2 (le32_inj m n hm hn)] at go
 exact semV (fun w _ => by rw [hP]; exact neq_bytes 24 5 32 (by kernel_rfl) (by kernel_rfl) (by kernel_rfl) (by kernel_rfl) _ _ (qo m) (qo n) a b w) go
theorem rright_core (p : Nat) (D : List UInt8) (hDl : D.length = 64) (v : Value) (bs : List UInt8) (w : World) (hrd : Rd w v (Lib.byteCells bs)) (hn : bs.length ≤ 10000) (F S H kq : Nat) (ok : Bool) (P A B Q : Fin PP × Fin PP)
 (hF : F < 115792089237316195423570985008687907853269984665640564039457584007913129639936) (hS : S < 115792089237316195423570985008687907853269984665640564039457584007913129639936) (hkq : kq < 115792089237316195423570985008687907853269984665640564039457584007913129639936)
 (hcut : ∀ w, Calls Try.prog 102 ([Qr D] : List Value).toArray w fun e w' => e = .returned (.tuple #[.agg (k32 F), .agg (k32 S)]) ∧ Below w.heap.size w w')
 (hof : ∀ w, Calls Try.prog 48 ([.agg (k32 p)] : List Value).toArray w fun e w' => ∃ x : Nat × Nat × Nat × Nat, Rq x.1 x.2.1 x.2.2.1 x.2.2.2 P ∧ e = Ending.returned (.tuple #[.agg (rp x.1 x.2.1 x.2.2.1 x.2.2.2), .bool ok]) ∧ Below w.heap.size w w')
 (hrch : ∀ w v, Rd w v (Lib.byteCells (qC F ++ qC p ++ bs)) → Calls Try.prog 101 ([v] : List Value).toArray w fun e w' => e = .returned (.agg (k32 H)) ∧ Below w.heap.size w w')
 (hm1 : ∀ X Y Z T, Rq X Y Z T gG → ∀ w, Calls Try.prog 57 ([.agg (rp X Y Z T), .agg (k32 S)] : List Value).toArray w fun e w' => ∃ x : Nat × Nat × Nat × Nat, Rq x.1 x.2.1 x.2.2.1 x.2.2.2 A ∧ e = .returned (.agg (rp x.1 x.2.1 x.2.2.1 x.2.2.2)) ∧ Below w.heap.size w w')
 (htu : ∀ X Y Z T, Rq X Y Z T P → ∀ w, Calls Try.prog 54 ([.agg (rp X Y Z T)] : List Value).toArray w fun e w' => ∃ x : Nat × Nat × Nat × Nat, Rq x.1 x.2.1 x.2.2.1 x.2.2.2 (ZD P) ∧ e = .returned (.agg (rp x.1 x.2.1 x.2.2.1 x.2.2.2)) ∧ Below w.heap.size w w')
 (hm2 : ∀ X Y Z T, Rq X Y Z T (ZD P) → ∀ w, Calls Try.prog 57 ([.agg (rp X Y Z T), .agg (k32 H)] : List Value).toArray w fun e w' => ∃ x : Nat × Nat × Nat × Nat, Rq x.1 x.2.1 x.2.2.1 x.2.2.2 B ∧ e = .returned (.agg (rp x.1 x.2.1 x.2.2.1 x.2.2.2)) ∧ Below w.heap.size w w')
 (hpl : ∀ X Y Z T, Rq X Y Z T A → ∀ X2 Y2 Z2 T2, Rq X2 Y2 Z2 T2 B → ∀ w, Calls Try.prog 52 ([.agg (rp X Y Z T), .agg (rp X2 Y2 Z2 T2)] : List Value).toArray w fun e w' => ∃ x : Nat × Nat × Nat × Nat, Rq x.1 x.2.1 x.2.2.1 x.2.2.2 Q ∧ e = .returned (.agg (rp x.1 x.2.1 x.2.2.1 x.2.2.2)) ∧ Below w.heap.size w w')
 (hk : ∀ X Y Z T, Rq X Y Z T Q → ∀ w, Calls Try.prog 50 ([.agg (rp X Y Z T)] : List Value).toArray w fun e w' => e = .returned (.agg (k32 kq)) ∧ Below w.heap.size w w') :
 Calls Try.prog 68 ([.agg (k32 p), Qr D, v] : List Value).toArray w fun e w' => e = .returned (.bool (ok && decide (S < L0) && decide (kq = F))) ∧ Below w.heap.size w w' := by
 have hDc : (Lib.byteCells D).length = 64 := by rw [Lib.byteCells_length, hDl]
 refine q9 qi Try.func68 rfl Try.ntmps68 rfl (St.start w) ?_
 intro b3 b4
 refine ldN 1 rfl (by show (Lib.byteCells D).toArray.size = 64; rw [List.size_toArray, hDc]) ?_
 refine cv (fun w => hcut w) ?_
 intro b7 b8
 refine sN 2 rfl (by rw [qf]; rfl) (qF _) ?_ (by kernel_rfl)
 refine sN 3 rfl (by rw [qf]; rfl) (qF _) ?_ (by kernel_rfl)
 refine ldN 0 rfl (qf _) ?_
 refine ce (fun w _ => hof w) (fun g hg => ?_)
 intro b9
 refine sN 4 rfl (by rw [qA]; rfl) (by rw [Array.all_toList]; exact QF _ _ _ _) ?_ (by kernel_rfl)
 cases ok with
 | false =>
  refine drs [] [] (.t 0 (.t 1 (.t 2 (.t 3 (.t 4 (.t 5 (.n 6 (.t 7 .nil)))))))) qi qq (by kernel_rfl) .nil ?_
  refine cf rfl ?_
  refine cf rfl ?_
  refine cf rfl ?_
  refine cf rfl ?_
  refine ct rfl ?_
  refine ct rfl ?_
  exact rt rfl
 | true =>
  have hres : ∀ w, ∀ a, Byts w a 32 S → Calls Try.prog 24 ([.slice a 32 32] : List Value).toArray w fun e w' => e = .returned (.agg (k32 (S % L0))) ∧ Below w.heap.size w w' := fun w a hb => qcM a 32 32 S (by decide) hS w hb
  refine drs [dead, dead, dead, cl b8 (k32 S) 24] [] (.t 0 (.t 1 (.t 2 (.t 3 (.t 4 (.t 5 (.n 6 (.t 7 .nil)))))))) qi qq (by kernel_rfl) (.dead (.dead (.dead (.cons .nil)))) ?_
  refine ct rfl ?_
  refine ⟨.mk 0 32 32 rfl rfl rfl (by decide) (by decide) (by decide) (by simp) (.on (by decide) ?_)⟩
  refine ct rfl ?_
  refine czs (v := .agg (k32 (S % L0))) (fun w' hs => ?_) ?_
  · have hr := QA hs 3 rfl
    obtain ⟨a, c, hv, hb⟩ := byts_of hr
    rw [qo, qax S hS] at hb
    rw [qo] at hv
    injection hv with h1 h2 h3
    subst h1 h3
    exact hres w' _ hb
  refine ct rfl ?_
  refine ldN 3 rfl (qf _) ?_
  refine ct rfl ?_
  have hml : S % L0 < 115792089237316195423570985008687907853269984665640564039457584007913129639936 := Nat.lt_of_le_of_lt (Nat.mod_le _ _) hS
  have hq : decide (S % L0 = S) = decide (S < L0) := by
   apply decide_eq_decide.2
   constructor
   · intro h; rw [← h]; exact Nat.mod_lt _ (by decide +kernel)
   · exact Nat.mod_eq_of_lt
  refine neq_k32 (m := S % L0) (n := S) rfl hml hS ?_
  rw [hq]
  clear hq hml
  refine ⟨.dead (.dead (.dead (.cons .nil))), ?_⟩
  refine cf rfl ?_
  cases hSL : decide (S < L0) with
  | false =>
   refine ct rfl ?_
   exact rt rfl
  | true =>
   refine cf rfl ?_
   refine cut (α := Nat) (fun _ => True) (fun b11 => ⟨[(7, ptr b7), (8, ptr b8), (9, ptr b9), (11, ptr b11)], [dead, cl b7 (k32 F) 24, cl b8 (k32 S) 24, cl b9 (rp g.1 g.2.1 g.2.2.1 g.2.2.2) 57, cl b11 (k32 H) 24], []⟩) ?_ ?_
   · refine drs [] [9] (.t 1 (.t 3 (.t 5 (.b 0 8 (.b 2 8 (.b 4 8 (.b 6 8 (.b 7 8 (.n 8 (.n 9 .nil)) (.n 7 (.n 9 .nil))) (.n 6 (.n 7 (.n 9 .nil)))) (.n 4 (.n 6 (.n 7 (.n 9 .nil))))) (.n 2 (.n 4 (.n 6 (.n 7 (.n 9 .nil)))))) (.n 0 (.n 2 (.n 4 (.n 6 (.n 7 (.n 9 .nil)))))))))) qi qq (by kernel_rfl) .nil ?_
     refine ⟨.mk 0 32 32 rfl rfl rfl (by decide) (by decide) (by decide) (by simp) (.on (by decide) ?_)⟩
     refine ⟨.mk 0 32 32 rfl rfl rfl (by decide) (by decide) (by decide) (by simp) (.on (by decide) ?_)⟩
     refine ⟨?_, ?_⟩
     · refine .mk #[] 5 (fun w => bs0 w) (fun b0 => ?_)
       refine ⟨.nil, ?_⟩
       refine ⟨?_, ?_⟩
       · refine apB 5 (r := (some (b0, 0, []))) (n := 0) (pre := []) (l := (qC F)) rfl (zM b0) (fun w' hs => QA hs 2 rfl) (by rw [qo]; omega) (fun r1 hr1 => ?_)
         rw [qo] at hr1 ⊢
         refine ⟨.nil, ?_⟩
         refine ⟨?_, ?_⟩
         · refine apB 5 (r := r1) (n := (0 + 32)) (pre := ([] ++ (qC F))) (l := (qC p)) rfl hr1 (fun w' hs => QA hs 0 rfl) (by rw [qo]; omega) (fun r2 hr2 => ?_)
           rw [qo] at hr2 ⊢
           refine ⟨.nil, ?_⟩
           refine ⟨?_, ?_⟩
           · refine apB 5 (r := r2) (n := ((0 + 32) + 32)) (pre := (([] ++ (qC F)) ++ (qC p))) (l := bs) rfl hr2 (fun w' hs => hrd.below hs.below) (by omega) (fun r3 hr3 => ?_)
             refine ⟨.nil, ?_⟩
             refine ⟨?_, ?_⟩
             · refine cvs (fun w' hs => hrch w' _ (rdw hs 5 rfl hr3)) ?_
               refine ⟨.nil, ?_⟩
               intro b11
               refine ⟨.nil, ?_⟩
               refine sN 6 rfl (by rw [qf]; rfl) (qF _) ?_ (by kernel_rfl)
               exact ⟨b11, trivial, ⟨rfl, rfl, rfl, rfl, trivial⟩, .dead (.drop (.cons (.cons (.cons (.drop (.cons .nil)))))), rfl⟩
             · intro b11
               refine ⟨.nil, ?_⟩
               refine cvs (fun w' hs => hrch w' _ (rdw hs 5 rfl hr3)) ?_
               refine ⟨.nil, ?_⟩
               refine sN 6 rfl (by rw [qf]; rfl) (qF _) ?_ (by kernel_rfl)
               exact ⟨b11, trivial, ⟨rfl, rfl, rfl, rfl, trivial⟩, .dead (.drop (.cons (.cons (.cons (.drop (.cons .nil)))))), rfl⟩
           · intro b11
             refine ⟨.nil, ?_⟩
             refine apB 5 (r := r2) (n := ((0 + 32) + 32)) (pre := (([] ++ (qC F)) ++ (qC p))) (l := bs) rfl hr2 (fun w' hs => hrd.below hs.below) (by omega) (fun r3 hr3 => ?_)
             refine ⟨.nil, ?_⟩
             refine cvs (fun w' hs => hrch w' _ (rdw hs 5 rfl hr3)) ?_
             refine ⟨.nil, ?_⟩
             refine sN 6 rfl (by rw [qf]; rfl) (qF _) ?_ (by kernel_rfl)
             exact ⟨b11, trivial, ⟨rfl, rfl, rfl, rfl, trivial⟩, .dead (.drop (.cons (.cons (.cons (.drop (.cons .nil)))))), rfl⟩
         · intro b11
           refine ⟨.nil, ?_⟩
           refine apB 5 (r := r1) (n := (0 + 32)) (pre := ([] ++ (qC F))) (l := (qC p)) rfl hr1 (fun w' hs => QA hs 0 rfl) (by rw [qo]; omega) (fun r2 hr2 => ?_)
           rw [qo] at hr2 ⊢
           refine ⟨.nil, ?_⟩
           refine apB 5 (r := r2) (n := ((0 + 32) + 32)) (pre := (([] ++ (qC F)) ++ (qC p))) (l := bs) rfl hr2 (fun w' hs => hrd.below hs.below) (by omega) (fun r3 hr3 => ?_)
           refine ⟨.nil, ?_⟩
           refine cvs (fun w' hs => hrch w' _ (rdw hs 5 rfl hr3)) ?_
           refine ⟨.nil, ?_⟩
           refine sN 6 rfl (by rw [qf]; rfl) (qF _) ?_ (by kernel_rfl)
           exact ⟨b11, trivial, ⟨rfl, rfl, rfl, rfl, trivial⟩, .dead (.drop (.cons (.cons (.cons (.drop (.cons .nil)))))), rfl⟩
       · intro b11
         refine ⟨.nil, ?_⟩
         refine apB 5 (r := (some (b0, 0, []))) (n := 0) (pre := []) (l := (qC F)) rfl (zM b0) (fun w' hs => QA hs 2 rfl) (by rw [qo]; omega) (fun r1 hr1 => ?_)
         rw [qo] at hr1 ⊢
         refine ⟨.nil, ?_⟩
         refine apB 5 (r := r1) (n := (0 + 32)) (pre := ([] ++ (qC F))) (l := (qC p)) rfl hr1 (fun w' hs => QA hs 0 rfl) (by rw [qo]; omega) (fun r2 hr2 => ?_)
         rw [qo] at hr2 ⊢
         refine ⟨.nil, ?_⟩
         refine apB 5 (r := r2) (n := ((0 + 32) + 32)) (pre := (([] ++ (qC F)) ++ (qC p))) (l := bs) rfl hr2 (fun w' hs => hrd.below hs.below) (by omega) (fun r3 hr3 => ?_)
         refine ⟨.nil, ?_⟩
         refine cvs (fun w' hs => hrch w' _ (rdw hs 5 rfl hr3)) ?_
         refine ⟨.nil, ?_⟩
         refine sN 6 rfl (by rw [qf]; rfl) (qF _) ?_ (by kernel_rfl)
         exact ⟨b11, trivial, ⟨rfl, rfl, rfl, rfl, trivial⟩, .dead (.drop (.cons (.cons (.cons (.drop (.cons .nil)))))), rfl⟩
     · intro b11
       refine ⟨.nil, ?_⟩
       refine .mk #[] 5 (fun w => bs0 w) (fun b0 => ?_)
       refine ⟨.nil, ?_⟩
       refine apB 6 (r := (some (b0, 0, []))) (n := 0) (pre := []) (l := (qC F)) rfl (zM b0) (fun w' hs => QA hs 2 rfl) (by rw [qo]; omega) (fun r1 hr1 => ?_)
       rw [qo] at hr1 ⊢
       refine ⟨.nil, ?_⟩
       refine apB 6 (r := r1) (n := (0 + 32)) (pre := ([] ++ (qC F))) (l := (qC p)) rfl hr1 (fun w' hs => QA hs 0 rfl) (by rw [qo]; omega) (fun r2 hr2 => ?_)
       rw [qo] at hr2 ⊢
       refine ⟨.nil, ?_⟩
       refine apB 6 (r := r2) (n := ((0 + 32) + 32)) (pre := (([] ++ (qC F)) ++ (qC p))) (l := bs) rfl hr2 (fun w' hs => hrd.below hs.below) (by omega) (fun r3 hr3 => ?_)
       refine ⟨.nil, ?_⟩
       refine cvs (fun w' hs => hrch w' _ (rdw hs 6 rfl hr3)) ?_
       refine ⟨.nil, ?_⟩
       refine sN 5 rfl (by rw [qf]; rfl) (qF _) ?_ (by kernel_rfl)
       exact ⟨b11, trivial, ⟨rfl, rfl, rfl, rfl, trivial⟩, .dead (.drop (.cons (.cons (.cons (.cons .nil))))), rfl⟩
   · intro b11 _
     refine cut (α := Nat × (Nat × Nat × Nat × Nat)) (fun x => Rq x.2.1 x.2.2.1 x.2.2.2.1 x.2.2.2.2 Q) (fun x => ⟨[(7, ptr b7), (12, ptr x.1)], [dead, cl b7 (k32 F) 24, dead, dead, dead, cl x.1 (rp x.2.1 x.2.2.1 x.2.2.2.1 x.2.2.2.2) 57], []⟩) ?_ ?_
     · refine drs [dead, dead, cl b8 (k32 S) 24, cl b9 (rp g.1 g.2.1 g.2.2.1 g.2.2.2) 57, cl b11 (k32 H) 24] [9] (.t 1 (.t 3 (.t 5 (.b 0 8 (.b 2 8 (.b 4 8 (.b 6 8 (.b 7 8 (.n 8 (.n 9 .nil)) (.n 7 (.n 9 .nil))) (.n 6 (.n 7 (.n 9 .nil)))) (.n 4 (.n 6 (.n 7 (.n 9 .nil))))) (.n 2 (.n 4 (.n 6 (.n 7 (.n 9 .nil)))))) (.n 0 (.n 2 (.n 4 (.n 6 (.n 7 (.n 9 .nil)))))))))) qi qq (by kernel_rfl) (.dead (.dead (.cons (.cons (.cons .nil))))) ?_
       refine ldN 2 rfl (qf _) ?_
       refine ldN 3 rfl (qA _ _ _ _) ?_
       refine ldN 4 rfl (qf _) ?_
       refine ⟨?_, ?_⟩
       · refine ce (fun w _ => rg (qaq w)) (fun q hq => ?_)
         refine ⟨(.dead (.dead (.cons (.cons (.cons .nil))))), ?_⟩
         refine ⟨?_, ?_⟩
         · refine ce (fun w _ => hm1 _ _ _ _ hq w) (fun q1 hq1 => ?_)
           refine ⟨(.dead (.dead (.cons (.cons (.cons .nil))))), ?_⟩
           refine ⟨?_, ?_⟩
           · refine ce (fun w _ => htu _ _ _ _ hg w) (fun q2 hq2 => ?_)
             refine ⟨(.dead (.dead (.cons (.cons (.cons .nil))))), ?_⟩
             refine ⟨?_, ?_⟩
             · refine ce (fun w _ => hm2 _ _ _ _ hq2 w) (fun q3 hq3 => ?_)
               refine ⟨(.dead (.dead (.cons (.cons (.cons .nil))))), ?_⟩
               refine ⟨?_, ?_⟩
               · refine ce (fun w _ => hpl _ _ _ _ hq1 _ _ _ _ hq3 w) (fun q4 hq4 => ?_)
                 refine ⟨(.dead (.dead (.cons (.cons (.cons .nil))))), ?_⟩
                 intro b12
                 refine ⟨(.dead (.dead (.cons (.cons (.cons .nil))))), ?_⟩
                 refine sN 5 rfl (by rw [qA]; rfl) (by rw [Array.all_toList]; exact QF _ _ _ _) ?_ (by kernel_rfl)
                 exact ⟨(b12, q4), hq4, ⟨rfl, rfl, trivial⟩, .dead (.cons (.dead (.dead (.dead (.cons .nil))))), rfl⟩
               · intro b12
                 refine ⟨(.dead (.dead (.cons (.cons (.cons .nil))))), ?_⟩
                 refine ce (fun w _ => hpl _ _ _ _ hq1 _ _ _ _ hq3 w) (fun q4 hq4 => ?_)
                 refine ⟨(.dead (.dead (.cons (.cons (.cons .nil))))), ?_⟩
                 refine sN 5 rfl (by rw [qA]; rfl) (by rw [Array.all_toList]; exact QF _ _ _ _) ?_ (by kernel_rfl)
                 exact ⟨(b12, q4), hq4, ⟨rfl, rfl, trivial⟩, .dead (.cons (.dead (.dead (.dead (.cons .nil))))), rfl⟩
             · intro b12
               refine ⟨(.dead (.dead (.cons (.cons (.cons .nil))))), ?_⟩
               refine ce (fun w _ => hm2 _ _ _ _ hq2 w) (fun q3 hq3 => ?_)
               refine ⟨(.dead (.dead (.cons (.cons (.cons .nil))))), ?_⟩
               refine ce (fun w _ => hpl _ _ _ _ hq1 _ _ _ _ hq3 w) (fun q4 hq4 => ?_)
               refine ⟨(.dead (.dead (.cons (.cons (.cons .nil))))), ?_⟩
               refine sN 5 rfl (by rw [qA]; rfl) (by rw [Array.all_toList]; exact QF _ _ _ _) ?_ (by kernel_rfl)
               exact ⟨(b12, q4), hq4, ⟨rfl, rfl, trivial⟩, .dead (.cons (.dead (.dead (.dead (.cons .nil))))), rfl⟩
           · intro b12
             refine ⟨(.dead (.dead (.cons (.cons (.cons .nil))))), ?_⟩
             refine ce (fun w _ => htu _ _ _ _ hg w) (fun q2 hq2 => ?_)
             refine ⟨(.dead (.dead (.cons (.cons (.cons .nil))))), ?_⟩
             refine ce (fun w _ => hm2 _ _ _ _ hq2 w) (fun q3 hq3 => ?_)
             refine ⟨(.dead (.dead (.cons (.cons (.cons .nil))))), ?_⟩
             refine ce (fun w _ => hpl _ _ _ _ hq1 _ _ _ _ hq3 w) (fun q4 hq4 => ?_)
             refine ⟨(.dead (.dead (.cons (.cons (.cons .nil))))), ?_⟩
             refine sN 5 rfl (by rw [qA]; rfl) (by rw [Array.all_toList]; exact QF _ _ _ _) ?_ (by kernel_rfl)
             exact ⟨(b12, q4), hq4, ⟨rfl, rfl, trivial⟩, .dead (.cons (.dead (.dead (.dead (.cons .nil))))), rfl⟩
         · intro b12
           refine ⟨(.dead (.dead (.cons (.cons (.cons .nil))))), ?_⟩
           refine ce (fun w _ => hm1 _ _ _ _ hq w) (fun q1 hq1 => ?_)
           refine ⟨(.dead (.dead (.cons (.cons (.cons .nil))))), ?_⟩
           refine ce (fun w _ => htu _ _ _ _ hg w) (fun q2 hq2 => ?_)
           refine ⟨(.dead (.dead (.cons (.cons (.cons .nil))))), ?_⟩
           refine ce (fun w _ => hm2 _ _ _ _ hq2 w) (fun q3 hq3 => ?_)
           refine ⟨(.dead (.dead (.cons (.cons (.cons .nil))))), ?_⟩
           refine ce (fun w _ => hpl _ _ _ _ hq1 _ _ _ _ hq3 w) (fun q4 hq4 => ?_)
           refine ⟨(.dead (.dead (.cons (.cons (.cons .nil))))), ?_⟩
           refine sN 5 rfl (by rw [qA]; rfl) (by rw [Array.all_toList]; exact QF _ _ _ _) ?_ (by kernel_rfl)
           exact ⟨(b12, q4), hq4, ⟨rfl, rfl, trivial⟩, .dead (.cons (.dead (.dead (.dead (.cons .nil))))), rfl⟩
       · intro b12
         refine ⟨(.dead (.dead (.cons (.cons (.cons .nil))))), ?_⟩
         refine ce (fun w _ => rg (qaq w)) (fun q hq => ?_)
         refine ⟨(.dead (.dead (.cons (.cons (.cons .nil))))), ?_⟩
         refine ce (fun w _ => hm1 _ _ _ _ hq w) (fun q1 hq1 => ?_)
         refine ⟨(.dead (.dead (.cons (.cons (.cons .nil))))), ?_⟩
         refine ce (fun w _ => htu _ _ _ _ hg w) (fun q2 hq2 => ?_)
         refine ⟨(.dead (.dead (.cons (.cons (.cons .nil))))), ?_⟩
         refine ce (fun w _ => hm2 _ _ _ _ hq2 w) (fun q3 hq3 => ?_)
         refine ⟨(.dead (.dead (.cons (.cons (.cons .nil))))), ?_⟩
         refine ce (fun w _ => hpl _ _ _ _ hq1 _ _ _ _ hq3 w) (fun q4 hq4 => ?_)
         refine ⟨(.dead (.dead (.cons (.cons (.cons .nil))))), ?_⟩
         refine sN 5 rfl (by rw [qA]; rfl) (by rw [Array.all_toList]; exact QF _ _ _ _) ?_ (by kernel_rfl)
         exact ⟨(b12, q4), hq4, ⟨rfl, rfl, trivial⟩, .dead (.cons (.dead (.dead (.dead (.cons .nil))))), rfl⟩
     · rintro ⟨b12, q⟩ hq
       refine drs [dead, cl b7 (k32 F) 24, dead, dead, dead, cl b12 (rp q.1 q.2.1 q.2.2.1 q.2.2.2) 57] [3, 4] (.t 0 (.t 1 (.t 2 (.n 3 (.n 4 .nil))))) qi qq (by kernel_rfl) (.dead (.cons (.dead (.dead (.dead (.cons .nil)))))) ?_
       refine ldN 5 rfl (qA _ _ _ _) ?_
       refine cz (fun w => hk _ _ _ _ hq w) ?_
       refine ldN 1 rfl (qf _) ?_
       refine eq_k32 (m := kq) (n := F) rfl hkq hF ?_
       refine rt ?_
       rw [Bool.and_self, Bool.true_and]
       exact one_bool _
theorem qa8 (p : Nat) (hp : p < 115792089237316195423570985008687907853269984665640564039457584007913129639936) (D : List UInt8) (hD : D.length = 64) (v : Value) (bs : List UInt8) (w : World) (hrd : Rd w v (Lib.byteCells bs)) (hn : bs.length ≤ 10000) :
 Calls Try.prog 68 ([.agg (k32 p), Qr D, v] : List Value).toArray w fun e w' => e = .returned (.bool (Zi p D bs)) ∧ Below w.heap.size w w' := by
 have hon : OnP fd (qaj p) := (cof_rep p).2.2.2
 have hneg : qX qP fd (ZD (qaj p)) (zr (zW D) p bs) = ZD (qX qP fd (qaj p) (zr (zW D) p bs)) := negA_mul _ _
 have hH : zr (zW D) p bs < 115792089237316195423570985008687907853269984665640564039457584007913129639936 := by unfold zr; exact ZT _
 have h0 := rright_core p D hD v bs w hrd hn (zW D) (ZG D) (zr (zW D) p bs) (Z0 (ZB p D bs)) (cof p).1 (qaj p) (qX qP fd gG (ZG D)) (ZD (qX qP fd (qaj p) (zr (zW D) p bs))) (ZB p D bs) (sigF_lt D hD) (sigS_lt D hD) (qaP _)
  (fun w => cut_any D hD w) (fun w => (gr_of p hp w).mono fun e w' ⟨X, Y, Z, T, h1, h2, h3⟩ => ⟨(X, Y, Z, T), h1, h2, h3⟩)
  (fun w v hr => by unfold zr; exact ZR w v _ hr (by rw [List.length_append, List.length_append, qo, qo]; omega))
  (fun X Y Z T h w => rg (qcs X Y Z T (ZG D) gG h (sigS_lt D hD) w)) (fun X Y Z T h w => rg (gr_turned X Y Z T (qaj p) h w))
  (fun X Y Z T h w => by rw [← hneg]; exact rg (qcs X Y Z T _ (ZD (qaj p)) h hH w)) (fun X Y Z T h1 X2 Y2 Z2 T2 h2 w => by unfold ZB; exact rg (gr_plus X Y Z T X2 Y2 Z2 T2 _ _ h1 h2 w)) (fun X Y Z T h w => gr_key X Y Z T _ h w)
 unfold Zi; exact h0
end
section
open Go.ChangeShapes Go.WideShapes Go.ChangeAt Go.RowKit Go.Sx
abbrev TSgd : Nat := 80
theorem cellsWide : Try.prog.cellsOf 74 = 64 := by kernel_rfl
theorem cellsSgd : Try.prog.cellsOf TSgd = 97 := by kernel_rfl
theorem cellsBs : Try.prog.cellsOf 22 = 1 := by kernel_rfl
theorem split3 {α : Type} (l : List α) (h : l.length = 97) : l = l.take 32 ++ ((l.drop 32).take 64 ++ (l.drop 96).take 1) := by
 have e1 : l.drop 32 = (l.drop 32).take 64 ++ l.drop 96 := by
  have := (List.take_append_drop 64 (l.drop 32)).symm
  rwa [List.drop_drop] at this
 have e2 : (l.drop 96).take 1 = l.drop 96 := List.take_of_length_le (by simp [h])
 rw [e2, ← e1, List.take_append_drop]
section
variable {H : Type} {enc : TypeId × Value → H} {w : World} {base : Nat} {spare : Nat → Bool} {held : Bool}
theorem open_rdc {fuel : Nat} {cs : List Value} {x : DataW H × List MemPlace} (h : DataW.trod enc Try.prog w base spare held fuel 22 cs = some x) : ∃ v bs, cs = [v] ∧ bs.length ≤ maxLen ∧ Rd w v (Lib.byteCells bs) := by
 rcases open_ints Try.underlying22 Try.underlying5 cellsU8 h with ⟨hcs, hx⟩ | ⟨a, len, cap, zs, hcs, _, hl, hm, hz, hx, hcell, hwz⟩
 · exact ⟨_, [], hcs, Nat.zero_le _, none, 0, rfl, fun h => absurd rfl h⟩
 · have hlz : len ≤ zs.length := by rw [hz]; split <;> omega
   obtain ⟨bs, hbs, hd⟩ := qdh (fun i => zs.getD i 0) len (fun i hi => by
    have hmem : zs.getD i 0 ∈ zs := by
     have : zs.getD i 0 = zs[i]'(by omega) := by simp [List.getD, show i < zs.length by omega]
     rw [this]; exact List.getElem_mem _
    have := bounds_u8 (hwz _ hmem)
    omega)
   refine ⟨_, bs, hcs, by omega, some a, cap, by rw [Lib.byteCells_length, hbs], fun hne => ?_⟩
   have hpos : 0 < len := by
    rcases Nat.eq_zero_or_pos len with h0 | h0
    · rw [h0] at hbs; rw [List.eq_nil_of_length_eq_zero hbs] at hne; exact absurd rfl hne
    · exact h0
   have h0 := hcell 0 (by omega)
   obtain ⟨b, o, sp⟩ := a
   obtain rfl : sp = none := by have := World.cell?_spot h0; simpa [Addr.add] using this
   refine ⟨b, o, rfl, World.block_lt_of_cell? w _ h0, fun j u hu => ?_⟩
   have hj : j < len := by have := (List.getElem?_eq_some_iff.1 hu).1; rw [Lib.byteCells_length] at this; omega
   rw [hd j hj] at hu
   rw [← QP, hcell j (by omega)]; exact hu
theorem open_signed {r : Reach} {b0 : Nat} {v : Value} {d : DataW H} {p : List MemPlace}
 (hv : Value.okWide Try.prog w r b0 TSgd v) (h : DataW.Trod enc Try.prog w base spare held TSgd v d p) :
 ∃ (n : Nat) (D : List UInt8) (u : Value) (bs : List UInt8), n < 115792089237316195423570985008687907853269984665640564039457584007913129639936 ∧ D.length = 64 ∧ bs.length ≤ maxLen ∧ Rd w u (Lib.byteCells bs) ∧ v = .agg ((k32 n).toList ++ (Lib.byteCells D ++ [u])).toArray := by
 obtain ⟨cs, rfl, hsz⟩ := qcW (.inr ⟨_, Try.underlying80⟩) hv
 rw [cellsSgd] at hsz
 obtain ⟨fuel, hf⟩ := h
 have hcs : (Value.agg cs).cells = cs := by simp [Value.cells]
 rw [hcs] at hf
 obtain ⟨xs, k, _, _, hlen, hxl, hfs⟩ := DataW.trod_struct Try.underlying80 hf
 match xs, hxl with
 | [y0, y1, y2], _ =>
  have g0 : DataW.trod enc Try.prog w base spare held k 24 ((cs.toList.drop 0).take (Try.prog.cellsOf 24)) = some y0 := hfs 0 _ rfl
  have g1 : DataW.trod enc Try.prog w base spare held k 74 ((cs.toList.drop 32).take (Try.prog.cellsOf 74)) = some y1 := hfs 1 _ rfl
  have g2 : DataW.trod enc Try.prog w base spare held k 22 ((cs.toList.drop 96).take (Try.prog.cellsOf 22)) = some y2 := hfs 2 _ rfl
  rw [cellsKey, List.drop_zero] at g0
  rw [cellsWide] at g1
  rw [cellsBs] at g2
  obtain ⟨b1, l1, e1⟩ := qav (n := 32) Try.underlying24 (by simp [hsz]) g0
  obtain ⟨D, l2, e2⟩ := qav (n := 64) Try.underlying74 (by simp [hsz]) g1
  obtain ⟨u, bs, e3, hm, hrd⟩ := open_rdc g2
  refine ⟨leN b1, D, u, bs, ?_, l2, hm, hrd, ?_⟩
  · have := qaw b1
    rw [l1] at this
    exact this
  · congr 1
    apply Array.ext'
    show cs.toList = (k32 (leN b1)).toList ++ (Lib.byteCells D ++ [u])
    rw [← Q9 b1 l1]
    show cs.toList = Lib.byteCells b1 ++ (Lib.byteCells D ++ [u])
    rw [← e1, ← e2, ← e3]
    exact split3 _ (by simp [hsz])
end
end
section
open Go.RowKit Go.Sx
def sgdC (n : Nat) (D : List UInt8) (u : Value) : Array Value := ((k32 n).toList ++ (Lib.byteCells D ++ [u])).toArray
theorem sgd_key (n : Nat) (D : List UInt8) (u : Value) : (sgdC n D u).extract 0 (0 + 32) = k32 n := by
 have h := qf n
 apply Array.ext'
 unfold sgdC
 rw [List.extract_toArray, List.extract_eq_take_drop]
 simp only [List.drop_zero]
 exact List.take_left' (by simpa using h)
theorem sgd_wide (n : Nat) (D : List UInt8) (u : Value) (hD : D.length = 64) : (sgdC n D u).extract 32 (32 + 64) = (Lib.byteCells D).toArray := by
 have h := qf n
 apply Array.ext'
 unfold sgdC
 rw [List.extract_toArray, List.extract_eq_take_drop, List.drop_left' (by simpa using h)]
 exact List.take_left' (by rw [Lib.byteCells_length, hD])
theorem sgd_text (n : Nat) (D : List UInt8) (u : Value) (hD : D.length = 64) : (sgdC n D u)[96]? = some u := by
 have h : (k32 n).toList.length = 32 := by simpa using qf n
 have h2 : (Lib.byteCells D).length = 64 := by rw [Lib.byteCells_length, hD]
 unfold sgdC
 rw [List.getElem?_toArray, List.getElem?_append_right (by omega), List.getElem?_append_right (by omega), h, h2]
 rfl
theorem rightL_core (n : Nat) (D : List UInt8) (hD : D.length = 64) (u : Value) (bs : List UInt8) (rb : Bool) (w : World) (hr : Rd w u (Lib.byteCells bs))
 (h1 : bs.length ≤ 1000 → ∀ w v, Parts w v bs → Calls Try.prog 67 ([.agg (k32 n), Qr D, v] : List Value).toArray w fun e w' => e = .returned (.bool rb) ∧ Below w.heap.size w w')
 (h2 : bs.length ≤ 1000 → ∀ w v, Rd w v (Lib.byteCells bs) → Calls Try.prog 68 ([.agg (k32 n), Qr D, v] : List Value).toArray w fun e w' => e = .returned (.bool rb) ∧ Below w.heap.size w w') :
 Calls Try.prog 19 ([.agg (sgdC n D u)] : List Value).toArray w fun e w' => e = .returned (.bool true) ∧ Below w.heap.size w w' := by
 have hr0 := hr
 obtain ⟨ua, uc, hu, _⟩ := hr0
 rw [Lib.byteCells_length] at hu
 have c1 := sgd_key n D u
 have c2 := sgd_wide n D u hD
 have c3 := sgd_text n D u hD
 have hDc : (Lib.byteCells D).toArray.size = 64 := by rw [List.size_toArray, Lib.byteCells_length, hD]
 subst hu
 generalize sgdC n D (.slice ua bs.length uc) = cc at c1 c2 c3 ⊢
 refine q9 qi Try.func19 rfl Try.ntmps19 rfl (St.start w) ?_
 intro b1
 refine cv (fun w => Za w) ?_
 refine cf rfl ?_
 refine ld1 0 rfl (v := .slice ua bs.length uc) c3 ?_
 refine cd (fun h => ?_) (fun h => ?_)
 · exact rt rfl
 have hl : bs.length ≤ 1000 := by omega
 refine drs [cl b1 cc 80] [] (.t 0 (.t 1 (.t 2 (.t 3 (.t 4 (.t 5 (.t 8 (.t 9 (.t 10 (.t 11 (.t 12 (.t 13 (.n 6 (.n 7 (.n 14 (.t 15 (.t 16 .nil))))))))))))))))) qi qq (by kernel_rfl) (.cons .nil) ?_
 refine ldP 0 rfl (qf _) c1 ?_
 refine ldP 0 rfl hDc c2 ?_
 refine ld1 0 rfl (v := .slice ua bs.length uc) c3 ?_
 refine ldP 0 rfl (qf _) c1 ?_
 refine ldP 0 rfl hDc c2 ?_
 refine ld1 0 rfl (v := .slice ua bs.length uc) c3 ?_
 refine .mk #[.slice ua bs.length uc] 22 (fun w => Zw _ _ _ w) (fun bn => ?_)
 refine ⟨.cons .nil, ?_⟩
 refine cvs (fun w' hs => h1 hl w' _ (Parts.made hs 1 [Lib.byteCells bs] 1 rfl rfl rfl (by simp) (fun i x xs hx hy => qbV (hr.below hs.below) hx hy) (by simp))) ?_
 refine ⟨.cons .nil, ?_⟩
 refine cvs (fun w' hs => h2 hl w' _ (hr.below hs.below)) ?_
 refine ⟨.cons .nil, ?_⟩
 exact rt (by cases rb <;> rfl)
theorem qdr (n : Nat) (hn : n < 115792089237316195423570985008687907853269984665640564039457584007913129639936) (D : List UInt8) (hD : D.length = 64) (u : Value) (bs : List UInt8) (w : World) (hr : Rd w u (Lib.byteCells bs)) :
 Calls Try.prog 19 ([.agg ((k32 n).toList ++ (Lib.byteCells D ++ [u])).toArray] : List Value).toArray w fun e w' => e = .returned (.bool true) ∧ Below w.heap.size w w' :=
 rightL_core n D hD u bs (Zi n D bs) w hr (fun h w v hp => zC n hn D hD v bs w hp (by omega)) (fun h w v hr => qa8 n hn D hD v bs w hr (by omega))
end
end Go.Proofs.Ytjiagjonlcadiaa
