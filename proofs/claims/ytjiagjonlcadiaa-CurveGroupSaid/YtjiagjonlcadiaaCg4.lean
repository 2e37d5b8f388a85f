/- Chapter 04: points are a group, without the document's answer. For all three keys the law returns true. -/
import Derived.Test.YtjiagjonlcadiaaCg3
section
namespace Go.Proofs.Ytjiagjonlcadiaa
open Go.RowKit Go.Lib

theorem r_mul (m x y X Y R : Nat) (hm : m % PP = x * y % PP) (hx : x % PP = X) (hy : y % PP = Y) (hR : R = X * Y % PP) : m % PP = R := by
  rw [hm, hR, ← hx, ← hy, ← Nat.mul_mod]
theorem r_add (m x y X Y R : Nat) (hm : m % PP = (x + y) % PP) (hx : x % PP = X) (hy : y % PP = Y) (hR : R = (X + Y) % PP) : m % PP = R := by
  rw [hm, hR, ← hx, ← hy, ← Nat.add_mod]
theorem r_sub (m x y X Y R : Nat) (hm : m % PP = (x % PP + (PP - y % PP)) % PP) (hx : x % PP = X) (hy : y % PP = Y) (hR : R = (X + (PP - Y)) % PP) : m % PP = R := by
  rw [hm, hR, ← hx, ← hy]
/-- the program's sum of two points, as residues -/
def padd (D X1 Y1 Z1 X2 Y2 Z2 : Nat) : Nat × Nat × Nat :=
  let A := Z1 * Z2 % PP
  let XX := X1 * X2 % PP
  let YY := Y1 * Y2 % PP
  let B := A * A % PP
  let E1 := D * XX % PP
  let E := E1 * YY % PP
  let F := (B + (PP - E)) % PP
  let G := (B + E) % PP
  let S1 := (X1 + Y1) % PP
  let S2 := (X2 + Y2) % PP
  let S3 := S1 * S2 % PP
  let S4 := (S3 + (PP - XX)) % PP
  let CR := (S4 + (PP - YY)) % PP
  let T1 := A * F % PP
  let T2 := A * G % PP
  let T3 := (YY + XX) % PP
  (T1 * CR % PP, T2 * T3 % PP, F * G % PP)
theorem padd_def (D X1 Y1 Z1 X2 Y2 Z2 A XX YY Bq E1 E F G S1 S2 S3 S4 CR T1 T2 T3 X3 Y3 Z3 : Nat) (hA : A = Z1 * Z2 % PP) (hXX : XX = X1 * X2 % PP) (hYY : YY = Y1 * Y2 % PP) (hBq : Bq = A * A % PP) (hE1 : E1 = D * XX % PP) (hE : E = E1 * YY % PP) (hF : F = (Bq + (PP - E)) % PP) (hG : G = (Bq + E) % PP) (hS1 : S1 = (X1 + Y1) % PP) (hS2 : S2 = (X2 + Y2) % PP) (hS3 : S3 = S1 * S2 % PP) (hS4 : S4 = (S3 + (PP - XX)) % PP) (hCR : CR = (S4 + (PP - YY)) % PP) (hT1 : T1 = A * F % PP) (hT2 : T2 = A * G % PP) (hT3 : T3 = (YY + XX) % PP) (hX3 : X3 = T1 * CR % PP) (hY3 : Y3 = T2 * T3 % PP) (hZ3 : Z3 = F * G % PP) : padd D X1 Y1 Z1 X2 Y2 Z2 = (X3, Y3, Z3) := by
  unfold padd
  rw [hX3, hY3, hZ3, hT1, hT2, hT3, hCR, hS4, hS3, hS1, hS2, hF, hG, hE, hE1, hBq, hA, hXX, hYY]

set_option maxRecDepth 100000 in
set_option linter.unusedSimpArgs false in
set_option maxHeartbeats 16000000 in
theorem add_of (d D : Nat) (hd : d < 115792089237316195423570985008687907853269984665640564039457584007913129639936) (hdD : d % PP = D) (x1 y1 c1 : Nat) (b1 : Bool) (X1 Y1 Z1 : Nat) (p1 : IsPt x1 y1 c1 b1 X1 Y1 Z1) (x2 y2 c2 : Nat) (b2 : Bool) (X2 Y2 Z2 : Nat) (p2 : IsPt x2 y2 c2 b2 X2 Y2 Z2) (w : World) :
    Calls Try.prog 92 #[.agg (e4 d), .agg (pt x1 y1 c1 b1), .agg (pt x2 y2 c2 b2)] w (PtP (padd D X1 Y1 Z1 X2 Y2 Z2).1 (padd D X1 Y1 Z1 X2 Y2 Z2).2.1 (padd D X1 Y1 Z1 X2 Y2 Z2).2.2 w) := by
  have hpl1 := fun w => plain_any x1 y1 c1 b1 X1 Y1 Z1 p1 w
  have hpl2 := fun w => plain_any x2 y2 c2 b2 X2 Y2 Z2 p2 w
  have ht := times_any
  have hp := plus_any
  have hmi := minus_any
  have hmd := made_any
  obtain ⟨A, hA⟩ : ∃ v, v = Z1 * Z2 % PP := ⟨_, rfl⟩
  obtain ⟨XX, hXX⟩ : ∃ v, v = X1 * X2 % PP := ⟨_, rfl⟩
  obtain ⟨YY, hYY⟩ : ∃ v, v = Y1 * Y2 % PP := ⟨_, rfl⟩
  obtain ⟨Bq, hBq⟩ : ∃ v, v = A * A % PP := ⟨_, rfl⟩
  obtain ⟨E1, hE1⟩ : ∃ v, v = D * XX % PP := ⟨_, rfl⟩
  obtain ⟨E, hE⟩ : ∃ v, v = E1 * YY % PP := ⟨_, rfl⟩
  obtain ⟨F, hF⟩ : ∃ v, v = (Bq + (PP - E)) % PP := ⟨_, rfl⟩
  obtain ⟨G, hG⟩ : ∃ v, v = (Bq + E) % PP := ⟨_, rfl⟩
  obtain ⟨S1, hS1⟩ : ∃ v, v = (X1 + Y1) % PP := ⟨_, rfl⟩
  obtain ⟨S2, hS2⟩ : ∃ v, v = (X2 + Y2) % PP := ⟨_, rfl⟩
  obtain ⟨S3, hS3⟩ : ∃ v, v = S1 * S2 % PP := ⟨_, rfl⟩
  obtain ⟨S4, hS4⟩ : ∃ v, v = (S3 + (PP - XX)) % PP := ⟨_, rfl⟩
  obtain ⟨CR, hCR⟩ : ∃ v, v = (S4 + (PP - YY)) % PP := ⟨_, rfl⟩
  obtain ⟨T1, hT1⟩ : ∃ v, v = A * F % PP := ⟨_, rfl⟩
  obtain ⟨T2, hT2⟩ : ∃ v, v = A * G % PP := ⟨_, rfl⟩
  obtain ⟨T3, hT3⟩ : ∃ v, v = (YY + XX) % PP := ⟨_, rfl⟩
  obtain ⟨X3, hX3⟩ : ∃ v, v = T1 * CR % PP := ⟨_, rfl⟩
  obtain ⟨Y3, hY3⟩ : ∃ v, v = T2 * T3 % PP := ⟨_, rfl⟩
  obtain ⟨Z3, hZ3⟩ : ∃ v, v = F * G % PP := ⟨_, rfl⟩
  have hpd := padd_def D X1 Y1 Z1 X2 Y2 Z2 A XX YY Bq E1 E F G S1 S2 S3 S4 CR T1 T2 T3 X3 Y3 Z3 hA hXX hYY hBq hE1 hE hF hG hS1 hS2 hS3 hS4 hCR hT1 hT2 hT3 hX3 hY3 hZ3
  rw [hpd]
  clear hpd p1 p2
  have Hpl1 := Lib.hid hpl1; clear hpl1
  have Hpl2 := Lib.hid hpl2; clear hpl2
  have Ht := Lib.hid ht; clear ht
  have Hp := Lib.hid hp; clear hp
  have Hmi := Lib.hid hmi; clear hmi
  have Hmd := Lib.hid hmd; clear hmd
  have HdD := Lib.hid hdD; clear hdD
  have DA := Lib.hid hA; clear hA
  have DXX := Lib.hid hXX; clear hXX
  have DYY := Lib.hid hYY; clear hYY
  have DBq := Lib.hid hBq; clear hBq
  have DE1 := Lib.hid hE1; clear hE1
  have DE := Lib.hid hE; clear hE
  have DF := Lib.hid hF; clear hF
  have DG := Lib.hid hG; clear hG
  have DS1 := Lib.hid hS1; clear hS1
  have DS2 := Lib.hid hS2; clear hS2
  have DS3 := Lib.hid hS3; clear hS3
  have DS4 := Lib.hid hS4; clear hS4
  have DCR := Lib.hid hCR; clear hCR
  have DT1 := Lib.hid hT1; clear hT1
  have DT2 := Lib.hid hT2; clear hT2
  have DT3 := Lib.hid hT3; clear hT3
  have DX3 := Lib.hid hX3; clear hX3
  have DY3 := Lib.hid hY3; clear hY3
  have DZ3 := Lib.hid hZ3; clear hZ3
  go_enter Try.func92, Try.ntmps92
  repeat ((fail_if_success (with_reducible (show wpList _ _ _ _ _ _))); go_step)
  iterate 4 (refine wpList_step (fun K hK => ?_); go_simp; (try go_bits); refine hK _ _ ?_; clear hK K)
  refine wpList_nil ?_
  have M3 := Lib.hid ((((Has.new w  (e4 d) 110).alloc (.cells (pt x1 y1 c1 b1) 53)).alloc (.cells (pt x2 y2 c2 b2) 53)).alloc (.cells (#[.int .u64 0, .int .u64 0, .int .u64 0, .int .u64 0, .int .u64 0, .int .u64 0, .int .u64 0, .int .u64 0, .int .u64 0, .int .u64 0, .int .u64 0, .int .u64 0, .bool false] : Array Value) 53))
  have M4 := Lib.hid (((Has.new1 w (.cells (e4 d) 110) (pt x1 y1 c1 b1) 53).alloc (.cells (pt x2 y2 c2 b2) 53)).alloc (.cells (#[.int .u64 0, .int .u64 0, .int .u64 0, .int .u64 0, .int .u64 0, .int .u64 0, .int .u64 0, .int .u64 0, .int .u64 0, .int .u64 0, .int .u64 0, .int .u64 0, .bool false] : Array Value) 53))
  have M5 := Lib.hid ((Has.new2 w (.cells (e4 d) 110) (.cells (pt x1 y1 c1 b1) 53) (pt x2 y2 c2 b2) 53).alloc (.cells (#[.int .u64 0, .int .u64 0, .int .u64 0, .int .u64 0, .int .u64 0, .int .u64 0, .int .u64 0, .int .u64 0, .int .u64 0, .int .u64 0, .int .u64 0, .int .u64 0, .bool false] : Array Value) 53))
  have M6 := Lib.hid (HasN.new3 w (.cells (e4 d) 110) (.cells (pt x1 y1 c1 b1) 53) (.cells (pt x2 y2 c2 b2) 53) (#[.int .u64 0, .int .u64 0, .int .u64 0, .int .u64 0, .int .u64 0, .int .u64 0, .int .u64 0, .int .u64 0, .int .u64 0, .int .u64 0, .int .u64 0, .int .u64 0, .bool false] : Array Value) 53 13 (by kernel_rfl))
  have HB := Lib.hid (below_4 w (.cells (e4 d) 110) (.cells (pt x1 y1 c1 b1) 53) (.cells (pt x2 y2 c2 b2) 53) (.cells (#[.int .u64 0, .int .u64 0, .int .u64 0, .int .u64 0, .int .u64 0, .int .u64 0, .int .u64 0, .int .u64 0, .int .u64 0, .int .u64 0, .int .u64 0, .int .u64 0, .bool false] : Array Value) 53))
  obtain ⟨yw1, hwyw1⟩ : ∃ ww, ww = ((((w.alloc (.cells (e4 d) 110)).alloc (.cells (pt x1 y1 c1 b1) 53)).alloc (.cells (pt x2 y2 c2 b2) 53)).alloc (.cells (#[.int .u64 0, .int .u64 0, .int .u64 0, .int .u64 0, .int .u64 0, .int .u64 0, .int .u64 0, .int .u64 0, .int .u64 0, .int .u64 0, .int .u64 0, .int .u64 0, .bool false] : Array Value) 53)) := ⟨_, rfl⟩
  rw [← hwyw1] at M3 M4 M5 M6 HB ⊢
  clear hwyw1
  repeat ((fail_if_success (with_reducible (show wpList _ _ _ _ _ _))); go_step)
  refine wpList_load (by rfl) 53 _ rfl (w.heap.size + 1) rfl 53 (pt x1 y1 c1 b1) M4.out Try.underlying53 rfl (by rw [pt_size]; kernel_rfl) 22 rfl ?_
  (try simp only [Act.put, sI, sS, sZ])
  refine wpList_call (by rfl) rfl rfl (by rfl) ent90 (by rfl) (Hpl1.out _) 23 rfl ?_
  rintro e uw1 ⟨u, s, t, ⟨hu, hs, ht⟩, ⟨hur, hsr, htr⟩, rfl, hb⟩
  replace M3 := Lib.hid (M3.out.call hb)
  replace M4 := Lib.hid (M4.out.call hb)
  replace M5 := Lib.hid (M5.out.call hb)
  replace M6 := Lib.hid (M6.out.call hb)
  replace HB := Lib.hid (held_next HB.out hb)
  refine ⟨_, rfl, ?_⟩
  clear hb
  (try simp only [Act.put, sI, sS, sZ])
  iterate 4 (refine wpList_step (fun K hK => ?_); go_simp; (try go_bits); refine hK _ _ ?_; clear hK K)
  refine wpList_alloc (by rfl) 36 rfl _ al36 7 rfl ?_
  intro yw2 hw2
  have hlt3 := M3.out.lt
  have hlt4 := M4.out.lt
  have hlt5 := M5.out.lt
  have hlt6 := M6.out.lt
  have hsz := HB.out.size
  replace M3 := Lib.hid (M3.out.alloc (.cells z36 36))
  replace M4 := Lib.hid (M4.out.alloc (.cells z36 36))
  replace M5 := Lib.hid (M5.out.alloc (.cells z36 36))
  replace M6 := Lib.hid (M6.out.alloc (.cells z36 36))
  have M7 := Lib.hid (HasN.new uw1 z36 36 4 (by kernel_rfl))
  replace HB := Lib.hid (HB.out.alloc hsz (.cells z36 36))
  rw [← hw2] at M3 M4 M5 M6 M7 HB; clear hw2
  (try simp only [Act.put, sI, sS, sZ])
  refine wpList_alloc (by rfl) 36 rfl _ al36 8 rfl ?_
  intro yw7 hw2
  have hlt8 := M3.out.lt
  have hlt9 := M4.out.lt
  have hlt10 := M5.out.lt
  have hlt11 := M6.out.lt
  have hlt12 := M7.out.lt
  have hsz := HB.out.size
  replace M3 := Lib.hid (M3.out.alloc (.cells z36 36))
  replace M4 := Lib.hid (M4.out.alloc (.cells z36 36))
  replace M5 := Lib.hid (M5.out.alloc (.cells z36 36))
  replace M6 := Lib.hid (M6.out.alloc (.cells z36 36))
  replace M7 := Lib.hid (M7.out.alloc (.cells z36 36))
  have M8 := Lib.hid (HasN.new yw2 z36 36 4 (by kernel_rfl))
  replace HB := Lib.hid (HB.out.alloc hsz (.cells z36 36))
  rw [← hw2] at M3 M4 M5 M6 M7 M8 HB; clear hw2
  (try simp only [Act.put, sI, sS, sZ])
  refine wpList_alloc (by rfl) 36 rfl _ al36 9 rfl ?_
  intro yw13 hw2
  have hlt14 := M3.out.lt
  have hlt15 := M4.out.lt
  have hlt16 := M5.out.lt
  have hlt17 := M6.out.lt
  have hlt18 := M7.out.lt
  have hlt19 := M8.out.lt
  have hsz := HB.out.size
  replace M3 := Lib.hid (M3.out.alloc (.cells z36 36))
  replace M4 := Lib.hid (M4.out.alloc (.cells z36 36))
  replace M5 := Lib.hid (M5.out.alloc (.cells z36 36))
  replace M6 := Lib.hid (M6.out.alloc (.cells z36 36))
  replace M7 := Lib.hid (M7.out.alloc (.cells z36 36))
  replace M8 := Lib.hid (M8.out.alloc (.cells z36 36))
  have M9 := Lib.hid (HasN.new yw7 z36 36 4 (by kernel_rfl))
  replace HB := Lib.hid (HB.out.alloc hsz (.cells z36 36))
  rw [← hw2] at M3 M4 M5 M6 M7 M8 M9 HB; clear hw2
  (try simp only [Act.put, sI, sS, sZ])
  first | (obtain ⟨Zq, hZ, mZ⟩ := M7.out) | (obtain ⟨Zq, hZ, mZ⟩ := M7.out.toN (e4_size ..))
  refine wpList_store2 (by rfl) 36 _ _ rfl rfl (uw1.heap.size) (e4 u) rfl rfl 36 Zq mZ (by rw [e4_size]; kernel_rfl) (hZ.trans (e4_size ..).symm) (row_one _ _ _) ?_
  intro yw20 hw2
  replace M3 := Lib.hid (M3.out.setRow_other (uw1.heap.size) (e4 u) (by omega))
  replace M4 := Lib.hid (M4.out.setRow_other (uw1.heap.size) (e4 u) (by omega))
  replace M5 := Lib.hid (M5.out.setRow_other (uw1.heap.size) (e4 u) (by omega))
  replace M6 := Lib.hid (M6.out.setRow_other (uw1.heap.size) (e4 u) (by omega))
  replace M8 := Lib.hid (M8.out.setRow_other (uw1.heap.size) (e4 u) (by omega))
  replace M9 := Lib.hid (M9.out.setRow_other (uw1.heap.size) (e4 u) (by omega))
  replace M7 := Lib.hid (mZ.setRow (e4 u))
  replace HB := Lib.hid (below_setRow HB.out (uw1.heap.size) (e4 u) (by omega))
  rw [← hw2] at M3 M4 M5 M6 M8 M9 M7 HB; clear mZ hZ hw2
  first | (obtain ⟨Zq, hZ, mZ⟩ := M8.out) | (obtain ⟨Zq, hZ, mZ⟩ := M8.out.toN (e4_size ..))
  refine wpList_store2 (by rfl) 36 _ _ rfl rfl (yw2.heap.size) (e4 s) rfl rfl 36 Zq mZ (by rw [e4_size]; kernel_rfl) (hZ.trans (e4_size ..).symm) (row_one _ _ _) ?_
  intro yw21 hw2
  replace M3 := Lib.hid (M3.out.setRow_other (yw2.heap.size) (e4 s) (by omega))
  replace M4 := Lib.hid (M4.out.setRow_other (yw2.heap.size) (e4 s) (by omega))
  replace M5 := Lib.hid (M5.out.setRow_other (yw2.heap.size) (e4 s) (by omega))
  replace M6 := Lib.hid (M6.out.setRow_other (yw2.heap.size) (e4 s) (by omega))
  replace M7 := Lib.hid (M7.out.setRow_other (yw2.heap.size) (e4 s) (by omega))
  replace M9 := Lib.hid (M9.out.setRow_other (yw2.heap.size) (e4 s) (by omega))
  replace M8 := Lib.hid (mZ.setRow (e4 s))
  replace HB := Lib.hid (below_setRow HB.out (yw2.heap.size) (e4 s) (by omega))
  rw [← hw2] at M3 M4 M5 M6 M7 M9 M8 HB; clear mZ hZ hw2
  first | (obtain ⟨Zq, hZ, mZ⟩ := M9.out) | (obtain ⟨Zq, hZ, mZ⟩ := M9.out.toN (e4_size ..))
  refine wpList_store2 (by rfl) 36 _ _ rfl rfl (yw7.heap.size) (e4 t) rfl rfl 36 Zq mZ (by rw [e4_size]; kernel_rfl) (hZ.trans (e4_size ..).symm) (row_one _ _ _) ?_
  intro yw22 hw2
  replace M3 := Lib.hid (M3.out.setRow_other (yw7.heap.size) (e4 t) (by omega))
  replace M4 := Lib.hid (M4.out.setRow_other (yw7.heap.size) (e4 t) (by omega))
  replace M5 := Lib.hid (M5.out.setRow_other (yw7.heap.size) (e4 t) (by omega))
  replace M6 := Lib.hid (M6.out.setRow_other (yw7.heap.size) (e4 t) (by omega))
  replace M7 := Lib.hid (M7.out.setRow_other (yw7.heap.size) (e4 t) (by omega))
  replace M8 := Lib.hid (M8.out.setRow_other (yw7.heap.size) (e4 t) (by omega))
  replace M9 := Lib.hid (mZ.setRow (e4 t))
  replace HB := Lib.hid (below_setRow HB.out (yw7.heap.size) (e4 t) (by omega))
  rw [← hw2] at M3 M4 M5 M6 M7 M8 M9 HB; clear mZ hZ hw2
  refine wpList_nil ?_
  have Hur := Lib.hid hur; clear hur
  have Hsr := Lib.hid hsr; clear hsr
  have Htr := Lib.hid htr; clear htr
  clear M4
  repeat ((fail_if_success (with_reducible (show wpList _ _ _ _ _ _))); go_step)
  refine wpList_load (by rfl) 53 _ rfl (w.heap.size + 1 + 1) rfl 53 (pt x2 y2 c2 b2) M5.out Try.underlying53 rfl (by rw [pt_size]; kernel_rfl) 28 rfl ?_
  (try simp only [Act.put, sI, sS, sZ])
  refine wpList_call (by rfl) rfl rfl (by rfl) ent90 (by rfl) (Hpl2.out _) 29 rfl ?_
  rintro e uw2 ⟨u2, s2, t2, ⟨hu2, hs2, ht2⟩, ⟨hu2r, hs2r, ht2r⟩, rfl, hb⟩
  replace M3 := Lib.hid (M3.out.call hb)
  replace M5 := Lib.hid (M5.out.call hb)
  replace M6 := Lib.hid (M6.out.call hb)
  replace M7 := Lib.hid (M7.out.call hb)
  replace M8 := Lib.hid (M8.out.call hb)
  replace M9 := Lib.hid (M9.out.call hb)
  replace HB := Lib.hid (held_next HB.out hb)
  refine ⟨_, rfl, ?_⟩
  clear hb
  (try simp only [Act.put, sI, sS, sZ])
  iterate 4 (refine wpList_step (fun K hK => ?_); go_simp; (try go_bits); refine hK _ _ ?_; clear hK K)
  refine wpList_alloc (by rfl) 36 rfl _ al36 10 rfl ?_
  intro yw23 hw2
  have hlt24 := M3.out.lt
  have hlt25 := M5.out.lt
  have hlt26 := M6.out.lt
  have hlt27 := M7.out.lt
  have hlt28 := M8.out.lt
  have hlt29 := M9.out.lt
  have hsz := HB.out.size
  replace M3 := Lib.hid (M3.out.alloc (.cells z36 36))
  replace M5 := Lib.hid (M5.out.alloc (.cells z36 36))
  replace M6 := Lib.hid (M6.out.alloc (.cells z36 36))
  replace M7 := Lib.hid (M7.out.alloc (.cells z36 36))
  replace M8 := Lib.hid (M8.out.alloc (.cells z36 36))
  replace M9 := Lib.hid (M9.out.alloc (.cells z36 36))
  have M10 := Lib.hid (HasN.new uw2 z36 36 4 (by kernel_rfl))
  replace HB := Lib.hid (HB.out.alloc hsz (.cells z36 36))
  rw [← hw2] at M3 M5 M6 M7 M8 M9 M10 HB; clear hw2
  (try simp only [Act.put, sI, sS, sZ])
  refine wpList_alloc (by rfl) 36 rfl _ al36 11 rfl ?_
  intro yw30 hw2
  have hlt31 := M3.out.lt
  have hlt32 := M5.out.lt
  have hlt33 := M6.out.lt
  have hlt34 := M7.out.lt
  have hlt35 := M8.out.lt
  have hlt36 := M9.out.lt
  have hlt37 := M10.out.lt
  have hsz := HB.out.size
  replace M3 := Lib.hid (M3.out.alloc (.cells z36 36))
  replace M5 := Lib.hid (M5.out.alloc (.cells z36 36))
  replace M6 := Lib.hid (M6.out.alloc (.cells z36 36))
  replace M7 := Lib.hid (M7.out.alloc (.cells z36 36))
  replace M8 := Lib.hid (M8.out.alloc (.cells z36 36))
  replace M9 := Lib.hid (M9.out.alloc (.cells z36 36))
  replace M10 := Lib.hid (M10.out.alloc (.cells z36 36))
  have M11 := Lib.hid (HasN.new yw23 z36 36 4 (by kernel_rfl))
  replace HB := Lib.hid (HB.out.alloc hsz (.cells z36 36))
  rw [← hw2] at M3 M5 M6 M7 M8 M9 M10 M11 HB; clear hw2
  (try simp only [Act.put, sI, sS, sZ])
  refine wpList_alloc (by rfl) 36 rfl _ al36 12 rfl ?_
  intro yw38 hw2
  have hlt39 := M3.out.lt
  have hlt40 := M5.out.lt
  have hlt41 := M6.out.lt
  have hlt42 := M7.out.lt
  have hlt43 := M8.out.lt
  have hlt44 := M9.out.lt
  have hlt45 := M10.out.lt
  have hlt46 := M11.out.lt
  have hsz := HB.out.size
  replace M3 := Lib.hid (M3.out.alloc (.cells z36 36))
  replace M5 := Lib.hid (M5.out.alloc (.cells z36 36))
  replace M6 := Lib.hid (M6.out.alloc (.cells z36 36))
  replace M7 := Lib.hid (M7.out.alloc (.cells z36 36))
  replace M8 := Lib.hid (M8.out.alloc (.cells z36 36))
  replace M9 := Lib.hid (M9.out.alloc (.cells z36 36))
  replace M10 := Lib.hid (M10.out.alloc (.cells z36 36))
  replace M11 := Lib.hid (M11.out.alloc (.cells z36 36))
  have M12 := Lib.hid (HasN.new yw30 z36 36 4 (by kernel_rfl))
  replace HB := Lib.hid (HB.out.alloc hsz (.cells z36 36))
  rw [← hw2] at M3 M5 M6 M7 M8 M9 M10 M11 M12 HB; clear hw2
  (try simp only [Act.put, sI, sS, sZ])
  first | (obtain ⟨Zq, hZ, mZ⟩ := M10.out) | (obtain ⟨Zq, hZ, mZ⟩ := M10.out.toN (e4_size ..))
  refine wpList_store2 (by rfl) 36 _ _ rfl rfl (uw2.heap.size) (e4 u2) rfl rfl 36 Zq mZ (by rw [e4_size]; kernel_rfl) (hZ.trans (e4_size ..).symm) (row_one _ _ _) ?_
  intro yw47 hw2
  replace M3 := Lib.hid (M3.out.setRow_other (uw2.heap.size) (e4 u2) (by omega))
  replace M5 := Lib.hid (M5.out.setRow_other (uw2.heap.size) (e4 u2) (by omega))
  replace M6 := Lib.hid (M6.out.setRow_other (uw2.heap.size) (e4 u2) (by omega))
  replace M7 := Lib.hid (M7.out.setRow_other (uw2.heap.size) (e4 u2) (by omega))
  replace M8 := Lib.hid (M8.out.setRow_other (uw2.heap.size) (e4 u2) (by omega))
  replace M9 := Lib.hid (M9.out.setRow_other (uw2.heap.size) (e4 u2) (by omega))
  replace M11 := Lib.hid (M11.out.setRow_other (uw2.heap.size) (e4 u2) (by omega))
  replace M12 := Lib.hid (M12.out.setRow_other (uw2.heap.size) (e4 u2) (by omega))
  replace M10 := Lib.hid (mZ.setRow (e4 u2))
  replace HB := Lib.hid (below_setRow HB.out (uw2.heap.size) (e4 u2) (by omega))
  rw [← hw2] at M3 M5 M6 M7 M8 M9 M11 M12 M10 HB; clear mZ hZ hw2
  first | (obtain ⟨Zq, hZ, mZ⟩ := M11.out) | (obtain ⟨Zq, hZ, mZ⟩ := M11.out.toN (e4_size ..))
  refine wpList_store2 (by rfl) 36 _ _ rfl rfl (yw23.heap.size) (e4 s2) rfl rfl 36 Zq mZ (by rw [e4_size]; kernel_rfl) (hZ.trans (e4_size ..).symm) (row_one _ _ _) ?_
  intro yw48 hw2
  replace M3 := Lib.hid (M3.out.setRow_other (yw23.heap.size) (e4 s2) (by omega))
  replace M5 := Lib.hid (M5.out.setRow_other (yw23.heap.size) (e4 s2) (by omega))
  replace M6 := Lib.hid (M6.out.setRow_other (yw23.heap.size) (e4 s2) (by omega))
  replace M7 := Lib.hid (M7.out.setRow_other (yw23.heap.size) (e4 s2) (by omega))
  replace M8 := Lib.hid (M8.out.setRow_other (yw23.heap.size) (e4 s2) (by omega))
  replace M9 := Lib.hid (M9.out.setRow_other (yw23.heap.size) (e4 s2) (by omega))
  replace M10 := Lib.hid (M10.out.setRow_other (yw23.heap.size) (e4 s2) (by omega))
  replace M12 := Lib.hid (M12.out.setRow_other (yw23.heap.size) (e4 s2) (by omega))
  replace M11 := Lib.hid (mZ.setRow (e4 s2))
  replace HB := Lib.hid (below_setRow HB.out (yw23.heap.size) (e4 s2) (by omega))
  rw [← hw2] at M3 M5 M6 M7 M8 M9 M10 M12 M11 HB; clear mZ hZ hw2
  first | (obtain ⟨Zq, hZ, mZ⟩ := M12.out) | (obtain ⟨Zq, hZ, mZ⟩ := M12.out.toN (e4_size ..))
  refine wpList_store2 (by rfl) 36 _ _ rfl rfl (yw30.heap.size) (e4 t2) rfl rfl 36 Zq mZ (by rw [e4_size]; kernel_rfl) (hZ.trans (e4_size ..).symm) (row_one _ _ _) ?_
  intro yw49 hw2
  replace M3 := Lib.hid (M3.out.setRow_other (yw30.heap.size) (e4 t2) (by omega))
  replace M5 := Lib.hid (M5.out.setRow_other (yw30.heap.size) (e4 t2) (by omega))
  replace M6 := Lib.hid (M6.out.setRow_other (yw30.heap.size) (e4 t2) (by omega))
  replace M7 := Lib.hid (M7.out.setRow_other (yw30.heap.size) (e4 t2) (by omega))
  replace M8 := Lib.hid (M8.out.setRow_other (yw30.heap.size) (e4 t2) (by omega))
  replace M9 := Lib.hid (M9.out.setRow_other (yw30.heap.size) (e4 t2) (by omega))
  replace M10 := Lib.hid (M10.out.setRow_other (yw30.heap.size) (e4 t2) (by omega))
  replace M11 := Lib.hid (M11.out.setRow_other (yw30.heap.size) (e4 t2) (by omega))
  replace M12 := Lib.hid (mZ.setRow (e4 t2))
  replace HB := Lib.hid (below_setRow HB.out (yw30.heap.size) (e4 t2) (by omega))
  rw [← hw2] at M3 M5 M6 M7 M8 M9 M10 M11 M12 HB; clear mZ hZ hw2
  refine wpList_nil ?_
  have Hu2r := Lib.hid hu2r; clear hu2r
  have Hs2r := Lib.hid hs2r; clear hs2r
  have Ht2r := Lib.hid ht2r; clear ht2r
  clear M5
  repeat ((fail_if_success (with_reducible (show wpList _ _ _ _ _ _))); go_step)
  refine wp_region_meet (α := Nat × Nat × Nat × Nat × Nat × Nat) (fun W0 x w' => x.2.2.2.1 < 115792089237316195423570985008687907853269984665640564039457584007913129639936 ∧ x.2.2.2.1 % PP = A ∧ x.2.2.2.2.1 < 115792089237316195423570985008687907853269984665640564039457584007913129639936 ∧ x.2.2.2.2.1 % PP = XX ∧ x.2.2.2.2.2 < 115792089237316195423570985008687907853269984665640564039457584007913129639936 ∧ x.2.2.2.2.2 % PP = YY ∧ W0.heap.size ≤ x.1 ∧ Has w' x.1 (e4 x.2.2.2.1) 36 ∧ W0.heap.size ≤ x.2.1 ∧ Has w' x.2.1 (e4 x.2.2.2.2.1) 36 ∧ W0.heap.size ≤ x.2.2.1 ∧ Has w' x.2.2.1 (e4 x.2.2.2.2.2) 36 ∧ Below W0.heap.size W0 w') (fun ac x => ((((((((((((ac.put (some 33) (.agg (e4 t))).put (some 34) (.agg (e4 t2))).put (some 35) (.agg (e4 x.2.2.2.1))).put (some 36) (.agg (e4 u))).put (some 37) (.agg (e4 u2))).put (some 38) (.agg (e4 x.2.2.2.2.1))).put (some 39) (.agg (e4 s))).put (some 40) (.agg (e4 s2))).put (some 41) (.agg (e4 x.2.2.2.2.2))).put (some 13) (.pointer (some ⟨x.1, 0, none⟩))).put (some 14) (.pointer (some ⟨x.2.1, 0, none⟩))).put (some 15) (.pointer (some ⟨x.2.2.1, 0, none⟩)))) ?_ ?_
  · intro Q' hQ'
    refine wp_region_noPanic ?_
    refine wp_region_go 99 15 #[ff,ff,ff,ff,ff,ff,ff,ff,ff,ff,ff,ff,ff,ff,ff] (by kernel_rfl) rfl rfl ?_
    intro W50 hW50
    rw [← hW50] at hQ'
    simp only [Act.put, List.setIfInBounds_toArray, List.set_cons_succ, List.set_cons_zero] at hQ'
    have HQ := Lib.hid hQ'; clear hQ'
    rw [← hW50] at M3 M6 M7 M8 M9 M10 M11 M12 HB
    clear hW50
    refine go_take2 0 33 #[tt,ff,ff,ff,ff,ff,ff,ff,ff,ff,ff,ff,ff,ff,ff] rfl rfl rfl (by kernel_rfl) (yieldsIf_load_row (by rfl) 36 _ rfl (yw7.heap.size) rfl 36 (e4 t) (fun _ h => M9.out.below h M9.out.lt) Try.underlying36 rfl (by rw [e4_size]; kernel_rfl)) ((below_dr W50)) ?_
    (try simp only [sI, sS, sZ])
    refine go_take2 1 34 #[tt,tt,ff,ff,ff,ff,ff,ff,ff,ff,ff,ff,ff,ff,ff] rfl rfl rfl (by kernel_rfl) (yieldsIf_load_row (by rfl) 36 _ rfl (yw30.heap.size) rfl 36 (e4 t2) (fun _ h => M12.out.below h M12.out.lt) Try.underlying36 rfl (by rw [e4_size]; kernel_rfl)) ((below_dr W50)) ?_
    (try simp only [sI, sS, sZ])
    refine go_take2 3 36 #[tt,tt,ff,tt,ff,ff,ff,ff,ff,ff,ff,ff,ff,ff,ff] rfl rfl rfl (by kernel_rfl) (yieldsIf_load_row (by rfl) 36 _ rfl (uw1.heap.size) rfl 36 (e4 u) (fun _ h => M7.out.below h M7.out.lt) Try.underlying36 rfl (by rw [e4_size]; kernel_rfl)) ((below_dr W50)) ?_
    (try simp only [sI, sS, sZ])
    refine go_take2 4 37 #[tt,tt,ff,tt,tt,ff,ff,ff,ff,ff,ff,ff,ff,ff,ff] rfl rfl rfl (by kernel_rfl) (yieldsIf_load_row (by rfl) 36 _ rfl (uw2.heap.size) rfl 36 (e4 u2) (fun _ h => M10.out.below h M10.out.lt) Try.underlying36 rfl (by rw [e4_size]; kernel_rfl)) ((below_dr W50)) ?_
    (try simp only [sI, sS, sZ])
    refine go_take2 6 39 #[tt,tt,ff,tt,tt,ff,tt,ff,ff,ff,ff,ff,ff,ff,ff] rfl rfl rfl (by kernel_rfl) (yieldsIf_load_row (by rfl) 36 _ rfl (yw2.heap.size) rfl 36 (e4 s) (fun _ h => M8.out.below h M8.out.lt) Try.underlying36 rfl (by rw [e4_size]; kernel_rfl)) ((below_dr W50)) ?_
    (try simp only [sI, sS, sZ])
    refine go_take2 7 40 #[tt,tt,ff,tt,tt,ff,tt,tt,ff,ff,ff,ff,ff,ff,ff] rfl rfl rfl (by kernel_rfl) (yieldsIf_load_row (by rfl) 36 _ rfl (yw23.heap.size) rfl 36 (e4 s2) (fun _ h => M11.out.below h M11.out.lt) Try.underlying36 rfl (by rw [e4_size]; kernel_rfl)) ((below_dr W50)) ?_
    (try simp only [sI, sS, sZ])
    refine but_name (fun T hT => ?_)
    have St2_5_8_9_10_11_12_13 : ∀ (B9 B10 B11 a xx yy : Nat) (w' : World), Below W50.heap.size W50 w' → a < 115792089237316195423570985008687907853269984665640564039457584007913129639936 → a % PP = A → xx < 115792089237316195423570985008687907853269984665640564039457584007913129639936 → xx % PP = XX → yy < 115792089237316195423570985008687907853269984665640564039457584007913129639936 → yy % PP = YY → W50.heap.size ≤ B9 → Has w' B9 (e4 a) 36 → W50.heap.size ≤ B10 → Has w' B10 (e4 xx) 36 → W50.heap.size ≤ B11 → HasN w' B11 4 36 → B9 ≠ B10 → B9 ≠ B11 → B10 ≠ B11 → T 1 #[tt,tt,tt,tt,tt,tt,tt,tt,tt,tt,tt,tt,tt,tt,ff] { tmps := #[.agg (e4 d), .agg (pt x1 y1 c1 b1), .agg (pt x2 y2 c2 b2), .pointer (some ⟨w.heap.size, 0, none⟩), .pointer (some ⟨w.heap.size + 1, 0, none⟩), .pointer (some ⟨w.heap.size + 1 + 1, 0, none⟩), .pointer (some ⟨w.heap.size + 1 + 1 + 1, 0, none⟩), .pointer (some ⟨uw1.heap.size, 0, none⟩), .pointer (some ⟨yw2.heap.size, 0, none⟩), .pointer (some ⟨yw7.heap.size, 0, none⟩), .pointer (some ⟨uw2.heap.size, 0, none⟩), .pointer (some ⟨yw23.heap.size, 0, none⟩), .pointer (some ⟨yw30.heap.size, 0, none⟩), .pointer (some ⟨B9, 0, none⟩), .pointer (some ⟨B10, 0, none⟩), .pointer (some ⟨B11, 0, none⟩), undef, undef, undef, undef, undef, .tuple #[.agg (e4 u), .agg (e4 s), .agg (e4 t)], .agg (pt x1 y1 c1 b1), .tuple #[.agg (e4 u), .agg (e4 s), .agg (e4 t)], .agg (e4 u), .agg (e4 s), .agg (e4 t), .tuple #[.agg (e4 u2), .agg (e4 s2), .agg (e4 t2)], .agg (pt x2 y2 c2 b2), .tuple #[.agg (e4 u2), .agg (e4 s2), .agg (e4 t2)], .agg (e4 u2), .agg (e4 s2), .agg (e4 t2), .agg (e4 t), .agg (e4 t2), .agg (e4 a), .agg (e4 u), .agg (e4 u2), .agg (e4 xx), .agg (e4 s), .agg (e4 s2), .agg (e4 yy), undef, undef, undef, undef, undef, undef, undef, undef, undef, undef, undef, undef, undef, undef, undef, undef, undef, undef, undef, undef, undef, undef, undef, undef, undef, undef, undef, undef, undef, undef, undef, undef, undef, undef, undef, undef, undef, undef, undef, undef, undef], defers := [] } w' := by
      intro B9 B10 B11 a xx yy w' hbw ha har hxx hxxr hyy hyyr hB9 mA9 hB10 mA10 hB11 mA11 hne9_10 hne9_11 hne10_11
      refine (hT _ _ _ _).2 ?_
      refine wpBut_r1 (i := 14) (by kernel_rfl) ?_
      obtain ⟨Zq, hZ, mZ⟩ := mA11
      refine go_store2 14 #[tt,tt,tt,tt,tt,tt,tt,tt,tt,tt,tt,tt,tt,tt,tt] rfl rfl rfl (by rfl) 36 _ _ rfl _ _ rfl rfl 36 Zq mZ (by rw [e4_size]; kernel_rfl) (hZ.trans (e4_size ..).symm) (row_one _ _ _) ?_
      intro w2 hw2
      have hk := below_setRow (hbw) _ (e4 yy) hB11
      have mA9 := mA9.setRow_other B11 (e4 yy) (by omega)
      have mA10 := mA10.setRow_other B11 (e4 yy) (by omega)
      have mA11 := mZ.setRow (e4 yy)
      rw [← hw2] at hk mA9 mA10 mA11
      clear hw2 mZ hZ
      refine ⟨fun _ => hk, ?_⟩
      (try simp only [sI, sS, sZ])
      exact wpBut_done (by kernel_rfl) (NoPanic.normal (HQ.out (_, _, _, a, xx, yy) _ ⟨ha, har, hxx, hxxr, hyy, hyyr, hB9, mA9, hB10, mA10, hB11, mA11, hk⟩))
    have St2_5_8_9_10_11_12 : ∀ (B9 B10 B11 a xx yy : Nat) (w' : World), Below W50.heap.size W50 w' → a < 115792089237316195423570985008687907853269984665640564039457584007913129639936 → a % PP = A → xx < 115792089237316195423570985008687907853269984665640564039457584007913129639936 → xx % PP = XX → yy < 115792089237316195423570985008687907853269984665640564039457584007913129639936 → yy % PP = YY → W50.heap.size ≤ B9 → Has w' B9 (e4 a) 36 → W50.heap.size ≤ B10 → HasN w' B10 4 36 → W50.heap.size ≤ B11 → HasN w' B11 4 36 → B9 ≠ B10 → B9 ≠ B11 → B10 ≠ B11 → T 2 #[tt,tt,tt,tt,tt,tt,tt,tt,tt,tt,tt,tt,tt,ff,ff] { tmps := #[.agg (e4 d), .agg (pt x1 y1 c1 b1), .agg (pt x2 y2 c2 b2), .pointer (some ⟨w.heap.size, 0, none⟩), .pointer (some ⟨w.heap.size + 1, 0, none⟩), .pointer (some ⟨w.heap.size + 1 + 1, 0, none⟩), .pointer (some ⟨w.heap.size + 1 + 1 + 1, 0, none⟩), .pointer (some ⟨uw1.heap.size, 0, none⟩), .pointer (some ⟨yw2.heap.size, 0, none⟩), .pointer (some ⟨yw7.heap.size, 0, none⟩), .pointer (some ⟨uw2.heap.size, 0, none⟩), .pointer (some ⟨yw23.heap.size, 0, none⟩), .pointer (some ⟨yw30.heap.size, 0, none⟩), .pointer (some ⟨B9, 0, none⟩), .pointer (some ⟨B10, 0, none⟩), .pointer (some ⟨B11, 0, none⟩), undef, undef, undef, undef, undef, .tuple #[.agg (e4 u), .agg (e4 s), .agg (e4 t)], .agg (pt x1 y1 c1 b1), .tuple #[.agg (e4 u), .agg (e4 s), .agg (e4 t)], .agg (e4 u), .agg (e4 s), .agg (e4 t), .tuple #[.agg (e4 u2), .agg (e4 s2), .agg (e4 t2)], .agg (pt x2 y2 c2 b2), .tuple #[.agg (e4 u2), .agg (e4 s2), .agg (e4 t2)], .agg (e4 u2), .agg (e4 s2), .agg (e4 t2), .agg (e4 t), .agg (e4 t2), .agg (e4 a), .agg (e4 u), .agg (e4 u2), .agg (e4 xx), .agg (e4 s), .agg (e4 s2), .agg (e4 yy), undef, undef, undef, undef, undef, undef, undef, undef, undef, undef, undef, undef, undef, undef, undef, undef, undef, undef, undef, undef, undef, undef, undef, undef, undef, undef, undef, undef, undef, undef, undef, undef, undef, undef, undef, undef, undef, undef, undef, undef, undef], defers := [] } w' := by
      intro B9 B10 B11 a xx yy w' hbw ha har hxx hxxr hyy hyyr hB9 mA9 hB10 mA10 hB11 mA11 hne9_10 hne9_11 hne10_11
      refine (hT _ _ _ _).2 ?_
      refine wpBut_r1 (i := 13) (by kernel_rfl) ?_
      obtain ⟨Zq, hZ, mZ⟩ := mA10
      refine go_store2 13 #[tt,tt,tt,tt,tt,tt,tt,tt,tt,tt,tt,tt,tt,tt,ff] rfl rfl rfl (by rfl) 36 _ _ rfl _ _ rfl rfl 36 Zq mZ (by rw [e4_size]; kernel_rfl) (hZ.trans (e4_size ..).symm) (row_one _ _ _) ?_
      intro w2 hw2
      have hk := below_setRow (hbw) _ (e4 xx) hB10
      have mA9 := mA9.setRow_other B10 (e4 xx) (by omega)
      have mA11 := mA11.setRow_other B10 (e4 xx) (by omega)
      have mA10 := mZ.setRow (e4 xx)
      rw [← hw2] at hk mA9 mA10 mA11
      clear hw2 mZ hZ
      refine ⟨fun _ => hk, ?_⟩
      (try simp only [sI, sS, sZ])
      exact (hT _ _ _ _).1 (St2_5_8_9_10_11_12_13 (B9) (B10) (B11) (a) (xx) (yy) w2 hk ha har hxx hxxr hyy hyyr hB9 mA9 hB10 mA10 hB11 mA11 hne9_10 hne9_11 hne10_11)
    have St2_5_8_9_10_11 : ∀ (B9 B10 B11 a xx yy : Nat) (w' : World), Below W50.heap.size W50 w' → a < 115792089237316195423570985008687907853269984665640564039457584007913129639936 → a % PP = A → xx < 115792089237316195423570985008687907853269984665640564039457584007913129639936 → xx % PP = XX → yy < 115792089237316195423570985008687907853269984665640564039457584007913129639936 → yy % PP = YY → W50.heap.size ≤ B9 → HasN w' B9 4 36 → W50.heap.size ≤ B10 → HasN w' B10 4 36 → W50.heap.size ≤ B11 → HasN w' B11 4 36 → B9 ≠ B10 → B9 ≠ B11 → B10 ≠ B11 → T 3 #[tt,tt,tt,tt,tt,tt,tt,tt,tt,tt,tt,tt,ff,ff,ff] { tmps := #[.agg (e4 d), .agg (pt x1 y1 c1 b1), .agg (pt x2 y2 c2 b2), .pointer (some ⟨w.heap.size, 0, none⟩), .pointer (some ⟨w.heap.size + 1, 0, none⟩), .pointer (some ⟨w.heap.size + 1 + 1, 0, none⟩), .pointer (some ⟨w.heap.size + 1 + 1 + 1, 0, none⟩), .pointer (some ⟨uw1.heap.size, 0, none⟩), .pointer (some ⟨yw2.heap.size, 0, none⟩), .pointer (some ⟨yw7.heap.size, 0, none⟩), .pointer (some ⟨uw2.heap.size, 0, none⟩), .pointer (some ⟨yw23.heap.size, 0, none⟩), .pointer (some ⟨yw30.heap.size, 0, none⟩), .pointer (some ⟨B9, 0, none⟩), .pointer (some ⟨B10, 0, none⟩), .pointer (some ⟨B11, 0, none⟩), undef, undef, undef, undef, undef, .tuple #[.agg (e4 u), .agg (e4 s), .agg (e4 t)], .agg (pt x1 y1 c1 b1), .tuple #[.agg (e4 u), .agg (e4 s), .agg (e4 t)], .agg (e4 u), .agg (e4 s), .agg (e4 t), .tuple #[.agg (e4 u2), .agg (e4 s2), .agg (e4 t2)], .agg (pt x2 y2 c2 b2), .tuple #[.agg (e4 u2), .agg (e4 s2), .agg (e4 t2)], .agg (e4 u2), .agg (e4 s2), .agg (e4 t2), .agg (e4 t), .agg (e4 t2), .agg (e4 a), .agg (e4 u), .agg (e4 u2), .agg (e4 xx), .agg (e4 s), .agg (e4 s2), .agg (e4 yy), undef, undef, undef, undef, undef, undef, undef, undef, undef, undef, undef, undef, undef, undef, undef, undef, undef, undef, undef, undef, undef, undef, undef, undef, undef, undef, undef, undef, undef, undef, undef, undef, undef, undef, undef, undef, undef, undef, undef, undef, undef], defers := [] } w' := by
      intro B9 B10 B11 a xx yy w' hbw ha har hxx hxxr hyy hyyr hB9 mA9 hB10 mA10 hB11 mA11 hne9_10 hne9_11 hne10_11
      refine (hT _ _ _ _).2 ?_
      refine wpBut_r1 (i := 12) (by kernel_rfl) ?_
      obtain ⟨Zq, hZ, mZ⟩ := mA9
      refine go_store2 12 #[tt,tt,tt,tt,tt,tt,tt,tt,tt,tt,tt,tt,tt,ff,ff] rfl rfl rfl (by rfl) 36 _ _ rfl _ _ rfl rfl 36 Zq mZ (by rw [e4_size]; kernel_rfl) (hZ.trans (e4_size ..).symm) (row_one _ _ _) ?_
      intro w2 hw2
      have hk := below_setRow (hbw) _ (e4 a) hB9
      have mA10 := mA10.setRow_other B9 (e4 a) (by omega)
      have mA11 := mA11.setRow_other B9 (e4 a) (by omega)
      have mA9 := mZ.setRow (e4 a)
      rw [← hw2] at hk mA9 mA10 mA11
      clear hw2 mZ hZ
      refine ⟨fun _ => hk, ?_⟩
      (try simp only [sI, sS, sZ])
      exact (hT _ _ _ _).1 (St2_5_8_9_10_11_12 (B9) (B10) (B11) (a) (xx) (yy) w2 hk ha har hxx hxxr hyy hyyr hB9 mA9 hB10 mA10 hB11 mA11 hne9_10 hne9_11 hne10_11)
    have St2_5_9_10_11 : ∀ (B9 B10 B11 a xx : Nat) (w' : World), Below W50.heap.size W50 w' → a < 115792089237316195423570985008687907853269984665640564039457584007913129639936 → a % PP = A → xx < 115792089237316195423570985008687907853269984665640564039457584007913129639936 → xx % PP = XX → W50.heap.size ≤ B9 → HasN w' B9 4 36 → W50.heap.size ≤ B10 → HasN w' B10 4 36 → W50.heap.size ≤ B11 → HasN w' B11 4 36 → B9 ≠ B10 → B9 ≠ B11 → B10 ≠ B11 → T 4 #[tt,tt,tt,tt,tt,tt,tt,tt,ff,tt,tt,tt,ff,ff,ff] { tmps := #[.agg (e4 d), .agg (pt x1 y1 c1 b1), .agg (pt x2 y2 c2 b2), .pointer (some ⟨w.heap.size, 0, none⟩), .pointer (some ⟨w.heap.size + 1, 0, none⟩), .pointer (some ⟨w.heap.size + 1 + 1, 0, none⟩), .pointer (some ⟨w.heap.size + 1 + 1 + 1, 0, none⟩), .pointer (some ⟨uw1.heap.size, 0, none⟩), .pointer (some ⟨yw2.heap.size, 0, none⟩), .pointer (some ⟨yw7.heap.size, 0, none⟩), .pointer (some ⟨uw2.heap.size, 0, none⟩), .pointer (some ⟨yw23.heap.size, 0, none⟩), .pointer (some ⟨yw30.heap.size, 0, none⟩), .pointer (some ⟨B9, 0, none⟩), .pointer (some ⟨B10, 0, none⟩), .pointer (some ⟨B11, 0, none⟩), undef, undef, undef, undef, undef, .tuple #[.agg (e4 u), .agg (e4 s), .agg (e4 t)], .agg (pt x1 y1 c1 b1), .tuple #[.agg (e4 u), .agg (e4 s), .agg (e4 t)], .agg (e4 u), .agg (e4 s), .agg (e4 t), .tuple #[.agg (e4 u2), .agg (e4 s2), .agg (e4 t2)], .agg (pt x2 y2 c2 b2), .tuple #[.agg (e4 u2), .agg (e4 s2), .agg (e4 t2)], .agg (e4 u2), .agg (e4 s2), .agg (e4 t2), .agg (e4 t), .agg (e4 t2), .agg (e4 a), .agg (e4 u), .agg (e4 u2), .agg (e4 xx), .agg (e4 s), .agg (e4 s2), undef, undef, undef, undef, undef, undef, undef, undef, undef, undef, undef, undef, undef, undef, undef, undef, undef, undef, undef, undef, undef, undef, undef, undef, undef, undef, undef, undef, undef, undef, undef, undef, undef, undef, undef, undef, undef, undef, undef, undef, undef, undef], defers := [] } w' := by
      intro B9 B10 B11 a xx w' hbw ha har hxx hxxr hB9 mA9 hB10 mA10 hB11 mA11 hne9_10 hne9_11 hne10_11
      refine (hT _ _ _ _).2 ?_
      refine wpBut_r1 (i := 8) (by kernel_rfl) ?_
      refine go_call 8 41 #[tt,tt,tt,tt,tt,tt,tt,tt,tt,tt,tt,tt,ff,ff,ff] rfl rfl rfl (by rfl) rfl rfl (by rfl) ent31 (by rfl) (Ht.out s s2 hs hs2 _) ?_
      rintro e w2 ⟨yy, hyy, hyyr, rfl, hb⟩
      have hk := held_next hbw hb
      have mA9 := mA9.call hb
      have mA10 := mA10.call hb
      have mA11 := mA11.call hb
      have hyyq := r_mul yy s s2 Y1 Y2 YY hyyr (Hsr.out) (Hs2r.out) DYY.out
      clear hyyr
      have hyyr := hyyq
      clear hyyq
      refine ⟨_, rfl, fun _ => hk, ?_⟩
      (try simp only [sI, sS, sZ])
      exact (hT _ _ _ _).1 (St2_5_8_9_10_11 (B9) (B10) (B11) (a) (xx) (yy) w2 hk ha har hxx hxxr hyy hyyr hB9 mA9 hB10 mA10 hB11 mA11 hne9_10 hne9_11 hne10_11)
    have St2_5_8_10_11 : ∀ (B10 B11 a xx yy : Nat) (w' : World), Below W50.heap.size W50 w' → a < 115792089237316195423570985008687907853269984665640564039457584007913129639936 → a % PP = A → xx < 115792089237316195423570985008687907853269984665640564039457584007913129639936 → xx % PP = XX → yy < 115792089237316195423570985008687907853269984665640564039457584007913129639936 → yy % PP = YY → W50.heap.size ≤ B10 → HasN w' B10 4 36 → W50.heap.size ≤ B11 → HasN w' B11 4 36 → B10 ≠ B11 → T 4 #[tt,tt,tt,tt,tt,tt,tt,tt,tt,ff,tt,tt,ff,ff,ff] { tmps := #[.agg (e4 d), .agg (pt x1 y1 c1 b1), .agg (pt x2 y2 c2 b2), .pointer (some ⟨w.heap.size, 0, none⟩), .pointer (some ⟨w.heap.size + 1, 0, none⟩), .pointer (some ⟨w.heap.size + 1 + 1, 0, none⟩), .pointer (some ⟨w.heap.size + 1 + 1 + 1, 0, none⟩), .pointer (some ⟨uw1.heap.size, 0, none⟩), .pointer (some ⟨yw2.heap.size, 0, none⟩), .pointer (some ⟨yw7.heap.size, 0, none⟩), .pointer (some ⟨uw2.heap.size, 0, none⟩), .pointer (some ⟨yw23.heap.size, 0, none⟩), .pointer (some ⟨yw30.heap.size, 0, none⟩), undef, .pointer (some ⟨B10, 0, none⟩), .pointer (some ⟨B11, 0, none⟩), undef, undef, undef, undef, undef, .tuple #[.agg (e4 u), .agg (e4 s), .agg (e4 t)], .agg (pt x1 y1 c1 b1), .tuple #[.agg (e4 u), .agg (e4 s), .agg (e4 t)], .agg (e4 u), .agg (e4 s), .agg (e4 t), .tuple #[.agg (e4 u2), .agg (e4 s2), .agg (e4 t2)], .agg (pt x2 y2 c2 b2), .tuple #[.agg (e4 u2), .agg (e4 s2), .agg (e4 t2)], .agg (e4 u2), .agg (e4 s2), .agg (e4 t2), .agg (e4 t), .agg (e4 t2), .agg (e4 a), .agg (e4 u), .agg (e4 u2), .agg (e4 xx), .agg (e4 s), .agg (e4 s2), .agg (e4 yy), undef, undef, undef, undef, undef, undef, undef, undef, undef, undef, undef, undef, undef, undef, undef, undef, undef, undef, undef, undef, undef, undef, undef, undef, undef, undef, undef, undef, undef, undef, undef, undef, undef, undef, undef, undef, undef, undef, undef, undef, undef], defers := [] } w' := by
      intro B10 B11 a xx yy w' hbw ha har hxx hxxr hyy hyyr hB10 mA10 hB11 mA11 hne10_11
      refine (hT _ _ _ _).2 ?_
      refine wpBut_r1 (i := 9) (by kernel_rfl) ?_
      refine go_alloc 9 13 #[tt,tt,tt,tt,tt,tt,tt,tt,tt,tt,tt,tt,ff,ff,ff] rfl rfl rfl (by rfl) 36 rfl _ al36 ?_
      intro w2 hw2
      have hk := (hbw).alloc (hbw).size (.cells z36 36)
      have hlt10 := mA10.lt
      have mA10 := mA10.alloc (.cells z36 36)
      have hlt11 := mA11.lt
      have mA11 := mA11.alloc (.cells z36 36)
      have mA9 := HasN.new (w') z36 36 4 (by kernel_rfl)
      have hB9 := (hbw).size
      rw [← hw2] at hk mA10 mA11 mA9
      have hne9_10 : w'.heap.size ≠ B10 := by omega
      have hne9_11 : w'.heap.size ≠ B11 := by omega
      clear hw2
      refine ⟨fun _ => hk, ?_⟩
      (try simp only [sI, sS, sZ])
      exact (hT _ _ _ _).1 (St2_5_8_9_10_11 (w'.heap.size) (B10) (B11) (a) (xx) (yy) w2 hk ha har hxx hxxr hyy hyyr hB9 mA9 hB10 mA10 hB11 mA11 hne9_10 hne9_11 hne10_11)
    have St2_5_8_9_11 : ∀ (B9 B11 a xx yy : Nat) (w' : World), Below W50.heap.size W50 w' → a < 115792089237316195423570985008687907853269984665640564039457584007913129639936 → a % PP = A → xx < 115792089237316195423570985008687907853269984665640564039457584007913129639936 → xx % PP = XX → yy < 115792089237316195423570985008687907853269984665640564039457584007913129639936 → yy % PP = YY → W50.heap.size ≤ B9 → HasN w' B9 4 36 → W50.heap.size ≤ B11 → HasN w' B11 4 36 → B9 ≠ B11 → T 4 #[tt,tt,tt,tt,tt,tt,tt,tt,tt,tt,ff,tt,ff,ff,ff] { tmps := #[.agg (e4 d), .agg (pt x1 y1 c1 b1), .agg (pt x2 y2 c2 b2), .pointer (some ⟨w.heap.size, 0, none⟩), .pointer (some ⟨w.heap.size + 1, 0, none⟩), .pointer (some ⟨w.heap.size + 1 + 1, 0, none⟩), .pointer (some ⟨w.heap.size + 1 + 1 + 1, 0, none⟩), .pointer (some ⟨uw1.heap.size, 0, none⟩), .pointer (some ⟨yw2.heap.size, 0, none⟩), .pointer (some ⟨yw7.heap.size, 0, none⟩), .pointer (some ⟨uw2.heap.size, 0, none⟩), .pointer (some ⟨yw23.heap.size, 0, none⟩), .pointer (some ⟨yw30.heap.size, 0, none⟩), .pointer (some ⟨B9, 0, none⟩), undef, .pointer (some ⟨B11, 0, none⟩), undef, undef, undef, undef, undef, .tuple #[.agg (e4 u), .agg (e4 s), .agg (e4 t)], .agg (pt x1 y1 c1 b1), .tuple #[.agg (e4 u), .agg (e4 s), .agg (e4 t)], .agg (e4 u), .agg (e4 s), .agg (e4 t), .tuple #[.agg (e4 u2), .agg (e4 s2), .agg (e4 t2)], .agg (pt x2 y2 c2 b2), .tuple #[.agg (e4 u2), .agg (e4 s2), .agg (e4 t2)], .agg (e4 u2), .agg (e4 s2), .agg (e4 t2), .agg (e4 t), .agg (e4 t2), .agg (e4 a), .agg (e4 u), .agg (e4 u2), .agg (e4 xx), .agg (e4 s), .agg (e4 s2), .agg (e4 yy), undef, undef, undef, undef, undef, undef, undef, undef, undef, undef, undef, undef, undef, undef, undef, undef, undef, undef, undef, undef, undef, undef, undef, undef, undef, undef, undef, undef, undef, undef, undef, undef, undef, undef, undef, undef, undef, undef, undef, undef, undef], defers := [] } w' := by
      intro B9 B11 a xx yy w' hbw ha har hxx hxxr hyy hyyr hB9 mA9 hB11 mA11 hne9_11
      refine (hT _ _ _ _).2 ?_
      refine wpBut_r1 (i := 10) (by kernel_rfl) ?_
      refine go_alloc 10 14 #[tt,tt,tt,tt,tt,tt,tt,tt,tt,tt,tt,tt,ff,ff,ff] rfl rfl rfl (by rfl) 36 rfl _ al36 ?_
      intro w2 hw2
      have hk := (hbw).alloc (hbw).size (.cells z36 36)
      have hlt9 := mA9.lt
      have mA9 := mA9.alloc (.cells z36 36)
      have hlt11 := mA11.lt
      have mA11 := mA11.alloc (.cells z36 36)
      have mA10 := HasN.new (w') z36 36 4 (by kernel_rfl)
      have hB10 := (hbw).size
      rw [← hw2] at hk mA9 mA11 mA10
      have hne9_10 : B9 ≠ w'.heap.size := by omega
      have hne10_11 : w'.heap.size ≠ B11 := by omega
      clear hw2
      refine ⟨fun _ => hk, ?_⟩
      (try simp only [sI, sS, sZ])
      exact (hT _ _ _ _).1 (St2_5_8_9_10_11 (B9) (w'.heap.size) (B11) (a) (xx) (yy) w2 hk ha har hxx hxxr hyy hyyr hB9 mA9 hB10 mA10 hB11 mA11 hne9_10 hne9_11 hne10_11)
    have St2_5_8_9_10 : ∀ (B9 B10 a xx yy : Nat) (w' : World), Below W50.heap.size W50 w' → a < 115792089237316195423570985008687907853269984665640564039457584007913129639936 → a % PP = A → xx < 115792089237316195423570985008687907853269984665640564039457584007913129639936 → xx % PP = XX → yy < 115792089237316195423570985008687907853269984665640564039457584007913129639936 → yy % PP = YY → W50.heap.size ≤ B9 → HasN w' B9 4 36 → W50.heap.size ≤ B10 → HasN w' B10 4 36 → B9 ≠ B10 → T 4 #[tt,tt,tt,tt,tt,tt,tt,tt,tt,tt,tt,ff,ff,ff,ff] { tmps := #[.agg (e4 d), .agg (pt x1 y1 c1 b1), .agg (pt x2 y2 c2 b2), .pointer (some ⟨w.heap.size, 0, none⟩), .pointer (some ⟨w.heap.size + 1, 0, none⟩), .pointer (some ⟨w.heap.size + 1 + 1, 0, none⟩), .pointer (some ⟨w.heap.size + 1 + 1 + 1, 0, none⟩), .pointer (some ⟨uw1.heap.size, 0, none⟩), .pointer (some ⟨yw2.heap.size, 0, none⟩), .pointer (some ⟨yw7.heap.size, 0, none⟩), .pointer (some ⟨uw2.heap.size, 0, none⟩), .pointer (some ⟨yw23.heap.size, 0, none⟩), .pointer (some ⟨yw30.heap.size, 0, none⟩), .pointer (some ⟨B9, 0, none⟩), .pointer (some ⟨B10, 0, none⟩), undef, undef, undef, undef, undef, undef, .tuple #[.agg (e4 u), .agg (e4 s), .agg (e4 t)], .agg (pt x1 y1 c1 b1), .tuple #[.agg (e4 u), .agg (e4 s), .agg (e4 t)], .agg (e4 u), .agg (e4 s), .agg (e4 t), .tuple #[.agg (e4 u2), .agg (e4 s2), .agg (e4 t2)], .agg (pt x2 y2 c2 b2), .tuple #[.agg (e4 u2), .agg (e4 s2), .agg (e4 t2)], .agg (e4 u2), .agg (e4 s2), .agg (e4 t2), .agg (e4 t), .agg (e4 t2), .agg (e4 a), .agg (e4 u), .agg (e4 u2), .agg (e4 xx), .agg (e4 s), .agg (e4 s2), .agg (e4 yy), undef, undef, undef, undef, undef, undef, undef, undef, undef, undef, undef, undef, undef, undef, undef, undef, undef, undef, undef, undef, undef, undef, undef, undef, undef, undef, undef, undef, undef, undef, undef, undef, undef, undef, undef, undef, undef, undef, undef, undef, undef], defers := [] } w' := by
      intro B9 B10 a xx yy w' hbw ha har hxx hxxr hyy hyyr hB9 mA9 hB10 mA10 hne9_10
      refine (hT _ _ _ _).2 ?_
      refine wpBut_r1 (i := 11) (by kernel_rfl) ?_
      refine go_alloc 11 15 #[tt,tt,tt,tt,tt,tt,tt,tt,tt,tt,tt,tt,ff,ff,ff] rfl rfl rfl (by rfl) 36 rfl _ al36 ?_
      intro w2 hw2
      have hk := (hbw).alloc (hbw).size (.cells z36 36)
      have hlt9 := mA9.lt
      have mA9 := mA9.alloc (.cells z36 36)
      have hlt10 := mA10.lt
      have mA10 := mA10.alloc (.cells z36 36)
      have mA11 := HasN.new (w') z36 36 4 (by kernel_rfl)
      have hB11 := (hbw).size
      rw [← hw2] at hk mA9 mA10 mA11
      have hne9_11 : B9 ≠ w'.heap.size := by omega
      have hne10_11 : B10 ≠ w'.heap.size := by omega
      clear hw2
      refine ⟨fun _ => hk, ?_⟩
      (try simp only [sI, sS, sZ])
      exact (hT _ _ _ _).1 (St2_5_8_9_10_11 (B9) (B10) (w'.heap.size) (a) (xx) (yy) w2 hk ha har hxx hxxr hyy hyyr hB9 mA9 hB10 mA10 hB11 mA11 hne9_10 hne9_11 hne10_11)
    have St2_9_10_11 : ∀ (B9 B10 B11 a : Nat) (w' : World), Below W50.heap.size W50 w' → a < 115792089237316195423570985008687907853269984665640564039457584007913129639936 → a % PP = A → W50.heap.size ≤ B9 → HasN w' B9 4 36 → W50.heap.size ≤ B10 → HasN w' B10 4 36 → W50.heap.size ≤ B11 → HasN w' B11 4 36 → B9 ≠ B10 → B9 ≠ B11 → B10 ≠ B11 → T 5 #[tt,tt,tt,tt,tt,ff,tt,tt,ff,tt,tt,tt,ff,ff,ff] { tmps := #[.agg (e4 d), .agg (pt x1 y1 c1 b1), .agg (pt x2 y2 c2 b2), .pointer (some ⟨w.heap.size, 0, none⟩), .pointer (some ⟨w.heap.size + 1, 0, none⟩), .pointer (some ⟨w.heap.size + 1 + 1, 0, none⟩), .pointer (some ⟨w.heap.size + 1 + 1 + 1, 0, none⟩), .pointer (some ⟨uw1.heap.size, 0, none⟩), .pointer (some ⟨yw2.heap.size, 0, none⟩), .pointer (some ⟨yw7.heap.size, 0, none⟩), .pointer (some ⟨uw2.heap.size, 0, none⟩), .pointer (some ⟨yw23.heap.size, 0, none⟩), .pointer (some ⟨yw30.heap.size, 0, none⟩), .pointer (some ⟨B9, 0, none⟩), .pointer (some ⟨B10, 0, none⟩), .pointer (some ⟨B11, 0, none⟩), undef, undef, undef, undef, undef, .tuple #[.agg (e4 u), .agg (e4 s), .agg (e4 t)], .agg (pt x1 y1 c1 b1), .tuple #[.agg (e4 u), .agg (e4 s), .agg (e4 t)], .agg (e4 u), .agg (e4 s), .agg (e4 t), .tuple #[.agg (e4 u2), .agg (e4 s2), .agg (e4 t2)], .agg (pt x2 y2 c2 b2), .tuple #[.agg (e4 u2), .agg (e4 s2), .agg (e4 t2)], .agg (e4 u2), .agg (e4 s2), .agg (e4 t2), .agg (e4 t), .agg (e4 t2), .agg (e4 a), .agg (e4 u), .agg (e4 u2), undef, .agg (e4 s), .agg (e4 s2), undef, undef, undef, undef, undef, undef, undef, undef, undef, undef, undef, undef, undef, undef, undef, undef, undef, undef, undef, undef, undef, undef, undef, undef, undef, undef, undef, undef, undef, undef, undef, undef, undef, undef, undef, undef, undef, undef, undef, undef, undef, undef], defers := [] } w' := by
      intro B9 B10 B11 a w' hbw ha har hB9 mA9 hB10 mA10 hB11 mA11 hne9_10 hne9_11 hne10_11
      refine (hT _ _ _ _).2 ?_
      refine wpBut_r1 (i := 5) (by kernel_rfl) ?_
      refine go_call 5 38 #[tt,tt,tt,tt,tt,tt,tt,tt,ff,tt,tt,tt,ff,ff,ff] rfl rfl rfl (by rfl) rfl rfl (by rfl) ent31 (by rfl) (Ht.out u u2 hu hu2 _) ?_
      rintro e w2 ⟨xx, hxx, hxxr, rfl, hb⟩
      have hk := held_next hbw hb
      have mA9 := mA9.call hb
      have mA10 := mA10.call hb
      have mA11 := mA11.call hb
      have hxxq := r_mul xx u u2 X1 X2 XX hxxr (Hur.out) (Hu2r.out) DXX.out
      clear hxxr
      have hxxr := hxxq
      clear hxxq
      refine ⟨_, rfl, fun _ => hk, ?_⟩
      (try simp only [sI, sS, sZ])
      exact (hT _ _ _ _).1 (St2_5_9_10_11 (B9) (B10) (B11) (a) (xx) w2 hk ha har hxx hxxr hB9 mA9 hB10 mA10 hB11 mA11 hne9_10 hne9_11 hne10_11)
    have St2_5_10_11 : ∀ (B10 B11 a xx : Nat) (w' : World), Below W50.heap.size W50 w' → a < 115792089237316195423570985008687907853269984665640564039457584007913129639936 → a % PP = A → xx < 115792089237316195423570985008687907853269984665640564039457584007913129639936 → xx % PP = XX → W50.heap.size ≤ B10 → HasN w' B10 4 36 → W50.heap.size ≤ B11 → HasN w' B11 4 36 → B10 ≠ B11 → T 5 #[tt,tt,tt,tt,tt,tt,tt,tt,ff,ff,tt,tt,ff,ff,ff] { tmps := #[.agg (e4 d), .agg (pt x1 y1 c1 b1), .agg (pt x2 y2 c2 b2), .pointer (some ⟨w.heap.size, 0, none⟩), .pointer (some ⟨w.heap.size + 1, 0, none⟩), .pointer (some ⟨w.heap.size + 1 + 1, 0, none⟩), .pointer (some ⟨w.heap.size + 1 + 1 + 1, 0, none⟩), .pointer (some ⟨uw1.heap.size, 0, none⟩), .pointer (some ⟨yw2.heap.size, 0, none⟩), .pointer (some ⟨yw7.heap.size, 0, none⟩), .pointer (some ⟨uw2.heap.size, 0, none⟩), .pointer (some ⟨yw23.heap.size, 0, none⟩), .pointer (some ⟨yw30.heap.size, 0, none⟩), undef, .pointer (some ⟨B10, 0, none⟩), .pointer (some ⟨B11, 0, none⟩), undef, undef, undef, undef, undef, .tuple #[.agg (e4 u), .agg (e4 s), .agg (e4 t)], .agg (pt x1 y1 c1 b1), .tuple #[.agg (e4 u), .agg (e4 s), .agg (e4 t)], .agg (e4 u), .agg (e4 s), .agg (e4 t), .tuple #[.agg (e4 u2), .agg (e4 s2), .agg (e4 t2)], .agg (pt x2 y2 c2 b2), .tuple #[.agg (e4 u2), .agg (e4 s2), .agg (e4 t2)], .agg (e4 u2), .agg (e4 s2), .agg (e4 t2), .agg (e4 t), .agg (e4 t2), .agg (e4 a), .agg (e4 u), .agg (e4 u2), .agg (e4 xx), .agg (e4 s), .agg (e4 s2), undef, undef, undef, undef, undef, undef, undef, undef, undef, undef, undef, undef, undef, undef, undef, undef, undef, undef, undef, undef, undef, undef, undef, undef, undef, undef, undef, undef, undef, undef, undef, undef, undef, undef, undef, undef, undef, undef, undef, undef, undef, undef], defers := [] } w' := by
      intro B10 B11 a xx w' hbw ha har hxx hxxr hB10 mA10 hB11 mA11 hne10_11
      refine (hT _ _ _ _).2 ?_
      refine wpBut_r2 (i := 8) (j := 9) (by kernel_rfl) ?_ ?_
      refine go_call 8 41 #[tt,tt,tt,tt,tt,tt,tt,tt,tt,ff,tt,tt,ff,ff,ff] rfl rfl rfl (by rfl) rfl rfl (by rfl) ent31 (by rfl) (Ht.out s s2 hs hs2 _) ?_
      rintro e w2 ⟨yy, hyy, hyyr, rfl, hb⟩
      have hk := held_next hbw hb
      have mA10 := mA10.call hb
      have mA11 := mA11.call hb
      have hyyq := r_mul yy s s2 Y1 Y2 YY hyyr (Hsr.out) (Hs2r.out) DYY.out
      clear hyyr
      have hyyr := hyyq
      clear hyyq
      refine ⟨_, rfl, fun _ => hk, ?_⟩
      (try simp only [sI, sS, sZ])
      exact (hT _ _ _ _).1 (St2_5_8_10_11 (B10) (B11) (a) (xx) (yy) w2 hk ha har hxx hxxr hyy hyyr hB10 mA10 hB11 mA11 hne10_11)
      refine go_alloc 9 13 #[tt,tt,tt,tt,tt,tt,tt,tt,ff,tt,tt,tt,ff,ff,ff] rfl rfl rfl (by rfl) 36 rfl _ al36 ?_
      intro w2 hw2
      have hk := (hbw).alloc (hbw).size (.cells z36 36)
      have hlt10 := mA10.lt
      have mA10 := mA10.alloc (.cells z36 36)
      have hlt11 := mA11.lt
      have mA11 := mA11.alloc (.cells z36 36)
      have mA9 := HasN.new (w') z36 36 4 (by kernel_rfl)
      have hB9 := (hbw).size
      rw [← hw2] at hk mA10 mA11 mA9
      have hne9_10 : w'.heap.size ≠ B10 := by omega
      have hne9_11 : w'.heap.size ≠ B11 := by omega
      clear hw2
      refine ⟨fun _ => hk, ?_⟩
      (try simp only [sI, sS, sZ])
      exact (hT _ _ _ _).1 (St2_5_9_10_11 (w'.heap.size) (B10) (B11) (a) (xx) w2 hk ha har hxx hxxr hB9 mA9 hB10 mA10 hB11 mA11 hne9_10 hne9_11 hne10_11)
    have St2_5_9_11 : ∀ (B9 B11 a xx : Nat) (w' : World), Below W50.heap.size W50 w' → a < 115792089237316195423570985008687907853269984665640564039457584007913129639936 → a % PP = A → xx < 115792089237316195423570985008687907853269984665640564039457584007913129639936 → xx % PP = XX → W50.heap.size ≤ B9 → HasN w' B9 4 36 → W50.heap.size ≤ B11 → HasN w' B11 4 36 → B9 ≠ B11 → T 5 #[tt,tt,tt,tt,tt,tt,tt,tt,ff,tt,ff,tt,ff,ff,ff] { tmps := #[.agg (e4 d), .agg (pt x1 y1 c1 b1), .agg (pt x2 y2 c2 b2), .pointer (some ⟨w.heap.size, 0, none⟩), .pointer (some ⟨w.heap.size + 1, 0, none⟩), .pointer (some ⟨w.heap.size + 1 + 1, 0, none⟩), .pointer (some ⟨w.heap.size + 1 + 1 + 1, 0, none⟩), .pointer (some ⟨uw1.heap.size, 0, none⟩), .pointer (some ⟨yw2.heap.size, 0, none⟩), .pointer (some ⟨yw7.heap.size, 0, none⟩), .pointer (some ⟨uw2.heap.size, 0, none⟩), .pointer (some ⟨yw23.heap.size, 0, none⟩), .pointer (some ⟨yw30.heap.size, 0, none⟩), .pointer (some ⟨B9, 0, none⟩), undef, .pointer (some ⟨B11, 0, none⟩), undef, undef, undef, undef, undef, .tuple #[.agg (e4 u), .agg (e4 s), .agg (e4 t)], .agg (pt x1 y1 c1 b1), .tuple #[.agg (e4 u), .agg (e4 s), .agg (e4 t)], .agg (e4 u), .agg (e4 s), .agg (e4 t), .tuple #[.agg (e4 u2), .agg (e4 s2), .agg (e4 t2)], .agg (pt x2 y2 c2 b2), .tuple #[.agg (e4 u2), .agg (e4 s2), .agg (e4 t2)], .agg (e4 u2), .agg (e4 s2), .agg (e4 t2), .agg (e4 t), .agg (e4 t2), .agg (e4 a), .agg (e4 u), .agg (e4 u2), .agg (e4 xx), .agg (e4 s), .agg (e4 s2), undef, undef, undef, undef, undef, undef, undef, undef, undef, undef, undef, undef, undef, undef, undef, undef, undef, undef, undef, undef, undef, undef, undef, undef, undef, undef, undef, undef, undef, undef, undef, undef, undef, undef, undef, undef, undef, undef, undef, undef, undef, undef], defers := [] } w' := by
      intro B9 B11 a xx w' hbw ha har hxx hxxr hB9 mA9 hB11 mA11 hne9_11
      refine (hT _ _ _ _).2 ?_
      refine wpBut_r2 (i := 8) (j := 10) (by kernel_rfl) ?_ ?_
      refine go_call 8 41 #[tt,tt,tt,tt,tt,tt,tt,tt,tt,tt,ff,tt,ff,ff,ff] rfl rfl rfl (by rfl) rfl rfl (by rfl) ent31 (by rfl) (Ht.out s s2 hs hs2 _) ?_
      rintro e w2 ⟨yy, hyy, hyyr, rfl, hb⟩
      have hk := held_next hbw hb
      have mA9 := mA9.call hb
      have mA11 := mA11.call hb
      have hyyq := r_mul yy s s2 Y1 Y2 YY hyyr (Hsr.out) (Hs2r.out) DYY.out
      clear hyyr
      have hyyr := hyyq
      clear hyyq
      refine ⟨_, rfl, fun _ => hk, ?_⟩
      (try simp only [sI, sS, sZ])
      exact (hT _ _ _ _).1 (St2_5_8_9_11 (B9) (B11) (a) (xx) (yy) w2 hk ha har hxx hxxr hyy hyyr hB9 mA9 hB11 mA11 hne9_11)
      refine go_alloc 10 14 #[tt,tt,tt,tt,tt,tt,tt,tt,ff,tt,tt,tt,ff,ff,ff] rfl rfl rfl (by rfl) 36 rfl _ al36 ?_
      intro w2 hw2
      have hk := (hbw).alloc (hbw).size (.cells z36 36)
      have hlt9 := mA9.lt
      have mA9 := mA9.alloc (.cells z36 36)
      have hlt11 := mA11.lt
      have mA11 := mA11.alloc (.cells z36 36)
      have mA10 := HasN.new (w') z36 36 4 (by kernel_rfl)
      have hB10 := (hbw).size
      rw [← hw2] at hk mA9 mA11 mA10
      have hne9_10 : B9 ≠ w'.heap.size := by omega
      have hne10_11 : w'.heap.size ≠ B11 := by omega
      clear hw2
      refine ⟨fun _ => hk, ?_⟩
      (try simp only [sI, sS, sZ])
      exact (hT _ _ _ _).1 (St2_5_9_10_11 (B9) (w'.heap.size) (B11) (a) (xx) w2 hk ha har hxx hxxr hB9 mA9 hB10 mA10 hB11 mA11 hne9_10 hne9_11 hne10_11)
    have St2_5_9_10 : ∀ (B9 B10 a xx : Nat) (w' : World), Below W50.heap.size W50 w' → a < 115792089237316195423570985008687907853269984665640564039457584007913129639936 → a % PP = A → xx < 115792089237316195423570985008687907853269984665640564039457584007913129639936 → xx % PP = XX → W50.heap.size ≤ B9 → HasN w' B9 4 36 → W50.heap.size ≤ B10 → HasN w' B10 4 36 → B9 ≠ B10 → T 5 #[tt,tt,tt,tt,tt,tt,tt,tt,ff,tt,tt,ff,ff,ff,ff] { tmps := #[.agg (e4 d), .agg (pt x1 y1 c1 b1), .agg (pt x2 y2 c2 b2), .pointer (some ⟨w.heap.size, 0, none⟩), .pointer (some ⟨w.heap.size + 1, 0, none⟩), .pointer (some ⟨w.heap.size + 1 + 1, 0, none⟩), .pointer (some ⟨w.heap.size + 1 + 1 + 1, 0, none⟩), .pointer (some ⟨uw1.heap.size, 0, none⟩), .pointer (some ⟨yw2.heap.size, 0, none⟩), .pointer (some ⟨yw7.heap.size, 0, none⟩), .pointer (some ⟨uw2.heap.size, 0, none⟩), .pointer (some ⟨yw23.heap.size, 0, none⟩), .pointer (some ⟨yw30.heap.size, 0, none⟩), .pointer (some ⟨B9, 0, none⟩), .pointer (some ⟨B10, 0, none⟩), undef, undef, undef, undef, undef, undef, .tuple #[.agg (e4 u), .agg (e4 s), .agg (e4 t)], .agg (pt x1 y1 c1 b1), .tuple #[.agg (e4 u), .agg (e4 s), .agg (e4 t)], .agg (e4 u), .agg (e4 s), .agg (e4 t), .tuple #[.agg (e4 u2), .agg (e4 s2), .agg (e4 t2)], .agg (pt x2 y2 c2 b2), .tuple #[.agg (e4 u2), .agg (e4 s2), .agg (e4 t2)], .agg (e4 u2), .agg (e4 s2), .agg (e4 t2), .agg (e4 t), .agg (e4 t2), .agg (e4 a), .agg (e4 u), .agg (e4 u2), .agg (e4 xx), .agg (e4 s), .agg (e4 s2), undef, undef, undef, undef, undef, undef, undef, undef, undef, undef, undef, undef, undef, undef, undef, undef, undef, undef, undef, undef, undef, undef, undef, undef, undef, undef, undef, undef, undef, undef, undef, undef, undef, undef, undef, undef, undef, undef, undef, undef, undef, undef], defers := [] } w' := by
      intro B9 B10 a xx w' hbw ha har hxx hxxr hB9 mA9 hB10 mA10 hne9_10
      refine (hT _ _ _ _).2 ?_
      refine wpBut_r2 (i := 8) (j := 11) (by kernel_rfl) ?_ ?_
      refine go_call 8 41 #[tt,tt,tt,tt,tt,tt,tt,tt,tt,tt,tt,ff,ff,ff,ff] rfl rfl rfl (by rfl) rfl rfl (by rfl) ent31 (by rfl) (Ht.out s s2 hs hs2 _) ?_
      rintro e w2 ⟨yy, hyy, hyyr, rfl, hb⟩
      have hk := held_next hbw hb
      have mA9 := mA9.call hb
      have mA10 := mA10.call hb
      have hyyq := r_mul yy s s2 Y1 Y2 YY hyyr (Hsr.out) (Hs2r.out) DYY.out
      clear hyyr
      have hyyr := hyyq
      clear hyyq
      refine ⟨_, rfl, fun _ => hk, ?_⟩
      (try simp only [sI, sS, sZ])
      exact (hT _ _ _ _).1 (St2_5_8_9_10 (B9) (B10) (a) (xx) (yy) w2 hk ha har hxx hxxr hyy hyyr hB9 mA9 hB10 mA10 hne9_10)
      refine go_alloc 11 15 #[tt,tt,tt,tt,tt,tt,tt,tt,ff,tt,tt,tt,ff,ff,ff] rfl rfl rfl (by rfl) 36 rfl _ al36 ?_
      intro w2 hw2
      have hk := (hbw).alloc (hbw).size (.cells z36 36)
      have hlt9 := mA9.lt
      have mA9 := mA9.alloc (.cells z36 36)
      have hlt10 := mA10.lt
      have mA10 := mA10.alloc (.cells z36 36)
      have mA11 := HasN.new (w') z36 36 4 (by kernel_rfl)
      have hB11 := (hbw).size
      rw [← hw2] at hk mA9 mA10 mA11
      have hne9_11 : B9 ≠ w'.heap.size := by omega
      have hne10_11 : B10 ≠ w'.heap.size := by omega
      clear hw2
      refine ⟨fun _ => hk, ?_⟩
      (try simp only [sI, sS, sZ])
      exact (hT _ _ _ _).1 (St2_5_9_10_11 (B9) (B10) (w'.heap.size) (a) (xx) w2 hk ha har hxx hxxr hB9 mA9 hB10 mA10 hB11 mA11 hne9_10 hne9_11 hne10_11)
    have St2_5_8_11 : ∀ (B11 a xx yy : Nat) (w' : World), Below W50.heap.size W50 w' → a < 115792089237316195423570985008687907853269984665640564039457584007913129639936 → a % PP = A → xx < 115792089237316195423570985008687907853269984665640564039457584007913129639936 → xx % PP = XX → yy < 115792089237316195423570985008687907853269984665640564039457584007913129639936 → yy % PP = YY → W50.heap.size ≤ B11 → HasN w' B11 4 36 → T 5 #[tt,tt,tt,tt,tt,tt,tt,tt,tt,ff,ff,tt,ff,ff,ff] { tmps := #[.agg (e4 d), .agg (pt x1 y1 c1 b1), .agg (pt x2 y2 c2 b2), .pointer (some ⟨w.heap.size, 0, none⟩), .pointer (some ⟨w.heap.size + 1, 0, none⟩), .pointer (some ⟨w.heap.size + 1 + 1, 0, none⟩), .pointer (some ⟨w.heap.size + 1 + 1 + 1, 0, none⟩), .pointer (some ⟨uw1.heap.size, 0, none⟩), .pointer (some ⟨yw2.heap.size, 0, none⟩), .pointer (some ⟨yw7.heap.size, 0, none⟩), .pointer (some ⟨uw2.heap.size, 0, none⟩), .pointer (some ⟨yw23.heap.size, 0, none⟩), .pointer (some ⟨yw30.heap.size, 0, none⟩), undef, undef, .pointer (some ⟨B11, 0, none⟩), undef, undef, undef, undef, undef, .tuple #[.agg (e4 u), .agg (e4 s), .agg (e4 t)], .agg (pt x1 y1 c1 b1), .tuple #[.agg (e4 u), .agg (e4 s), .agg (e4 t)], .agg (e4 u), .agg (e4 s), .agg (e4 t), .tuple #[.agg (e4 u2), .agg (e4 s2), .agg (e4 t2)], .agg (pt x2 y2 c2 b2), .tuple #[.agg (e4 u2), .agg (e4 s2), .agg (e4 t2)], .agg (e4 u2), .agg (e4 s2), .agg (e4 t2), .agg (e4 t), .agg (e4 t2), .agg (e4 a), .agg (e4 u), .agg (e4 u2), .agg (e4 xx), .agg (e4 s), .agg (e4 s2), .agg (e4 yy), undef, undef, undef, undef, undef, undef, undef, undef, undef, undef, undef, undef, undef, undef, undef, undef, undef, undef, undef, undef, undef, undef, undef, undef, undef, undef, undef, undef, undef, undef, undef, undef, undef, undef, undef, undef, undef, undef, undef, undef, undef], defers := [] } w' := by
      intro B11 a xx yy w' hbw ha har hxx hxxr hyy hyyr hB11 mA11
      refine (hT _ _ _ _).2 ?_
      refine wpBut_r2 (i := 9) (j := 10) (by kernel_rfl) ?_ ?_
      refine go_alloc 9 13 #[tt,tt,tt,tt,tt,tt,tt,tt,tt,tt,ff,tt,ff,ff,ff] rfl rfl rfl (by rfl) 36 rfl _ al36 ?_
      intro w2 hw2
      have hk := (hbw).alloc (hbw).size (.cells z36 36)
      have hlt11 := mA11.lt
      have mA11 := mA11.alloc (.cells z36 36)
      have mA9 := HasN.new (w') z36 36 4 (by kernel_rfl)
      have hB9 := (hbw).size
      rw [← hw2] at hk mA11 mA9
      have hne9_11 : w'.heap.size ≠ B11 := by omega
      clear hw2
      refine ⟨fun _ => hk, ?_⟩
      (try simp only [sI, sS, sZ])
      exact (hT _ _ _ _).1 (St2_5_8_9_11 (w'.heap.size) (B11) (a) (xx) (yy) w2 hk ha har hxx hxxr hyy hyyr hB9 mA9 hB11 mA11 hne9_11)
      refine go_alloc 10 14 #[tt,tt,tt,tt,tt,tt,tt,tt,tt,ff,tt,tt,ff,ff,ff] rfl rfl rfl (by rfl) 36 rfl _ al36 ?_
      intro w2 hw2
      have hk := (hbw).alloc (hbw).size (.cells z36 36)
      have hlt11 := mA11.lt
      have mA11 := mA11.alloc (.cells z36 36)
      have mA10 := HasN.new (w') z36 36 4 (by kernel_rfl)
      have hB10 := (hbw).size
      rw [← hw2] at hk mA11 mA10
      have hne10_11 : w'.heap.size ≠ B11 := by omega
      clear hw2
      refine ⟨fun _ => hk, ?_⟩
      (try simp only [sI, sS, sZ])
      exact (hT _ _ _ _).1 (St2_5_8_10_11 (w'.heap.size) (B11) (a) (xx) (yy) w2 hk ha har hxx hxxr hyy hyyr hB10 mA10 hB11 mA11 hne10_11)
    have St2_5_8_10 : ∀ (B10 a xx yy : Nat) (w' : World), Below W50.heap.size W50 w' → a < 115792089237316195423570985008687907853269984665640564039457584007913129639936 → a % PP = A → xx < 115792089237316195423570985008687907853269984665640564039457584007913129639936 → xx % PP = XX → yy < 115792089237316195423570985008687907853269984665640564039457584007913129639936 → yy % PP = YY → W50.heap.size ≤ B10 → HasN w' B10 4 36 → T 5 #[tt,tt,tt,tt,tt,tt,tt,tt,tt,ff,tt,ff,ff,ff,ff] { tmps := #[.agg (e4 d), .agg (pt x1 y1 c1 b1), .agg (pt x2 y2 c2 b2), .pointer (some ⟨w.heap.size, 0, none⟩), .pointer (some ⟨w.heap.size + 1, 0, none⟩), .pointer (some ⟨w.heap.size + 1 + 1, 0, none⟩), .pointer (some ⟨w.heap.size + 1 + 1 + 1, 0, none⟩), .pointer (some ⟨uw1.heap.size, 0, none⟩), .pointer (some ⟨yw2.heap.size, 0, none⟩), .pointer (some ⟨yw7.heap.size, 0, none⟩), .pointer (some ⟨uw2.heap.size, 0, none⟩), .pointer (some ⟨yw23.heap.size, 0, none⟩), .pointer (some ⟨yw30.heap.size, 0, none⟩), undef, .pointer (some ⟨B10, 0, none⟩), undef, undef, undef, undef, undef, undef, .tuple #[.agg (e4 u), .agg (e4 s), .agg (e4 t)], .agg (pt x1 y1 c1 b1), .tuple #[.agg (e4 u), .agg (e4 s), .agg (e4 t)], .agg (e4 u), .agg (e4 s), .agg (e4 t), .tuple #[.agg (e4 u2), .agg (e4 s2), .agg (e4 t2)], .agg (pt x2 y2 c2 b2), .tuple #[.agg (e4 u2), .agg (e4 s2), .agg (e4 t2)], .agg (e4 u2), .agg (e4 s2), .agg (e4 t2), .agg (e4 t), .agg (e4 t2), .agg (e4 a), .agg (e4 u), .agg (e4 u2), .agg (e4 xx), .agg (e4 s), .agg (e4 s2), .agg (e4 yy), undef, undef, undef, undef, undef, undef, undef, undef, undef, undef, undef, undef, undef, undef, undef, undef, undef, undef, undef, undef, undef, undef, undef, undef, undef, undef, undef, undef, undef, undef, undef, undef, undef, undef, undef, undef, undef, undef, undef, undef, undef], defers := [] } w' := by
      intro B10 a xx yy w' hbw ha har hxx hxxr hyy hyyr hB10 mA10
      refine (hT _ _ _ _).2 ?_
      refine wpBut_r2 (i := 9) (j := 11) (by kernel_rfl) ?_ ?_
      refine go_alloc 9 13 #[tt,tt,tt,tt,tt,tt,tt,tt,tt,tt,tt,ff,ff,ff,ff] rfl rfl rfl (by rfl) 36 rfl _ al36 ?_
      intro w2 hw2
      have hk := (hbw).alloc (hbw).size (.cells z36 36)
      have hlt10 := mA10.lt
      have mA10 := mA10.alloc (.cells z36 36)
      have mA9 := HasN.new (w') z36 36 4 (by kernel_rfl)
      have hB9 := (hbw).size
      rw [← hw2] at hk mA10 mA9
      have hne9_10 : w'.heap.size ≠ B10 := by omega
      clear hw2
      refine ⟨fun _ => hk, ?_⟩
      (try simp only [sI, sS, sZ])
      exact (hT _ _ _ _).1 (St2_5_8_9_10 (w'.heap.size) (B10) (a) (xx) (yy) w2 hk ha har hxx hxxr hyy hyyr hB9 mA9 hB10 mA10 hne9_10)
      refine go_alloc 11 15 #[tt,tt,tt,tt,tt,tt,tt,tt,tt,ff,tt,tt,ff,ff,ff] rfl rfl rfl (by rfl) 36 rfl _ al36 ?_
      intro w2 hw2
      have hk := (hbw).alloc (hbw).size (.cells z36 36)
      have hlt10 := mA10.lt
      have mA10 := mA10.alloc (.cells z36 36)
      have mA11 := HasN.new (w') z36 36 4 (by kernel_rfl)
      have hB11 := (hbw).size
      rw [← hw2] at hk mA10 mA11
      have hne10_11 : B10 ≠ w'.heap.size := by omega
      clear hw2
      refine ⟨fun _ => hk, ?_⟩
      (try simp only [sI, sS, sZ])
      exact (hT _ _ _ _).1 (St2_5_8_10_11 (B10) (w'.heap.size) (a) (xx) (yy) w2 hk ha har hxx hxxr hyy hyyr hB10 mA10 hB11 mA11 hne10_11)
    have St2_5_8_9 : ∀ (B9 a xx yy : Nat) (w' : World), Below W50.heap.size W50 w' → a < 115792089237316195423570985008687907853269984665640564039457584007913129639936 → a % PP = A → xx < 115792089237316195423570985008687907853269984665640564039457584007913129639936 → xx % PP = XX → yy < 115792089237316195423570985008687907853269984665640564039457584007913129639936 → yy % PP = YY → W50.heap.size ≤ B9 → HasN w' B9 4 36 → T 5 #[tt,tt,tt,tt,tt,tt,tt,tt,tt,tt,ff,ff,ff,ff,ff] { tmps := #[.agg (e4 d), .agg (pt x1 y1 c1 b1), .agg (pt x2 y2 c2 b2), .pointer (some ⟨w.heap.size, 0, none⟩), .pointer (some ⟨w.heap.size + 1, 0, none⟩), .pointer (some ⟨w.heap.size + 1 + 1, 0, none⟩), .pointer (some ⟨w.heap.size + 1 + 1 + 1, 0, none⟩), .pointer (some ⟨uw1.heap.size, 0, none⟩), .pointer (some ⟨yw2.heap.size, 0, none⟩), .pointer (some ⟨yw7.heap.size, 0, none⟩), .pointer (some ⟨uw2.heap.size, 0, none⟩), .pointer (some ⟨yw23.heap.size, 0, none⟩), .pointer (some ⟨yw30.heap.size, 0, none⟩), .pointer (some ⟨B9, 0, none⟩), undef, undef, undef, undef, undef, undef, undef, .tuple #[.agg (e4 u), .agg (e4 s), .agg (e4 t)], .agg (pt x1 y1 c1 b1), .tuple #[.agg (e4 u), .agg (e4 s), .agg (e4 t)], .agg (e4 u), .agg (e4 s), .agg (e4 t), .tuple #[.agg (e4 u2), .agg (e4 s2), .agg (e4 t2)], .agg (pt x2 y2 c2 b2), .tuple #[.agg (e4 u2), .agg (e4 s2), .agg (e4 t2)], .agg (e4 u2), .agg (e4 s2), .agg (e4 t2), .agg (e4 t), .agg (e4 t2), .agg (e4 a), .agg (e4 u), .agg (e4 u2), .agg (e4 xx), .agg (e4 s), .agg (e4 s2), .agg (e4 yy), undef, undef, undef, undef, undef, undef, undef, undef, undef, undef, undef, undef, undef, undef, undef, undef, undef, undef, undef, undef, undef, undef, undef, undef, undef, undef, undef, undef, undef, undef, undef, undef, undef, undef, undef, undef, undef, undef, undef, undef, undef], defers := [] } w' := by
      intro B9 a xx yy w' hbw ha har hxx hxxr hyy hyyr hB9 mA9
      refine (hT _ _ _ _).2 ?_
      refine wpBut_r2 (i := 10) (j := 11) (by kernel_rfl) ?_ ?_
      refine go_alloc 10 14 #[tt,tt,tt,tt,tt,tt,tt,tt,tt,tt,tt,ff,ff,ff,ff] rfl rfl rfl (by rfl) 36 rfl _ al36 ?_
      intro w2 hw2
      have hk := (hbw).alloc (hbw).size (.cells z36 36)
      have hlt9 := mA9.lt
      have mA9 := mA9.alloc (.cells z36 36)
      have mA10 := HasN.new (w') z36 36 4 (by kernel_rfl)
      have hB10 := (hbw).size
      rw [← hw2] at hk mA9 mA10
      have hne9_10 : B9 ≠ w'.heap.size := by omega
      clear hw2
      refine ⟨fun _ => hk, ?_⟩
      (try simp only [sI, sS, sZ])
      exact (hT _ _ _ _).1 (St2_5_8_9_10 (B9) (w'.heap.size) (a) (xx) (yy) w2 hk ha har hxx hxxr hyy hyyr hB9 mA9 hB10 mA10 hne9_10)
      refine go_alloc 11 15 #[tt,tt,tt,tt,tt,tt,tt,tt,tt,tt,ff,tt,ff,ff,ff] rfl rfl rfl (by rfl) 36 rfl _ al36 ?_
      intro w2 hw2
      have hk := (hbw).alloc (hbw).size (.cells z36 36)
      have hlt9 := mA9.lt
      have mA9 := mA9.alloc (.cells z36 36)
      have mA11 := HasN.new (w') z36 36 4 (by kernel_rfl)
      have hB11 := (hbw).size
      rw [← hw2] at hk mA9 mA11
      have hne9_11 : B9 ≠ w'.heap.size := by omega
      clear hw2
      refine ⟨fun _ => hk, ?_⟩
      (try simp only [sI, sS, sZ])
      exact (hT _ _ _ _).1 (St2_5_8_9_11 (B9) (w'.heap.size) (a) (xx) (yy) w2 hk ha har hxx hxxr hyy hyyr hB9 mA9 hB11 mA11 hne9_11)
    have St9_10_11 : ∀ (B9 B10 B11 : Nat) (w' : World), Below W50.heap.size W50 w' → W50.heap.size ≤ B9 → HasN w' B9 4 36 → W50.heap.size ≤ B10 → HasN w' B10 4 36 → W50.heap.size ≤ B11 → HasN w' B11 4 36 → B9 ≠ B10 → B9 ≠ B11 → B10 ≠ B11 → T 6 #[tt,tt,ff,tt,tt,ff,tt,tt,ff,tt,tt,tt,ff,ff,ff] { tmps := #[.agg (e4 d), .agg (pt x1 y1 c1 b1), .agg (pt x2 y2 c2 b2), .pointer (some ⟨w.heap.size, 0, none⟩), .pointer (some ⟨w.heap.size + 1, 0, none⟩), .pointer (some ⟨w.heap.size + 1 + 1, 0, none⟩), .pointer (some ⟨w.heap.size + 1 + 1 + 1, 0, none⟩), .pointer (some ⟨uw1.heap.size, 0, none⟩), .pointer (some ⟨yw2.heap.size, 0, none⟩), .pointer (some ⟨yw7.heap.size, 0, none⟩), .pointer (some ⟨uw2.heap.size, 0, none⟩), .pointer (some ⟨yw23.heap.size, 0, none⟩), .pointer (some ⟨yw30.heap.size, 0, none⟩), .pointer (some ⟨B9, 0, none⟩), .pointer (some ⟨B10, 0, none⟩), .pointer (some ⟨B11, 0, none⟩), undef, undef, undef, undef, undef, .tuple #[.agg (e4 u), .agg (e4 s), .agg (e4 t)], .agg (pt x1 y1 c1 b1), .tuple #[.agg (e4 u), .agg (e4 s), .agg (e4 t)], .agg (e4 u), .agg (e4 s), .agg (e4 t), .tuple #[.agg (e4 u2), .agg (e4 s2), .agg (e4 t2)], .agg (pt x2 y2 c2 b2), .tuple #[.agg (e4 u2), .agg (e4 s2), .agg (e4 t2)], .agg (e4 u2), .agg (e4 s2), .agg (e4 t2), .agg (e4 t), .agg (e4 t2), undef, .agg (e4 u), .agg (e4 u2), undef, .agg (e4 s), .agg (e4 s2), undef, undef, undef, undef, undef, undef, undef, undef, undef, undef, undef, undef, undef, undef, undef, undef, undef, undef, undef, undef, undef, undef, undef, undef, undef, undef, undef, undef, undef, undef, undef, undef, undef, undef, undef, undef, undef, undef, undef, undef, undef, undef], defers := [] } w' := by
      intro B9 B10 B11 w' hbw hB9 mA9 hB10 mA10 hB11 mA11 hne9_10 hne9_11 hne10_11
      refine (hT _ _ _ _).2 ?_
      refine wpBut_r1 (i := 2) (by kernel_rfl) ?_
      refine go_call 2 35 #[tt,tt,tt,tt,tt,ff,tt,tt,ff,tt,tt,tt,ff,ff,ff] rfl rfl rfl (by rfl) rfl rfl (by rfl) ent31 (by rfl) (Ht.out t t2 ht ht2 _) ?_
      rintro e w2 ⟨a, ha, har, rfl, hb⟩
      have hk := held_next hbw hb
      have mA9 := mA9.call hb
      have mA10 := mA10.call hb
      have mA11 := mA11.call hb
      have haq := r_mul a t t2 Z1 Z2 A har (Htr.out) (Ht2r.out) DA.out
      clear har
      have har := haq
      clear haq
      refine ⟨_, rfl, fun _ => hk, ?_⟩
      (try simp only [sI, sS, sZ])
      exact (hT _ _ _ _).1 (St2_9_10_11 (B9) (B10) (B11) (a) w2 hk ha har hB9 mA9 hB10 mA10 hB11 mA11 hne9_10 hne9_11 hne10_11)
    have St2_10_11 : ∀ (B10 B11 a : Nat) (w' : World), Below W50.heap.size W50 w' → a < 115792089237316195423570985008687907853269984665640564039457584007913129639936 → a % PP = A → W50.heap.size ≤ B10 → HasN w' B10 4 36 → W50.heap.size ≤ B11 → HasN w' B11 4 36 → B10 ≠ B11 → T 6 #[tt,tt,tt,tt,tt,ff,tt,tt,ff,ff,tt,tt,ff,ff,ff] { tmps := #[.agg (e4 d), .agg (pt x1 y1 c1 b1), .agg (pt x2 y2 c2 b2), .pointer (some ⟨w.heap.size, 0, none⟩), .pointer (some ⟨w.heap.size + 1, 0, none⟩), .pointer (some ⟨w.heap.size + 1 + 1, 0, none⟩), .pointer (some ⟨w.heap.size + 1 + 1 + 1, 0, none⟩), .pointer (some ⟨uw1.heap.size, 0, none⟩), .pointer (some ⟨yw2.heap.size, 0, none⟩), .pointer (some ⟨yw7.heap.size, 0, none⟩), .pointer (some ⟨uw2.heap.size, 0, none⟩), .pointer (some ⟨yw23.heap.size, 0, none⟩), .pointer (some ⟨yw30.heap.size, 0, none⟩), undef, .pointer (some ⟨B10, 0, none⟩), .pointer (some ⟨B11, 0, none⟩), undef, undef, undef, undef, undef, .tuple #[.agg (e4 u), .agg (e4 s), .agg (e4 t)], .agg (pt x1 y1 c1 b1), .tuple #[.agg (e4 u), .agg (e4 s), .agg (e4 t)], .agg (e4 u), .agg (e4 s), .agg (e4 t), .tuple #[.agg (e4 u2), .agg (e4 s2), .agg (e4 t2)], .agg (pt x2 y2 c2 b2), .tuple #[.agg (e4 u2), .agg (e4 s2), .agg (e4 t2)], .agg (e4 u2), .agg (e4 s2), .agg (e4 t2), .agg (e4 t), .agg (e4 t2), .agg (e4 a), .agg (e4 u), .agg (e4 u2), undef, .agg (e4 s), .agg (e4 s2), undef, undef, undef, undef, undef, undef, undef, undef, undef, undef, undef, undef, undef, undef, undef, undef, undef, undef, undef, undef, undef, undef, undef, undef, undef, undef, undef, undef, undef, undef, undef, undef, undef, undef, undef, undef, undef, undef, undef, undef, undef, undef], defers := [] } w' := by
      intro B10 B11 a w' hbw ha har hB10 mA10 hB11 mA11 hne10_11
      refine (hT _ _ _ _).2 ?_
      refine wpBut_r2 (i := 5) (j := 9) (by kernel_rfl) ?_ ?_
      refine go_call 5 38 #[tt,tt,tt,tt,tt,tt,tt,tt,ff,ff,tt,tt,ff,ff,ff] rfl rfl rfl (by rfl) rfl rfl (by rfl) ent31 (by rfl) (Ht.out u u2 hu hu2 _) ?_
      rintro e w2 ⟨xx, hxx, hxxr, rfl, hb⟩
      have hk := held_next hbw hb
      have mA10 := mA10.call hb
      have mA11 := mA11.call hb
      have hxxq := r_mul xx u u2 X1 X2 XX hxxr (Hur.out) (Hu2r.out) DXX.out
      clear hxxr
      have hxxr := hxxq
      clear hxxq
      refine ⟨_, rfl, fun _ => hk, ?_⟩
      (try simp only [sI, sS, sZ])
      exact (hT _ _ _ _).1 (St2_5_10_11 (B10) (B11) (a) (xx) w2 hk ha har hxx hxxr hB10 mA10 hB11 mA11 hne10_11)
      refine go_alloc 9 13 #[tt,tt,tt,tt,tt,ff,tt,tt,ff,tt,tt,tt,ff,ff,ff] rfl rfl rfl (by rfl) 36 rfl _ al36 ?_
      intro w2 hw2
      have hk := (hbw).alloc (hbw).size (.cells z36 36)
      have hlt10 := mA10.lt
      have mA10 := mA10.alloc (.cells z36 36)
      have hlt11 := mA11.lt
      have mA11 := mA11.alloc (.cells z36 36)
      have mA9 := HasN.new (w') z36 36 4 (by kernel_rfl)
      have hB9 := (hbw).size
      rw [← hw2] at hk mA10 mA11 mA9
      have hne9_10 : w'.heap.size ≠ B10 := by omega
      have hne9_11 : w'.heap.size ≠ B11 := by omega
      clear hw2
      refine ⟨fun _ => hk, ?_⟩
      (try simp only [sI, sS, sZ])
      exact (hT _ _ _ _).1 (St2_9_10_11 (w'.heap.size) (B10) (B11) (a) w2 hk ha har hB9 mA9 hB10 mA10 hB11 mA11 hne9_10 hne9_11 hne10_11)
    have St2_9_11 : ∀ (B9 B11 a : Nat) (w' : World), Below W50.heap.size W50 w' → a < 115792089237316195423570985008687907853269984665640564039457584007913129639936 → a % PP = A → W50.heap.size ≤ B9 → HasN w' B9 4 36 → W50.heap.size ≤ B11 → HasN w' B11 4 36 → B9 ≠ B11 → T 6 #[tt,tt,tt,tt,tt,ff,tt,tt,ff,tt,ff,tt,ff,ff,ff] { tmps := #[.agg (e4 d), .agg (pt x1 y1 c1 b1), .agg (pt x2 y2 c2 b2), .pointer (some ⟨w.heap.size, 0, none⟩), .pointer (some ⟨w.heap.size + 1, 0, none⟩), .pointer (some ⟨w.heap.size + 1 + 1, 0, none⟩), .pointer (some ⟨w.heap.size + 1 + 1 + 1, 0, none⟩), .pointer (some ⟨uw1.heap.size, 0, none⟩), .pointer (some ⟨yw2.heap.size, 0, none⟩), .pointer (some ⟨yw7.heap.size, 0, none⟩), .pointer (some ⟨uw2.heap.size, 0, none⟩), .pointer (some ⟨yw23.heap.size, 0, none⟩), .pointer (some ⟨yw30.heap.size, 0, none⟩), .pointer (some ⟨B9, 0, none⟩), undef, .pointer (some ⟨B11, 0, none⟩), undef, undef, undef, undef, undef, .tuple #[.agg (e4 u), .agg (e4 s), .agg (e4 t)], .agg (pt x1 y1 c1 b1), .tuple #[.agg (e4 u), .agg (e4 s), .agg (e4 t)], .agg (e4 u), .agg (e4 s), .agg (e4 t), .tuple #[.agg (e4 u2), .agg (e4 s2), .agg (e4 t2)], .agg (pt x2 y2 c2 b2), .tuple #[.agg (e4 u2), .agg (e4 s2), .agg (e4 t2)], .agg (e4 u2), .agg (e4 s2), .agg (e4 t2), .agg (e4 t), .agg (e4 t2), .agg (e4 a), .agg (e4 u), .agg (e4 u2), undef, .agg (e4 s), .agg (e4 s2), undef, undef, undef, undef, undef, undef, undef, undef, undef, undef, undef, undef, undef, undef, undef, undef, undef, undef, undef, undef, undef, undef, undef, undef, undef, undef, undef, undef, undef, undef, undef, undef, undef, undef, undef, undef, undef, undef, undef, undef, undef, undef], defers := [] } w' := by
      intro B9 B11 a w' hbw ha har hB9 mA9 hB11 mA11 hne9_11
      refine (hT _ _ _ _).2 ?_
      refine wpBut_r2 (i := 5) (j := 10) (by kernel_rfl) ?_ ?_
      refine go_call 5 38 #[tt,tt,tt,tt,tt,tt,tt,tt,ff,tt,ff,tt,ff,ff,ff] rfl rfl rfl (by rfl) rfl rfl (by rfl) ent31 (by rfl) (Ht.out u u2 hu hu2 _) ?_
      rintro e w2 ⟨xx, hxx, hxxr, rfl, hb⟩
      have hk := held_next hbw hb
      have mA9 := mA9.call hb
      have mA11 := mA11.call hb
      have hxxq := r_mul xx u u2 X1 X2 XX hxxr (Hur.out) (Hu2r.out) DXX.out
      clear hxxr
      have hxxr := hxxq
      clear hxxq
      refine ⟨_, rfl, fun _ => hk, ?_⟩
      (try simp only [sI, sS, sZ])
      exact (hT _ _ _ _).1 (St2_5_9_11 (B9) (B11) (a) (xx) w2 hk ha har hxx hxxr hB9 mA9 hB11 mA11 hne9_11)
      refine go_alloc 10 14 #[tt,tt,tt,tt,tt,ff,tt,tt,ff,tt,tt,tt,ff,ff,ff] rfl rfl rfl (by rfl) 36 rfl _ al36 ?_
      intro w2 hw2
      have hk := (hbw).alloc (hbw).size (.cells z36 36)
      have hlt9 := mA9.lt
      have mA9 := mA9.alloc (.cells z36 36)
      have hlt11 := mA11.lt
      have mA11 := mA11.alloc (.cells z36 36)
      have mA10 := HasN.new (w') z36 36 4 (by kernel_rfl)
      have hB10 := (hbw).size
      rw [← hw2] at hk mA9 mA11 mA10
      have hne9_10 : B9 ≠ w'.heap.size := by omega
      have hne10_11 : w'.heap.size ≠ B11 := by omega
      clear hw2
      refine ⟨fun _ => hk, ?_⟩
      (try simp only [sI, sS, sZ])
      exact (hT _ _ _ _).1 (St2_9_10_11 (B9) (w'.heap.size) (B11) (a) w2 hk ha har hB9 mA9 hB10 mA10 hB11 mA11 hne9_10 hne9_11 hne10_11)
    have St2_9_10 : ∀ (B9 B10 a : Nat) (w' : World), Below W50.heap.size W50 w' → a < 115792089237316195423570985008687907853269984665640564039457584007913129639936 → a % PP = A → W50.heap.size ≤ B9 → HasN w' B9 4 36 → W50.heap.size ≤ B10 → HasN w' B10 4 36 → B9 ≠ B10 → T 6 #[tt,tt,tt,tt,tt,ff,tt,tt,ff,tt,tt,ff,ff,ff,ff] { tmps := #[.agg (e4 d), .agg (pt x1 y1 c1 b1), .agg (pt x2 y2 c2 b2), .pointer (some ⟨w.heap.size, 0, none⟩), .pointer (some ⟨w.heap.size + 1, 0, none⟩), .pointer (some ⟨w.heap.size + 1 + 1, 0, none⟩), .pointer (some ⟨w.heap.size + 1 + 1 + 1, 0, none⟩), .pointer (some ⟨uw1.heap.size, 0, none⟩), .pointer (some ⟨yw2.heap.size, 0, none⟩), .pointer (some ⟨yw7.heap.size, 0, none⟩), .pointer (some ⟨uw2.heap.size, 0, none⟩), .pointer (some ⟨yw23.heap.size, 0, none⟩), .pointer (some ⟨yw30.heap.size, 0, none⟩), .pointer (some ⟨B9, 0, none⟩), .pointer (some ⟨B10, 0, none⟩), undef, undef, undef, undef, undef, undef, .tuple #[.agg (e4 u), .agg (e4 s), .agg (e4 t)], .agg (pt x1 y1 c1 b1), .tuple #[.agg (e4 u), .agg (e4 s), .agg (e4 t)], .agg (e4 u), .agg (e4 s), .agg (e4 t), .tuple #[.agg (e4 u2), .agg (e4 s2), .agg (e4 t2)], .agg (pt x2 y2 c2 b2), .tuple #[.agg (e4 u2), .agg (e4 s2), .agg (e4 t2)], .agg (e4 u2), .agg (e4 s2), .agg (e4 t2), .agg (e4 t), .agg (e4 t2), .agg (e4 a), .agg (e4 u), .agg (e4 u2), undef, .agg (e4 s), .agg (e4 s2), undef, undef, undef, undef, undef, undef, undef, undef, undef, undef, undef, undef, undef, undef, undef, undef, undef, undef, undef, undef, undef, undef, undef, undef, undef, undef, undef, undef, undef, undef, undef, undef, undef, undef, undef, undef, undef, undef, undef, undef, undef, undef], defers := [] } w' := by
      intro B9 B10 a w' hbw ha har hB9 mA9 hB10 mA10 hne9_10
      refine (hT _ _ _ _).2 ?_
      refine wpBut_r2 (i := 5) (j := 11) (by kernel_rfl) ?_ ?_
      refine go_call 5 38 #[tt,tt,tt,tt,tt,tt,tt,tt,ff,tt,tt,ff,ff,ff,ff] rfl rfl rfl (by rfl) rfl rfl (by rfl) ent31 (by rfl) (Ht.out u u2 hu hu2 _) ?_
      rintro e w2 ⟨xx, hxx, hxxr, rfl, hb⟩
      have hk := held_next hbw hb
      have mA9 := mA9.call hb
      have mA10 := mA10.call hb
      have hxxq := r_mul xx u u2 X1 X2 XX hxxr (Hur.out) (Hu2r.out) DXX.out
      clear hxxr
      have hxxr := hxxq
      clear hxxq
      refine ⟨_, rfl, fun _ => hk, ?_⟩
      (try simp only [sI, sS, sZ])
      exact (hT _ _ _ _).1 (St2_5_9_10 (B9) (B10) (a) (xx) w2 hk ha har hxx hxxr hB9 mA9 hB10 mA10 hne9_10)
      refine go_alloc 11 15 #[tt,tt,tt,tt,tt,ff,tt,tt,ff,tt,tt,tt,ff,ff,ff] rfl rfl rfl (by rfl) 36 rfl _ al36 ?_
      intro w2 hw2
      have hk := (hbw).alloc (hbw).size (.cells z36 36)
      have hlt9 := mA9.lt
      have mA9 := mA9.alloc (.cells z36 36)
      have hlt10 := mA10.lt
      have mA10 := mA10.alloc (.cells z36 36)
      have mA11 := HasN.new (w') z36 36 4 (by kernel_rfl)
      have hB11 := (hbw).size
      rw [← hw2] at hk mA9 mA10 mA11
      have hne9_11 : B9 ≠ w'.heap.size := by omega
      have hne10_11 : B10 ≠ w'.heap.size := by omega
      clear hw2
      refine ⟨fun _ => hk, ?_⟩
      (try simp only [sI, sS, sZ])
      exact (hT _ _ _ _).1 (St2_9_10_11 (B9) (B10) (w'.heap.size) (a) w2 hk ha har hB9 mA9 hB10 mA10 hB11 mA11 hne9_10 hne9_11 hne10_11)
    have St2_5_11 : ∀ (B11 a xx : Nat) (w' : World), Below W50.heap.size W50 w' → a < 115792089237316195423570985008687907853269984665640564039457584007913129639936 → a % PP = A → xx < 115792089237316195423570985008687907853269984665640564039457584007913129639936 → xx % PP = XX → W50.heap.size ≤ B11 → HasN w' B11 4 36 → T 6 #[tt,tt,tt,tt,tt,tt,tt,tt,ff,ff,ff,tt,ff,ff,ff] { tmps := #[.agg (e4 d), .agg (pt x1 y1 c1 b1), .agg (pt x2 y2 c2 b2), .pointer (some ⟨w.heap.size, 0, none⟩), .pointer (some ⟨w.heap.size + 1, 0, none⟩), .pointer (some ⟨w.heap.size + 1 + 1, 0, none⟩), .pointer (some ⟨w.heap.size + 1 + 1 + 1, 0, none⟩), .pointer (some ⟨uw1.heap.size, 0, none⟩), .pointer (some ⟨yw2.heap.size, 0, none⟩), .pointer (some ⟨yw7.heap.size, 0, none⟩), .pointer (some ⟨uw2.heap.size, 0, none⟩), .pointer (some ⟨yw23.heap.size, 0, none⟩), .pointer (some ⟨yw30.heap.size, 0, none⟩), undef, undef, .pointer (some ⟨B11, 0, none⟩), undef, undef, undef, undef, undef, .tuple #[.agg (e4 u), .agg (e4 s), .agg (e4 t)], .agg (pt x1 y1 c1 b1), .tuple #[.agg (e4 u), .agg (e4 s), .agg (e4 t)], .agg (e4 u), .agg (e4 s), .agg (e4 t), .tuple #[.agg (e4 u2), .agg (e4 s2), .agg (e4 t2)], .agg (pt x2 y2 c2 b2), .tuple #[.agg (e4 u2), .agg (e4 s2), .agg (e4 t2)], .agg (e4 u2), .agg (e4 s2), .agg (e4 t2), .agg (e4 t), .agg (e4 t2), .agg (e4 a), .agg (e4 u), .agg (e4 u2), .agg (e4 xx), .agg (e4 s), .agg (e4 s2), undef, undef, undef, undef, undef, undef, undef, undef, undef, undef, undef, undef, undef, undef, undef, undef, undef, undef, undef, undef, undef, undef, undef, undef, undef, undef, undef, undef, undef, undef, undef, undef, undef, undef, undef, undef, undef, undef, undef, undef, undef, undef], defers := [] } w' := by
      intro B11 a xx w' hbw ha har hxx hxxr hB11 mA11
      refine (hT _ _ _ _).2 ?_
      refine wpBut_r3 (i := 8) (j := 9) (l := 10) (by kernel_rfl) ?_ ?_ ?_
      refine go_call 8 41 #[tt,tt,tt,tt,tt,tt,tt,tt,tt,ff,ff,tt,ff,ff,ff] rfl rfl rfl (by rfl) rfl rfl (by rfl) ent31 (by rfl) (Ht.out s s2 hs hs2 _) ?_
      rintro e w2 ⟨yy, hyy, hyyr, rfl, hb⟩
      have hk := held_next hbw hb
      have mA11 := mA11.call hb
      have hyyq := r_mul yy s s2 Y1 Y2 YY hyyr (Hsr.out) (Hs2r.out) DYY.out
      clear hyyr
      have hyyr := hyyq
      clear hyyq
      refine ⟨_, rfl, fun _ => hk, ?_⟩
      (try simp only [sI, sS, sZ])
      exact (hT _ _ _ _).1 (St2_5_8_11 (B11) (a) (xx) (yy) w2 hk ha har hxx hxxr hyy hyyr hB11 mA11)
      refine go_alloc 9 13 #[tt,tt,tt,tt,tt,tt,tt,tt,ff,tt,ff,tt,ff,ff,ff] rfl rfl rfl (by rfl) 36 rfl _ al36 ?_
      intro w2 hw2
      have hk := (hbw).alloc (hbw).size (.cells z36 36)
      have hlt11 := mA11.lt
      have mA11 := mA11.alloc (.cells z36 36)
      have mA9 := HasN.new (w') z36 36 4 (by kernel_rfl)
      have hB9 := (hbw).size
      rw [← hw2] at hk mA11 mA9
      have hne9_11 : w'.heap.size ≠ B11 := by omega
      clear hw2
      refine ⟨fun _ => hk, ?_⟩
      (try simp only [sI, sS, sZ])
      exact (hT _ _ _ _).1 (St2_5_9_11 (w'.heap.size) (B11) (a) (xx) w2 hk ha har hxx hxxr hB9 mA9 hB11 mA11 hne9_11)
      refine go_alloc 10 14 #[tt,tt,tt,tt,tt,tt,tt,tt,ff,ff,tt,tt,ff,ff,ff] rfl rfl rfl (by rfl) 36 rfl _ al36 ?_
      intro w2 hw2
      have hk := (hbw).alloc (hbw).size (.cells z36 36)
      have hlt11 := mA11.lt
      have mA11 := mA11.alloc (.cells z36 36)
      have mA10 := HasN.new (w') z36 36 4 (by kernel_rfl)
      have hB10 := (hbw).size
      rw [← hw2] at hk mA11 mA10
      have hne10_11 : w'.heap.size ≠ B11 := by omega
      clear hw2
      refine ⟨fun _ => hk, ?_⟩
      (try simp only [sI, sS, sZ])
      exact (hT _ _ _ _).1 (St2_5_10_11 (w'.heap.size) (B11) (a) (xx) w2 hk ha har hxx hxxr hB10 mA10 hB11 mA11 hne10_11)
    have St2_5_10 : ∀ (B10 a xx : Nat) (w' : World), Below W50.heap.size W50 w' → a < 115792089237316195423570985008687907853269984665640564039457584007913129639936 → a % PP = A → xx < 115792089237316195423570985008687907853269984665640564039457584007913129639936 → xx % PP = XX → W50.heap.size ≤ B10 → HasN w' B10 4 36 → T 6 #[tt,tt,tt,tt,tt,tt,tt,tt,ff,ff,tt,ff,ff,ff,ff] { tmps := #[.agg (e4 d), .agg (pt x1 y1 c1 b1), .agg (pt x2 y2 c2 b2), .pointer (some ⟨w.heap.size, 0, none⟩), .pointer (some ⟨w.heap.size + 1, 0, none⟩), .pointer (some ⟨w.heap.size + 1 + 1, 0, none⟩), .pointer (some ⟨w.heap.size + 1 + 1 + 1, 0, none⟩), .pointer (some ⟨uw1.heap.size, 0, none⟩), .pointer (some ⟨yw2.heap.size, 0, none⟩), .pointer (some ⟨yw7.heap.size, 0, none⟩), .pointer (some ⟨uw2.heap.size, 0, none⟩), .pointer (some ⟨yw23.heap.size, 0, none⟩), .pointer (some ⟨yw30.heap.size, 0, none⟩), undef, .pointer (some ⟨B10, 0, none⟩), undef, undef, undef, undef, undef, undef, .tuple #[.agg (e4 u), .agg (e4 s), .agg (e4 t)], .agg (pt x1 y1 c1 b1), .tuple #[.agg (e4 u), .agg (e4 s), .agg (e4 t)], .agg (e4 u), .agg (e4 s), .agg (e4 t), .tuple #[.agg (e4 u2), .agg (e4 s2), .agg (e4 t2)], .agg (pt x2 y2 c2 b2), .tuple #[.agg (e4 u2), .agg (e4 s2), .agg (e4 t2)], .agg (e4 u2), .agg (e4 s2), .agg (e4 t2), .agg (e4 t), .agg (e4 t2), .agg (e4 a), .agg (e4 u), .agg (e4 u2), .agg (e4 xx), .agg (e4 s), .agg (e4 s2), undef, undef, undef, undef, undef, undef, undef, undef, undef, undef, undef, undef, undef, undef, undef, undef, undef, undef, undef, undef, undef, undef, undef, undef, undef, undef, undef, undef, undef, undef, undef, undef, undef, undef, undef, undef, undef, undef, undef, undef, undef, undef], defers := [] } w' := by
      intro B10 a xx w' hbw ha har hxx hxxr hB10 mA10
      refine (hT _ _ _ _).2 ?_
      refine wpBut_r3 (i := 8) (j := 9) (l := 11) (by kernel_rfl) ?_ ?_ ?_
      refine go_call 8 41 #[tt,tt,tt,tt,tt,tt,tt,tt,tt,ff,tt,ff,ff,ff,ff] rfl rfl rfl (by rfl) rfl rfl (by rfl) ent31 (by rfl) (Ht.out s s2 hs hs2 _) ?_
      rintro e w2 ⟨yy, hyy, hyyr, rfl, hb⟩
      have hk := held_next hbw hb
      have mA10 := mA10.call hb
      have hyyq := r_mul yy s s2 Y1 Y2 YY hyyr (Hsr.out) (Hs2r.out) DYY.out
      clear hyyr
      have hyyr := hyyq
      clear hyyq
      refine ⟨_, rfl, fun _ => hk, ?_⟩
      (try simp only [sI, sS, sZ])
      exact (hT _ _ _ _).1 (St2_5_8_10 (B10) (a) (xx) (yy) w2 hk ha har hxx hxxr hyy hyyr hB10 mA10)
      refine go_alloc 9 13 #[tt,tt,tt,tt,tt,tt,tt,tt,ff,tt,tt,ff,ff,ff,ff] rfl rfl rfl (by rfl) 36 rfl _ al36 ?_
      intro w2 hw2
      have hk := (hbw).alloc (hbw).size (.cells z36 36)
      have hlt10 := mA10.lt
      have mA10 := mA10.alloc (.cells z36 36)
      have mA9 := HasN.new (w') z36 36 4 (by kernel_rfl)
      have hB9 := (hbw).size
      rw [← hw2] at hk mA10 mA9
      have hne9_10 : w'.heap.size ≠ B10 := by omega
      clear hw2
      refine ⟨fun _ => hk, ?_⟩
      (try simp only [sI, sS, sZ])
      exact (hT _ _ _ _).1 (St2_5_9_10 (w'.heap.size) (B10) (a) (xx) w2 hk ha har hxx hxxr hB9 mA9 hB10 mA10 hne9_10)
      refine go_alloc 11 15 #[tt,tt,tt,tt,tt,tt,tt,tt,ff,ff,tt,tt,ff,ff,ff] rfl rfl rfl (by rfl) 36 rfl _ al36 ?_
      intro w2 hw2
      have hk := (hbw).alloc (hbw).size (.cells z36 36)
      have hlt10 := mA10.lt
      have mA10 := mA10.alloc (.cells z36 36)
      have mA11 := HasN.new (w') z36 36 4 (by kernel_rfl)
      have hB11 := (hbw).size
      rw [← hw2] at hk mA10 mA11
      have hne10_11 : B10 ≠ w'.heap.size := by omega
      clear hw2
      refine ⟨fun _ => hk, ?_⟩
      (try simp only [sI, sS, sZ])
      exact (hT _ _ _ _).1 (St2_5_10_11 (B10) (w'.heap.size) (a) (xx) w2 hk ha har hxx hxxr hB10 mA10 hB11 mA11 hne10_11)
    have St2_5_9 : ∀ (B9 a xx : Nat) (w' : World), Below W50.heap.size W50 w' → a < 115792089237316195423570985008687907853269984665640564039457584007913129639936 → a % PP = A → xx < 115792089237316195423570985008687907853269984665640564039457584007913129639936 → xx % PP = XX → W50.heap.size ≤ B9 → HasN w' B9 4 36 → T 6 #[tt,tt,tt,tt,tt,tt,tt,tt,ff,tt,ff,ff,ff,ff,ff] { tmps := #[.agg (e4 d), .agg (pt x1 y1 c1 b1), .agg (pt x2 y2 c2 b2), .pointer (some ⟨w.heap.size, 0, none⟩), .pointer (some ⟨w.heap.size + 1, 0, none⟩), .pointer (some ⟨w.heap.size + 1 + 1, 0, none⟩), .pointer (some ⟨w.heap.size + 1 + 1 + 1, 0, none⟩), .pointer (some ⟨uw1.heap.size, 0, none⟩), .pointer (some ⟨yw2.heap.size, 0, none⟩), .pointer (some ⟨yw7.heap.size, 0, none⟩), .pointer (some ⟨uw2.heap.size, 0, none⟩), .pointer (some ⟨yw23.heap.size, 0, none⟩), .pointer (some ⟨yw30.heap.size, 0, none⟩), .pointer (some ⟨B9, 0, none⟩), undef, undef, undef, undef, undef, undef, undef, .tuple #[.agg (e4 u), .agg (e4 s), .agg (e4 t)], .agg (pt x1 y1 c1 b1), .tuple #[.agg (e4 u), .agg (e4 s), .agg (e4 t)], .agg (e4 u), .agg (e4 s), .agg (e4 t), .tuple #[.agg (e4 u2), .agg (e4 s2), .agg (e4 t2)], .agg (pt x2 y2 c2 b2), .tuple #[.agg (e4 u2), .agg (e4 s2), .agg (e4 t2)], .agg (e4 u2), .agg (e4 s2), .agg (e4 t2), .agg (e4 t), .agg (e4 t2), .agg (e4 a), .agg (e4 u), .agg (e4 u2), .agg (e4 xx), .agg (e4 s), .agg (e4 s2), undef, undef, undef, undef, undef, undef, undef, undef, undef, undef, undef, undef, undef, undef, undef, undef, undef, undef, undef, undef, undef, undef, undef, undef, undef, undef, undef, undef, undef, undef, undef, undef, undef, undef, undef, undef, undef, undef, undef, undef, undef, undef], defers := [] } w' := by
      intro B9 a xx w' hbw ha har hxx hxxr hB9 mA9
      refine (hT _ _ _ _).2 ?_
      refine wpBut_r3 (i := 8) (j := 10) (l := 11) (by kernel_rfl) ?_ ?_ ?_
      refine go_call 8 41 #[tt,tt,tt,tt,tt,tt,tt,tt,tt,tt,ff,ff,ff,ff,ff] rfl rfl rfl (by rfl) rfl rfl (by rfl) ent31 (by rfl) (Ht.out s s2 hs hs2 _) ?_
      rintro e w2 ⟨yy, hyy, hyyr, rfl, hb⟩
      have hk := held_next hbw hb
      have mA9 := mA9.call hb
      have hyyq := r_mul yy s s2 Y1 Y2 YY hyyr (Hsr.out) (Hs2r.out) DYY.out
      clear hyyr
      have hyyr := hyyq
      clear hyyq
      refine ⟨_, rfl, fun _ => hk, ?_⟩
      (try simp only [sI, sS, sZ])
      exact (hT _ _ _ _).1 (St2_5_8_9 (B9) (a) (xx) (yy) w2 hk ha har hxx hxxr hyy hyyr hB9 mA9)
      refine go_alloc 10 14 #[tt,tt,tt,tt,tt,tt,tt,tt,ff,tt,tt,ff,ff,ff,ff] rfl rfl rfl (by rfl) 36 rfl _ al36 ?_
      intro w2 hw2
      have hk := (hbw).alloc (hbw).size (.cells z36 36)
      have hlt9 := mA9.lt
      have mA9 := mA9.alloc (.cells z36 36)
      have mA10 := HasN.new (w') z36 36 4 (by kernel_rfl)
      have hB10 := (hbw).size
      rw [← hw2] at hk mA9 mA10
      have hne9_10 : B9 ≠ w'.heap.size := by omega
      clear hw2
      refine ⟨fun _ => hk, ?_⟩
      (try simp only [sI, sS, sZ])
      exact (hT _ _ _ _).1 (St2_5_9_10 (B9) (w'.heap.size) (a) (xx) w2 hk ha har hxx hxxr hB9 mA9 hB10 mA10 hne9_10)
      refine go_alloc 11 15 #[tt,tt,tt,tt,tt,tt,tt,tt,ff,tt,ff,tt,ff,ff,ff] rfl rfl rfl (by rfl) 36 rfl _ al36 ?_
      intro w2 hw2
      have hk := (hbw).alloc (hbw).size (.cells z36 36)
      have hlt9 := mA9.lt
      have mA9 := mA9.alloc (.cells z36 36)
      have mA11 := HasN.new (w') z36 36 4 (by kernel_rfl)
      have hB11 := (hbw).size
      rw [← hw2] at hk mA9 mA11
      have hne9_11 : B9 ≠ w'.heap.size := by omega
      clear hw2
      refine ⟨fun _ => hk, ?_⟩
      (try simp only [sI, sS, sZ])
      exact (hT _ _ _ _).1 (St2_5_9_11 (B9) (w'.heap.size) (a) (xx) w2 hk ha har hxx hxxr hB9 mA9 hB11 mA11 hne9_11)
    have St2_5_8 : ∀ (a xx yy : Nat) (w' : World), Below W50.heap.size W50 w' → a < 115792089237316195423570985008687907853269984665640564039457584007913129639936 → a % PP = A → xx < 115792089237316195423570985008687907853269984665640564039457584007913129639936 → xx % PP = XX → yy < 115792089237316195423570985008687907853269984665640564039457584007913129639936 → yy % PP = YY → T 6 #[tt,tt,tt,tt,tt,tt,tt,tt,tt,ff,ff,ff,ff,ff,ff] { tmps := #[.agg (e4 d), .agg (pt x1 y1 c1 b1), .agg (pt x2 y2 c2 b2), .pointer (some ⟨w.heap.size, 0, none⟩), .pointer (some ⟨w.heap.size + 1, 0, none⟩), .pointer (some ⟨w.heap.size + 1 + 1, 0, none⟩), .pointer (some ⟨w.heap.size + 1 + 1 + 1, 0, none⟩), .pointer (some ⟨uw1.heap.size, 0, none⟩), .pointer (some ⟨yw2.heap.size, 0, none⟩), .pointer (some ⟨yw7.heap.size, 0, none⟩), .pointer (some ⟨uw2.heap.size, 0, none⟩), .pointer (some ⟨yw23.heap.size, 0, none⟩), .pointer (some ⟨yw30.heap.size, 0, none⟩), undef, undef, undef, undef, undef, undef, undef, undef, .tuple #[.agg (e4 u), .agg (e4 s), .agg (e4 t)], .agg (pt x1 y1 c1 b1), .tuple #[.agg (e4 u), .agg (e4 s), .agg (e4 t)], .agg (e4 u), .agg (e4 s), .agg (e4 t), .tuple #[.agg (e4 u2), .agg (e4 s2), .agg (e4 t2)], .agg (pt x2 y2 c2 b2), .tuple #[.agg (e4 u2), .agg (e4 s2), .agg (e4 t2)], .agg (e4 u2), .agg (e4 s2), .agg (e4 t2), .agg (e4 t), .agg (e4 t2), .agg (e4 a), .agg (e4 u), .agg (e4 u2), .agg (e4 xx), .agg (e4 s), .agg (e4 s2), .agg (e4 yy), undef, undef, undef, undef, undef, undef, undef, undef, undef, undef, undef, undef, undef, undef, undef, undef, undef, undef, undef, undef, undef, undef, undef, undef, undef, undef, undef, undef, undef, undef, undef, undef, undef, undef, undef, undef, undef, undef, undef, undef, undef], defers := [] } w' := by
      intro a xx yy w' hbw ha har hxx hxxr hyy hyyr
      refine (hT _ _ _ _).2 ?_
      refine wpBut_r3 (i := 9) (j := 10) (l := 11) (by kernel_rfl) ?_ ?_ ?_
      refine go_alloc 9 13 #[tt,tt,tt,tt,tt,tt,tt,tt,tt,tt,ff,ff,ff,ff,ff] rfl rfl rfl (by rfl) 36 rfl _ al36 ?_
      intro w2 hw2
      have hk := (hbw).alloc (hbw).size (.cells z36 36)
      have mA9 := HasN.new (w') z36 36 4 (by kernel_rfl)
      have hB9 := (hbw).size
      rw [← hw2] at hk mA9
      clear hw2
      refine ⟨fun _ => hk, ?_⟩
      (try simp only [sI, sS, sZ])
      exact (hT _ _ _ _).1 (St2_5_8_9 (w'.heap.size) (a) (xx) (yy) w2 hk ha har hxx hxxr hyy hyyr hB9 mA9)
      refine go_alloc 10 14 #[tt,tt,tt,tt,tt,tt,tt,tt,tt,ff,tt,ff,ff,ff,ff] rfl rfl rfl (by rfl) 36 rfl _ al36 ?_
      intro w2 hw2
      have hk := (hbw).alloc (hbw).size (.cells z36 36)
      have mA10 := HasN.new (w') z36 36 4 (by kernel_rfl)
      have hB10 := (hbw).size
      rw [← hw2] at hk mA10
      clear hw2
      refine ⟨fun _ => hk, ?_⟩
      (try simp only [sI, sS, sZ])
      exact (hT _ _ _ _).1 (St2_5_8_10 (w'.heap.size) (a) (xx) (yy) w2 hk ha har hxx hxxr hyy hyyr hB10 mA10)
      refine go_alloc 11 15 #[tt,tt,tt,tt,tt,tt,tt,tt,tt,ff,ff,tt,ff,ff,ff] rfl rfl rfl (by rfl) 36 rfl _ al36 ?_
      intro w2 hw2
      have hk := (hbw).alloc (hbw).size (.cells z36 36)
      have mA11 := HasN.new (w') z36 36 4 (by kernel_rfl)
      have hB11 := (hbw).size
      rw [← hw2] at hk mA11
      clear hw2
      refine ⟨fun _ => hk, ?_⟩
      (try simp only [sI, sS, sZ])
      exact (hT _ _ _ _).1 (St2_5_8_11 (w'.heap.size) (a) (xx) (yy) w2 hk ha har hxx hxxr hyy hyyr hB11 mA11)
    have St10_11 : ∀ (B10 B11 : Nat) (w' : World), Below W50.heap.size W50 w' → W50.heap.size ≤ B10 → HasN w' B10 4 36 → W50.heap.size ≤ B11 → HasN w' B11 4 36 → B10 ≠ B11 → T 7 #[tt,tt,ff,tt,tt,ff,tt,tt,ff,ff,tt,tt,ff,ff,ff] { tmps := #[.agg (e4 d), .agg (pt x1 y1 c1 b1), .agg (pt x2 y2 c2 b2), .pointer (some ⟨w.heap.size, 0, none⟩), .pointer (some ⟨w.heap.size + 1, 0, none⟩), .pointer (some ⟨w.heap.size + 1 + 1, 0, none⟩), .pointer (some ⟨w.heap.size + 1 + 1 + 1, 0, none⟩), .pointer (some ⟨uw1.heap.size, 0, none⟩), .pointer (some ⟨yw2.heap.size, 0, none⟩), .pointer (some ⟨yw7.heap.size, 0, none⟩), .pointer (some ⟨uw2.heap.size, 0, none⟩), .pointer (some ⟨yw23.heap.size, 0, none⟩), .pointer (some ⟨yw30.heap.size, 0, none⟩), undef, .pointer (some ⟨B10, 0, none⟩), .pointer (some ⟨B11, 0, none⟩), undef, undef, undef, undef, undef, .tuple #[.agg (e4 u), .agg (e4 s), .agg (e4 t)], .agg (pt x1 y1 c1 b1), .tuple #[.agg (e4 u), .agg (e4 s), .agg (e4 t)], .agg (e4 u), .agg (e4 s), .agg (e4 t), .tuple #[.agg (e4 u2), .agg (e4 s2), .agg (e4 t2)], .agg (pt x2 y2 c2 b2), .tuple #[.agg (e4 u2), .agg (e4 s2), .agg (e4 t2)], .agg (e4 u2), .agg (e4 s2), .agg (e4 t2), .agg (e4 t), .agg (e4 t2), undef, .agg (e4 u), .agg (e4 u2), undef, .agg (e4 s), .agg (e4 s2), undef, undef, undef, undef, undef, undef, undef, undef, undef, undef, undef, undef, undef, undef, undef, undef, undef, undef, undef, undef, undef, undef, undef, undef, undef, undef, undef, undef, undef, undef, undef, undef, undef, undef, undef, undef, undef, undef, undef, undef, undef, undef], defers := [] } w' := by
      intro B10 B11 w' hbw hB10 mA10 hB11 mA11 hne10_11
      refine (hT _ _ _ _).2 ?_
      refine wpBut_r2 (i := 2) (j := 9) (by kernel_rfl) ?_ ?_
      refine go_call 2 35 #[tt,tt,tt,tt,tt,ff,tt,tt,ff,ff,tt,tt,ff,ff,ff] rfl rfl rfl (by rfl) rfl rfl (by rfl) ent31 (by rfl) (Ht.out t t2 ht ht2 _) ?_
      rintro e w2 ⟨a, ha, har, rfl, hb⟩
      have hk := held_next hbw hb
      have mA10 := mA10.call hb
      have mA11 := mA11.call hb
      have haq := r_mul a t t2 Z1 Z2 A har (Htr.out) (Ht2r.out) DA.out
      clear har
      have har := haq
      clear haq
      refine ⟨_, rfl, fun _ => hk, ?_⟩
      (try simp only [sI, sS, sZ])
      exact (hT _ _ _ _).1 (St2_10_11 (B10) (B11) (a) w2 hk ha har hB10 mA10 hB11 mA11 hne10_11)
      refine go_alloc 9 13 #[tt,tt,ff,tt,tt,ff,tt,tt,ff,tt,tt,tt,ff,ff,ff] rfl rfl rfl (by rfl) 36 rfl _ al36 ?_
      intro w2 hw2
      have hk := (hbw).alloc (hbw).size (.cells z36 36)
      have hlt10 := mA10.lt
      have mA10 := mA10.alloc (.cells z36 36)
      have hlt11 := mA11.lt
      have mA11 := mA11.alloc (.cells z36 36)
      have mA9 := HasN.new (w') z36 36 4 (by kernel_rfl)
      have hB9 := (hbw).size
      rw [← hw2] at hk mA10 mA11 mA9
      have hne9_10 : w'.heap.size ≠ B10 := by omega
      have hne9_11 : w'.heap.size ≠ B11 := by omega
      clear hw2
      refine ⟨fun _ => hk, ?_⟩
      (try simp only [sI, sS, sZ])
      exact (hT _ _ _ _).1 (St9_10_11 (w'.heap.size) (B10) (B11) w2 hk hB9 mA9 hB10 mA10 hB11 mA11 hne9_10 hne9_11 hne10_11)
    have St9_11 : ∀ (B9 B11 : Nat) (w' : World), Below W50.heap.size W50 w' → W50.heap.size ≤ B9 → HasN w' B9 4 36 → W50.heap.size ≤ B11 → HasN w' B11 4 36 → B9 ≠ B11 → T 7 #[tt,tt,ff,tt,tt,ff,tt,tt,ff,tt,ff,tt,ff,ff,ff] { tmps := #[.agg (e4 d), .agg (pt x1 y1 c1 b1), .agg (pt x2 y2 c2 b2), .pointer (some ⟨w.heap.size, 0, none⟩), .pointer (some ⟨w.heap.size + 1, 0, none⟩), .pointer (some ⟨w.heap.size + 1 + 1, 0, none⟩), .pointer (some ⟨w.heap.size + 1 + 1 + 1, 0, none⟩), .pointer (some ⟨uw1.heap.size, 0, none⟩), .pointer (some ⟨yw2.heap.size, 0, none⟩), .pointer (some ⟨yw7.heap.size, 0, none⟩), .pointer (some ⟨uw2.heap.size, 0, none⟩), .pointer (some ⟨yw23.heap.size, 0, none⟩), .pointer (some ⟨yw30.heap.size, 0, none⟩), .pointer (some ⟨B9, 0, none⟩), undef, .pointer (some ⟨B11, 0, none⟩), undef, undef, undef, undef, undef, .tuple #[.agg (e4 u), .agg (e4 s), .agg (e4 t)], .agg (pt x1 y1 c1 b1), .tuple #[.agg (e4 u), .agg (e4 s), .agg (e4 t)], .agg (e4 u), .agg (e4 s), .agg (e4 t), .tuple #[.agg (e4 u2), .agg (e4 s2), .agg (e4 t2)], .agg (pt x2 y2 c2 b2), .tuple #[.agg (e4 u2), .agg (e4 s2), .agg (e4 t2)], .agg (e4 u2), .agg (e4 s2), .agg (e4 t2), .agg (e4 t), .agg (e4 t2), undef, .agg (e4 u), .agg (e4 u2), undef, .agg (e4 s), .agg (e4 s2), undef, undef, undef, undef, undef, undef, undef, undef, undef, undef, undef, undef, undef, undef, undef, undef, undef, undef, undef, undef, undef, undef, undef, undef, undef, undef, undef, undef, undef, undef, undef, undef, undef, undef, undef, undef, undef, undef, undef, undef, undef, undef], defers := [] } w' := by
      intro B9 B11 w' hbw hB9 mA9 hB11 mA11 hne9_11
      refine (hT _ _ _ _).2 ?_
      refine wpBut_r2 (i := 2) (j := 10) (by kernel_rfl) ?_ ?_
      refine go_call 2 35 #[tt,tt,tt,tt,tt,ff,tt,tt,ff,tt,ff,tt,ff,ff,ff] rfl rfl rfl (by rfl) rfl rfl (by rfl) ent31 (by rfl) (Ht.out t t2 ht ht2 _) ?_
      rintro e w2 ⟨a, ha, har, rfl, hb⟩
      have hk := held_next hbw hb
      have mA9 := mA9.call hb
      have mA11 := mA11.call hb
      have haq := r_mul a t t2 Z1 Z2 A har (Htr.out) (Ht2r.out) DA.out
      clear har
      have har := haq
      clear haq
      refine ⟨_, rfl, fun _ => hk, ?_⟩
      (try simp only [sI, sS, sZ])
      exact (hT _ _ _ _).1 (St2_9_11 (B9) (B11) (a) w2 hk ha har hB9 mA9 hB11 mA11 hne9_11)
      refine go_alloc 10 14 #[tt,tt,ff,tt,tt,ff,tt,tt,ff,tt,tt,tt,ff,ff,ff] rfl rfl rfl (by rfl) 36 rfl _ al36 ?_
      intro w2 hw2
      have hk := (hbw).alloc (hbw).size (.cells z36 36)
      have hlt9 := mA9.lt
      have mA9 := mA9.alloc (.cells z36 36)
      have hlt11 := mA11.lt
      have mA11 := mA11.alloc (.cells z36 36)
      have mA10 := HasN.new (w') z36 36 4 (by kernel_rfl)
      have hB10 := (hbw).size
      rw [← hw2] at hk mA9 mA11 mA10
      have hne9_10 : B9 ≠ w'.heap.size := by omega
      have hne10_11 : w'.heap.size ≠ B11 := by omega
      clear hw2
      refine ⟨fun _ => hk, ?_⟩
      (try simp only [sI, sS, sZ])
      exact (hT _ _ _ _).1 (St9_10_11 (B9) (w'.heap.size) (B11) w2 hk hB9 mA9 hB10 mA10 hB11 mA11 hne9_10 hne9_11 hne10_11)
    have St9_10 : ∀ (B9 B10 : Nat) (w' : World), Below W50.heap.size W50 w' → W50.heap.size ≤ B9 → HasN w' B9 4 36 → W50.heap.size ≤ B10 → HasN w' B10 4 36 → B9 ≠ B10 → T 7 #[tt,tt,ff,tt,tt,ff,tt,tt,ff,tt,tt,ff,ff,ff,ff] { tmps := #[.agg (e4 d), .agg (pt x1 y1 c1 b1), .agg (pt x2 y2 c2 b2), .pointer (some ⟨w.heap.size, 0, none⟩), .pointer (some ⟨w.heap.size + 1, 0, none⟩), .pointer (some ⟨w.heap.size + 1 + 1, 0, none⟩), .pointer (some ⟨w.heap.size + 1 + 1 + 1, 0, none⟩), .pointer (some ⟨uw1.heap.size, 0, none⟩), .pointer (some ⟨yw2.heap.size, 0, none⟩), .pointer (some ⟨yw7.heap.size, 0, none⟩), .pointer (some ⟨uw2.heap.size, 0, none⟩), .pointer (some ⟨yw23.heap.size, 0, none⟩), .pointer (some ⟨yw30.heap.size, 0, none⟩), .pointer (some ⟨B9, 0, none⟩), .pointer (some ⟨B10, 0, none⟩), undef, undef, undef, undef, undef, undef, .tuple #[.agg (e4 u), .agg (e4 s), .agg (e4 t)], .agg (pt x1 y1 c1 b1), .tuple #[.agg (e4 u), .agg (e4 s), .agg (e4 t)], .agg (e4 u), .agg (e4 s), .agg (e4 t), .tuple #[.agg (e4 u2), .agg (e4 s2), .agg (e4 t2)], .agg (pt x2 y2 c2 b2), .tuple #[.agg (e4 u2), .agg (e4 s2), .agg (e4 t2)], .agg (e4 u2), .agg (e4 s2), .agg (e4 t2), .agg (e4 t), .agg (e4 t2), undef, .agg (e4 u), .agg (e4 u2), undef, .agg (e4 s), .agg (e4 s2), undef, undef, undef, undef, undef, undef, undef, undef, undef, undef, undef, undef, undef, undef, undef, undef, undef, undef, undef, undef, undef, undef, undef, undef, undef, undef, undef, undef, undef, undef, undef, undef, undef, undef, undef, undef, undef, undef, undef, undef, undef, undef], defers := [] } w' := by
      intro B9 B10 w' hbw hB9 mA9 hB10 mA10 hne9_10
      refine (hT _ _ _ _).2 ?_
      refine wpBut_r2 (i := 2) (j := 11) (by kernel_rfl) ?_ ?_
      refine go_call 2 35 #[tt,tt,tt,tt,tt,ff,tt,tt,ff,tt,tt,ff,ff,ff,ff] rfl rfl rfl (by rfl) rfl rfl (by rfl) ent31 (by rfl) (Ht.out t t2 ht ht2 _) ?_
      rintro e w2 ⟨a, ha, har, rfl, hb⟩
      have hk := held_next hbw hb
      have mA9 := mA9.call hb
      have mA10 := mA10.call hb
      have haq := r_mul a t t2 Z1 Z2 A har (Htr.out) (Ht2r.out) DA.out
      clear har
      have har := haq
      clear haq
      refine ⟨_, rfl, fun _ => hk, ?_⟩
      (try simp only [sI, sS, sZ])
      exact (hT _ _ _ _).1 (St2_9_10 (B9) (B10) (a) w2 hk ha har hB9 mA9 hB10 mA10 hne9_10)
      refine go_alloc 11 15 #[tt,tt,ff,tt,tt,ff,tt,tt,ff,tt,tt,tt,ff,ff,ff] rfl rfl rfl (by rfl) 36 rfl _ al36 ?_
      intro w2 hw2
      have hk := (hbw).alloc (hbw).size (.cells z36 36)
      have hlt9 := mA9.lt
      have mA9 := mA9.alloc (.cells z36 36)
      have hlt10 := mA10.lt
      have mA10 := mA10.alloc (.cells z36 36)
      have mA11 := HasN.new (w') z36 36 4 (by kernel_rfl)
      have hB11 := (hbw).size
      rw [← hw2] at hk mA9 mA10 mA11
      have hne9_11 : B9 ≠ w'.heap.size := by omega
      have hne10_11 : B10 ≠ w'.heap.size := by omega
      clear hw2
      refine ⟨fun _ => hk, ?_⟩
      (try simp only [sI, sS, sZ])
      exact (hT _ _ _ _).1 (St9_10_11 (B9) (B10) (w'.heap.size) w2 hk hB9 mA9 hB10 mA10 hB11 mA11 hne9_10 hne9_11 hne10_11)
    have St2_11 : ∀ (B11 a : Nat) (w' : World), Below W50.heap.size W50 w' → a < 115792089237316195423570985008687907853269984665640564039457584007913129639936 → a % PP = A → W50.heap.size ≤ B11 → HasN w' B11 4 36 → T 7 #[tt,tt,tt,tt,tt,ff,tt,tt,ff,ff,ff,tt,ff,ff,ff] { tmps := #[.agg (e4 d), .agg (pt x1 y1 c1 b1), .agg (pt x2 y2 c2 b2), .pointer (some ⟨w.heap.size, 0, none⟩), .pointer (some ⟨w.heap.size + 1, 0, none⟩), .pointer (some ⟨w.heap.size + 1 + 1, 0, none⟩), .pointer (some ⟨w.heap.size + 1 + 1 + 1, 0, none⟩), .pointer (some ⟨uw1.heap.size, 0, none⟩), .pointer (some ⟨yw2.heap.size, 0, none⟩), .pointer (some ⟨yw7.heap.size, 0, none⟩), .pointer (some ⟨uw2.heap.size, 0, none⟩), .pointer (some ⟨yw23.heap.size, 0, none⟩), .pointer (some ⟨yw30.heap.size, 0, none⟩), undef, undef, .pointer (some ⟨B11, 0, none⟩), undef, undef, undef, undef, undef, .tuple #[.agg (e4 u), .agg (e4 s), .agg (e4 t)], .agg (pt x1 y1 c1 b1), .tuple #[.agg (e4 u), .agg (e4 s), .agg (e4 t)], .agg (e4 u), .agg (e4 s), .agg (e4 t), .tuple #[.agg (e4 u2), .agg (e4 s2), .agg (e4 t2)], .agg (pt x2 y2 c2 b2), .tuple #[.agg (e4 u2), .agg (e4 s2), .agg (e4 t2)], .agg (e4 u2), .agg (e4 s2), .agg (e4 t2), .agg (e4 t), .agg (e4 t2), .agg (e4 a), .agg (e4 u), .agg (e4 u2), undef, .agg (e4 s), .agg (e4 s2), undef, undef, undef, undef, undef, undef, undef, undef, undef, undef, undef, undef, undef, undef, undef, undef, undef, undef, undef, undef, undef, undef, undef, undef, undef, undef, undef, undef, undef, undef, undef, undef, undef, undef, undef, undef, undef, undef, undef, undef, undef, undef], defers := [] } w' := by
      intro B11 a w' hbw ha har hB11 mA11
      refine (hT _ _ _ _).2 ?_
      refine wpBut_r3 (i := 5) (j := 9) (l := 10) (by kernel_rfl) ?_ ?_ ?_
      refine go_call 5 38 #[tt,tt,tt,tt,tt,tt,tt,tt,ff,ff,ff,tt,ff,ff,ff] rfl rfl rfl (by rfl) rfl rfl (by rfl) ent31 (by rfl) (Ht.out u u2 hu hu2 _) ?_
      rintro e w2 ⟨xx, hxx, hxxr, rfl, hb⟩
      have hk := held_next hbw hb
      have mA11 := mA11.call hb
      have hxxq := r_mul xx u u2 X1 X2 XX hxxr (Hur.out) (Hu2r.out) DXX.out
      clear hxxr
      have hxxr := hxxq
      clear hxxq
      refine ⟨_, rfl, fun _ => hk, ?_⟩
      (try simp only [sI, sS, sZ])
      exact (hT _ _ _ _).1 (St2_5_11 (B11) (a) (xx) w2 hk ha har hxx hxxr hB11 mA11)
      refine go_alloc 9 13 #[tt,tt,tt,tt,tt,ff,tt,tt,ff,tt,ff,tt,ff,ff,ff] rfl rfl rfl (by rfl) 36 rfl _ al36 ?_
      intro w2 hw2
      have hk := (hbw).alloc (hbw).size (.cells z36 36)
      have hlt11 := mA11.lt
      have mA11 := mA11.alloc (.cells z36 36)
      have mA9 := HasN.new (w') z36 36 4 (by kernel_rfl)
      have hB9 := (hbw).size
      rw [← hw2] at hk mA11 mA9
      have hne9_11 : w'.heap.size ≠ B11 := by omega
      clear hw2
      refine ⟨fun _ => hk, ?_⟩
      (try simp only [sI, sS, sZ])
      exact (hT _ _ _ _).1 (St2_9_11 (w'.heap.size) (B11) (a) w2 hk ha har hB9 mA9 hB11 mA11 hne9_11)
      refine go_alloc 10 14 #[tt,tt,tt,tt,tt,ff,tt,tt,ff,ff,tt,tt,ff,ff,ff] rfl rfl rfl (by rfl) 36 rfl _ al36 ?_
      intro w2 hw2
      have hk := (hbw).alloc (hbw).size (.cells z36 36)
      have hlt11 := mA11.lt
      have mA11 := mA11.alloc (.cells z36 36)
      have mA10 := HasN.new (w') z36 36 4 (by kernel_rfl)
      have hB10 := (hbw).size
      rw [← hw2] at hk mA11 mA10
      have hne10_11 : w'.heap.size ≠ B11 := by omega
      clear hw2
      refine ⟨fun _ => hk, ?_⟩
      (try simp only [sI, sS, sZ])
      exact (hT _ _ _ _).1 (St2_10_11 (w'.heap.size) (B11) (a) w2 hk ha har hB10 mA10 hB11 mA11 hne10_11)
    have St2_10 : ∀ (B10 a : Nat) (w' : World), Below W50.heap.size W50 w' → a < 115792089237316195423570985008687907853269984665640564039457584007913129639936 → a % PP = A → W50.heap.size ≤ B10 → HasN w' B10 4 36 → T 7 #[tt,tt,tt,tt,tt,ff,tt,tt,ff,ff,tt,ff,ff,ff,ff] { tmps := #[.agg (e4 d), .agg (pt x1 y1 c1 b1), .agg (pt x2 y2 c2 b2), .pointer (some ⟨w.heap.size, 0, none⟩), .pointer (some ⟨w.heap.size + 1, 0, none⟩), .pointer (some ⟨w.heap.size + 1 + 1, 0, none⟩), .pointer (some ⟨w.heap.size + 1 + 1 + 1, 0, none⟩), .pointer (some ⟨uw1.heap.size, 0, none⟩), .pointer (some ⟨yw2.heap.size, 0, none⟩), .pointer (some ⟨yw7.heap.size, 0, none⟩), .pointer (some ⟨uw2.heap.size, 0, none⟩), .pointer (some ⟨yw23.heap.size, 0, none⟩), .pointer (some ⟨yw30.heap.size, 0, none⟩), undef, .pointer (some ⟨B10, 0, none⟩), undef, undef, undef, undef, undef, undef, .tuple #[.agg (e4 u), .agg (e4 s), .agg (e4 t)], .agg (pt x1 y1 c1 b1), .tuple #[.agg (e4 u), .agg (e4 s), .agg (e4 t)], .agg (e4 u), .agg (e4 s), .agg (e4 t), .tuple #[.agg (e4 u2), .agg (e4 s2), .agg (e4 t2)], .agg (pt x2 y2 c2 b2), .tuple #[.agg (e4 u2), .agg (e4 s2), .agg (e4 t2)], .agg (e4 u2), .agg (e4 s2), .agg (e4 t2), .agg (e4 t), .agg (e4 t2), .agg (e4 a), .agg (e4 u), .agg (e4 u2), undef, .agg (e4 s), .agg (e4 s2), undef, undef, undef, undef, undef, undef, undef, undef, undef, undef, undef, undef, undef, undef, undef, undef, undef, undef, undef, undef, undef, undef, undef, undef, undef, undef, undef, undef, undef, undef, undef, undef, undef, undef, undef, undef, undef, undef, undef, undef, undef, undef], defers := [] } w' := by
      intro B10 a w' hbw ha har hB10 mA10
      refine (hT _ _ _ _).2 ?_
      refine wpBut_r3 (i := 5) (j := 9) (l := 11) (by kernel_rfl) ?_ ?_ ?_
      refine go_call 5 38 #[tt,tt,tt,tt,tt,tt,tt,tt,ff,ff,tt,ff,ff,ff,ff] rfl rfl rfl (by rfl) rfl rfl (by rfl) ent31 (by rfl) (Ht.out u u2 hu hu2 _) ?_
      rintro e w2 ⟨xx, hxx, hxxr, rfl, hb⟩
      have hk := held_next hbw hb
      have mA10 := mA10.call hb
      have hxxq := r_mul xx u u2 X1 X2 XX hxxr (Hur.out) (Hu2r.out) DXX.out
      clear hxxr
      have hxxr := hxxq
      clear hxxq
      refine ⟨_, rfl, fun _ => hk, ?_⟩
      (try simp only [sI, sS, sZ])
      exact (hT _ _ _ _).1 (St2_5_10 (B10) (a) (xx) w2 hk ha har hxx hxxr hB10 mA10)
      refine go_alloc 9 13 #[tt,tt,tt,tt,tt,ff,tt,tt,ff,tt,tt,ff,ff,ff,ff] rfl rfl rfl (by rfl) 36 rfl _ al36 ?_
      intro w2 hw2
      have hk := (hbw).alloc (hbw).size (.cells z36 36)
      have hlt10 := mA10.lt
      have mA10 := mA10.alloc (.cells z36 36)
      have mA9 := HasN.new (w') z36 36 4 (by kernel_rfl)
      have hB9 := (hbw).size
      rw [← hw2] at hk mA10 mA9
      have hne9_10 : w'.heap.size ≠ B10 := by omega
      clear hw2
      refine ⟨fun _ => hk, ?_⟩
      (try simp only [sI, sS, sZ])
      exact (hT _ _ _ _).1 (St2_9_10 (w'.heap.size) (B10) (a) w2 hk ha har hB9 mA9 hB10 mA10 hne9_10)
      refine go_alloc 11 15 #[tt,tt,tt,tt,tt,ff,tt,tt,ff,ff,tt,tt,ff,ff,ff] rfl rfl rfl (by rfl) 36 rfl _ al36 ?_
      intro w2 hw2
      have hk := (hbw).alloc (hbw).size (.cells z36 36)
      have hlt10 := mA10.lt
      have mA10 := mA10.alloc (.cells z36 36)
      have mA11 := HasN.new (w') z36 36 4 (by kernel_rfl)
      have hB11 := (hbw).size
      rw [← hw2] at hk mA10 mA11
      have hne10_11 : B10 ≠ w'.heap.size := by omega
      clear hw2
      refine ⟨fun _ => hk, ?_⟩
      (try simp only [sI, sS, sZ])
      exact (hT _ _ _ _).1 (St2_10_11 (B10) (w'.heap.size) (a) w2 hk ha har hB10 mA10 hB11 mA11 hne10_11)
    have St2_9 : ∀ (B9 a : Nat) (w' : World), Below W50.heap.size W50 w' → a < 115792089237316195423570985008687907853269984665640564039457584007913129639936 → a % PP = A → W50.heap.size ≤ B9 → HasN w' B9 4 36 → T 7 #[tt,tt,tt,tt,tt,ff,tt,tt,ff,tt,ff,ff,ff,ff,ff] { tmps := #[.agg (e4 d), .agg (pt x1 y1 c1 b1), .agg (pt x2 y2 c2 b2), .pointer (some ⟨w.heap.size, 0, none⟩), .pointer (some ⟨w.heap.size + 1, 0, none⟩), .pointer (some ⟨w.heap.size + 1 + 1, 0, none⟩), .pointer (some ⟨w.heap.size + 1 + 1 + 1, 0, none⟩), .pointer (some ⟨uw1.heap.size, 0, none⟩), .pointer (some ⟨yw2.heap.size, 0, none⟩), .pointer (some ⟨yw7.heap.size, 0, none⟩), .pointer (some ⟨uw2.heap.size, 0, none⟩), .pointer (some ⟨yw23.heap.size, 0, none⟩), .pointer (some ⟨yw30.heap.size, 0, none⟩), .pointer (some ⟨B9, 0, none⟩), undef, undef, undef, undef, undef, undef, undef, .tuple #[.agg (e4 u), .agg (e4 s), .agg (e4 t)], .agg (pt x1 y1 c1 b1), .tuple #[.agg (e4 u), .agg (e4 s), .agg (e4 t)], .agg (e4 u), .agg (e4 s), .agg (e4 t), .tuple #[.agg (e4 u2), .agg (e4 s2), .agg (e4 t2)], .agg (pt x2 y2 c2 b2), .tuple #[.agg (e4 u2), .agg (e4 s2), .agg (e4 t2)], .agg (e4 u2), .agg (e4 s2), .agg (e4 t2), .agg (e4 t), .agg (e4 t2), .agg (e4 a), .agg (e4 u), .agg (e4 u2), undef, .agg (e4 s), .agg (e4 s2), undef, undef, undef, undef, undef, undef, undef, undef, undef, undef, undef, undef, undef, undef, undef, undef, undef, undef, undef, undef, undef, undef, undef, undef, undef, undef, undef, undef, undef, undef, undef, undef, undef, undef, undef, undef, undef, undef, undef, undef, undef, undef], defers := [] } w' := by
      intro B9 a w' hbw ha har hB9 mA9
      refine (hT _ _ _ _).2 ?_
      refine wpBut_r3 (i := 5) (j := 10) (l := 11) (by kernel_rfl) ?_ ?_ ?_
      refine go_call 5 38 #[tt,tt,tt,tt,tt,tt,tt,tt,ff,tt,ff,ff,ff,ff,ff] rfl rfl rfl (by rfl) rfl rfl (by rfl) ent31 (by rfl) (Ht.out u u2 hu hu2 _) ?_
      rintro e w2 ⟨xx, hxx, hxxr, rfl, hb⟩
      have hk := held_next hbw hb
      have mA9 := mA9.call hb
      have hxxq := r_mul xx u u2 X1 X2 XX hxxr (Hur.out) (Hu2r.out) DXX.out
      clear hxxr
      have hxxr := hxxq
      clear hxxq
      refine ⟨_, rfl, fun _ => hk, ?_⟩
      (try simp only [sI, sS, sZ])
      exact (hT _ _ _ _).1 (St2_5_9 (B9) (a) (xx) w2 hk ha har hxx hxxr hB9 mA9)
      refine go_alloc 10 14 #[tt,tt,tt,tt,tt,ff,tt,tt,ff,tt,tt,ff,ff,ff,ff] rfl rfl rfl (by rfl) 36 rfl _ al36 ?_
      intro w2 hw2
      have hk := (hbw).alloc (hbw).size (.cells z36 36)
      have hlt9 := mA9.lt
      have mA9 := mA9.alloc (.cells z36 36)
      have mA10 := HasN.new (w') z36 36 4 (by kernel_rfl)
      have hB10 := (hbw).size
      rw [← hw2] at hk mA9 mA10
      have hne9_10 : B9 ≠ w'.heap.size := by omega
      clear hw2
      refine ⟨fun _ => hk, ?_⟩
      (try simp only [sI, sS, sZ])
      exact (hT _ _ _ _).1 (St2_9_10 (B9) (w'.heap.size) (a) w2 hk ha har hB9 mA9 hB10 mA10 hne9_10)
      refine go_alloc 11 15 #[tt,tt,tt,tt,tt,ff,tt,tt,ff,tt,ff,tt,ff,ff,ff] rfl rfl rfl (by rfl) 36 rfl _ al36 ?_
      intro w2 hw2
      have hk := (hbw).alloc (hbw).size (.cells z36 36)
      have hlt9 := mA9.lt
      have mA9 := mA9.alloc (.cells z36 36)
      have mA11 := HasN.new (w') z36 36 4 (by kernel_rfl)
      have hB11 := (hbw).size
      rw [← hw2] at hk mA9 mA11
      have hne9_11 : B9 ≠ w'.heap.size := by omega
      clear hw2
      refine ⟨fun _ => hk, ?_⟩
      (try simp only [sI, sS, sZ])
      exact (hT _ _ _ _).1 (St2_9_11 (B9) (w'.heap.size) (a) w2 hk ha har hB9 mA9 hB11 mA11 hne9_11)
    have St2_5 : ∀ (a xx : Nat) (w' : World), Below W50.heap.size W50 w' → a < 115792089237316195423570985008687907853269984665640564039457584007913129639936 → a % PP = A → xx < 115792089237316195423570985008687907853269984665640564039457584007913129639936 → xx % PP = XX → T 7 #[tt,tt,tt,tt,tt,tt,tt,tt,ff,ff,ff,ff,ff,ff,ff] { tmps := #[.agg (e4 d), .agg (pt x1 y1 c1 b1), .agg (pt x2 y2 c2 b2), .pointer (some ⟨w.heap.size, 0, none⟩), .pointer (some ⟨w.heap.size + 1, 0, none⟩), .pointer (some ⟨w.heap.size + 1 + 1, 0, none⟩), .pointer (some ⟨w.heap.size + 1 + 1 + 1, 0, none⟩), .pointer (some ⟨uw1.heap.size, 0, none⟩), .pointer (some ⟨yw2.heap.size, 0, none⟩), .pointer (some ⟨yw7.heap.size, 0, none⟩), .pointer (some ⟨uw2.heap.size, 0, none⟩), .pointer (some ⟨yw23.heap.size, 0, none⟩), .pointer (some ⟨yw30.heap.size, 0, none⟩), undef, undef, undef, undef, undef, undef, undef, undef, .tuple #[.agg (e4 u), .agg (e4 s), .agg (e4 t)], .agg (pt x1 y1 c1 b1), .tuple #[.agg (e4 u), .agg (e4 s), .agg (e4 t)], .agg (e4 u), .agg (e4 s), .agg (e4 t), .tuple #[.agg (e4 u2), .agg (e4 s2), .agg (e4 t2)], .agg (pt x2 y2 c2 b2), .tuple #[.agg (e4 u2), .agg (e4 s2), .agg (e4 t2)], .agg (e4 u2), .agg (e4 s2), .agg (e4 t2), .agg (e4 t), .agg (e4 t2), .agg (e4 a), .agg (e4 u), .agg (e4 u2), .agg (e4 xx), .agg (e4 s), .agg (e4 s2), undef, undef, undef, undef, undef, undef, undef, undef, undef, undef, undef, undef, undef, undef, undef, undef, undef, undef, undef, undef, undef, undef, undef, undef, undef, undef, undef, undef, undef, undef, undef, undef, undef, undef, undef, undef, undef, undef, undef, undef, undef, undef], defers := [] } w' := by
      intro a xx w' hbw ha har hxx hxxr
      refine (hT _ _ _ _).2 ?_
      refine wpBut_r4 (i := 8) (j := 9) (l := 10) (m := 11) (by kernel_rfl) ?_ ?_ ?_ ?_
      refine go_call 8 41 #[tt,tt,tt,tt,tt,tt,tt,tt,tt,ff,ff,ff,ff,ff,ff] rfl rfl rfl (by rfl) rfl rfl (by rfl) ent31 (by rfl) (Ht.out s s2 hs hs2 _) ?_
      rintro e w2 ⟨yy, hyy, hyyr, rfl, hb⟩
      have hk := held_next hbw hb
      have hyyq := r_mul yy s s2 Y1 Y2 YY hyyr (Hsr.out) (Hs2r.out) DYY.out
      clear hyyr
      have hyyr := hyyq
      clear hyyq
      refine ⟨_, rfl, fun _ => hk, ?_⟩
      (try simp only [sI, sS, sZ])
      exact (hT _ _ _ _).1 (St2_5_8 (a) (xx) (yy) w2 hk ha har hxx hxxr hyy hyyr)
      refine go_alloc 9 13 #[tt,tt,tt,tt,tt,tt,tt,tt,ff,tt,ff,ff,ff,ff,ff] rfl rfl rfl (by rfl) 36 rfl _ al36 ?_
      intro w2 hw2
      have hk := (hbw).alloc (hbw).size (.cells z36 36)
      have mA9 := HasN.new (w') z36 36 4 (by kernel_rfl)
      have hB9 := (hbw).size
      rw [← hw2] at hk mA9
      clear hw2
      refine ⟨fun _ => hk, ?_⟩
      (try simp only [sI, sS, sZ])
      exact (hT _ _ _ _).1 (St2_5_9 (w'.heap.size) (a) (xx) w2 hk ha har hxx hxxr hB9 mA9)
      refine go_alloc 10 14 #[tt,tt,tt,tt,tt,tt,tt,tt,ff,ff,tt,ff,ff,ff,ff] rfl rfl rfl (by rfl) 36 rfl _ al36 ?_
      intro w2 hw2
      have hk := (hbw).alloc (hbw).size (.cells z36 36)
      have mA10 := HasN.new (w') z36 36 4 (by kernel_rfl)
      have hB10 := (hbw).size
      rw [← hw2] at hk mA10
      clear hw2
      refine ⟨fun _ => hk, ?_⟩
      (try simp only [sI, sS, sZ])
      exact (hT _ _ _ _).1 (St2_5_10 (w'.heap.size) (a) (xx) w2 hk ha har hxx hxxr hB10 mA10)
      refine go_alloc 11 15 #[tt,tt,tt,tt,tt,tt,tt,tt,ff,ff,ff,tt,ff,ff,ff] rfl rfl rfl (by rfl) 36 rfl _ al36 ?_
      intro w2 hw2
      have hk := (hbw).alloc (hbw).size (.cells z36 36)
      have mA11 := HasN.new (w') z36 36 4 (by kernel_rfl)
      have hB11 := (hbw).size
      rw [← hw2] at hk mA11
      clear hw2
      refine ⟨fun _ => hk, ?_⟩
      (try simp only [sI, sS, sZ])
      exact (hT _ _ _ _).1 (St2_5_11 (w'.heap.size) (a) (xx) w2 hk ha har hxx hxxr hB11 mA11)
    have St11 : ∀ (B11 : Nat) (w' : World), Below W50.heap.size W50 w' → W50.heap.size ≤ B11 → HasN w' B11 4 36 → T 8 #[tt,tt,ff,tt,tt,ff,tt,tt,ff,ff,ff,tt,ff,ff,ff] { tmps := #[.agg (e4 d), .agg (pt x1 y1 c1 b1), .agg (pt x2 y2 c2 b2), .pointer (some ⟨w.heap.size, 0, none⟩), .pointer (some ⟨w.heap.size + 1, 0, none⟩), .pointer (some ⟨w.heap.size + 1 + 1, 0, none⟩), .pointer (some ⟨w.heap.size + 1 + 1 + 1, 0, none⟩), .pointer (some ⟨uw1.heap.size, 0, none⟩), .pointer (some ⟨yw2.heap.size, 0, none⟩), .pointer (some ⟨yw7.heap.size, 0, none⟩), .pointer (some ⟨uw2.heap.size, 0, none⟩), .pointer (some ⟨yw23.heap.size, 0, none⟩), .pointer (some ⟨yw30.heap.size, 0, none⟩), undef, undef, .pointer (some ⟨B11, 0, none⟩), undef, undef, undef, undef, undef, .tuple #[.agg (e4 u), .agg (e4 s), .agg (e4 t)], .agg (pt x1 y1 c1 b1), .tuple #[.agg (e4 u), .agg (e4 s), .agg (e4 t)], .agg (e4 u), .agg (e4 s), .agg (e4 t), .tuple #[.agg (e4 u2), .agg (e4 s2), .agg (e4 t2)], .agg (pt x2 y2 c2 b2), .tuple #[.agg (e4 u2), .agg (e4 s2), .agg (e4 t2)], .agg (e4 u2), .agg (e4 s2), .agg (e4 t2), .agg (e4 t), .agg (e4 t2), undef, .agg (e4 u), .agg (e4 u2), undef, .agg (e4 s), .agg (e4 s2), undef, undef, undef, undef, undef, undef, undef, undef, undef, undef, undef, undef, undef, undef, undef, undef, undef, undef, undef, undef, undef, undef, undef, undef, undef, undef, undef, undef, undef, undef, undef, undef, undef, undef, undef, undef, undef, undef, undef, undef, undef, undef], defers := [] } w' := by
      intro B11 w' hbw hB11 mA11
      refine (hT _ _ _ _).2 ?_
      refine wpBut_r3 (i := 2) (j := 9) (l := 10) (by kernel_rfl) ?_ ?_ ?_
      refine go_call 2 35 #[tt,tt,tt,tt,tt,ff,tt,tt,ff,ff,ff,tt,ff,ff,ff] rfl rfl rfl (by rfl) rfl rfl (by rfl) ent31 (by rfl) (Ht.out t t2 ht ht2 _) ?_
      rintro e w2 ⟨a, ha, har, rfl, hb⟩
      have hk := held_next hbw hb
      have mA11 := mA11.call hb
      have haq := r_mul a t t2 Z1 Z2 A har (Htr.out) (Ht2r.out) DA.out
      clear har
      have har := haq
      clear haq
      refine ⟨_, rfl, fun _ => hk, ?_⟩
      (try simp only [sI, sS, sZ])
      exact (hT _ _ _ _).1 (St2_11 (B11) (a) w2 hk ha har hB11 mA11)
      refine go_alloc 9 13 #[tt,tt,ff,tt,tt,ff,tt,tt,ff,tt,ff,tt,ff,ff,ff] rfl rfl rfl (by rfl) 36 rfl _ al36 ?_
      intro w2 hw2
      have hk := (hbw).alloc (hbw).size (.cells z36 36)
      have hlt11 := mA11.lt
      have mA11 := mA11.alloc (.cells z36 36)
      have mA9 := HasN.new (w') z36 36 4 (by kernel_rfl)
      have hB9 := (hbw).size
      rw [← hw2] at hk mA11 mA9
      have hne9_11 : w'.heap.size ≠ B11 := by omega
      clear hw2
      refine ⟨fun _ => hk, ?_⟩
      (try simp only [sI, sS, sZ])
      exact (hT _ _ _ _).1 (St9_11 (w'.heap.size) (B11) w2 hk hB9 mA9 hB11 mA11 hne9_11)
      refine go_alloc 10 14 #[tt,tt,ff,tt,tt,ff,tt,tt,ff,ff,tt,tt,ff,ff,ff] rfl rfl rfl (by rfl) 36 rfl _ al36 ?_
      intro w2 hw2
      have hk := (hbw).alloc (hbw).size (.cells z36 36)
      have hlt11 := mA11.lt
      have mA11 := mA11.alloc (.cells z36 36)
      have mA10 := HasN.new (w') z36 36 4 (by kernel_rfl)
      have hB10 := (hbw).size
      rw [← hw2] at hk mA11 mA10
      have hne10_11 : w'.heap.size ≠ B11 := by omega
      clear hw2
      refine ⟨fun _ => hk, ?_⟩
      (try simp only [sI, sS, sZ])
      exact (hT _ _ _ _).1 (St10_11 (w'.heap.size) (B11) w2 hk hB10 mA10 hB11 mA11 hne10_11)
    have St10 : ∀ (B10 : Nat) (w' : World), Below W50.heap.size W50 w' → W50.heap.size ≤ B10 → HasN w' B10 4 36 → T 8 #[tt,tt,ff,tt,tt,ff,tt,tt,ff,ff,tt,ff,ff,ff,ff] { tmps := #[.agg (e4 d), .agg (pt x1 y1 c1 b1), .agg (pt x2 y2 c2 b2), .pointer (some ⟨w.heap.size, 0, none⟩), .pointer (some ⟨w.heap.size + 1, 0, none⟩), .pointer (some ⟨w.heap.size + 1 + 1, 0, none⟩), .pointer (some ⟨w.heap.size + 1 + 1 + 1, 0, none⟩), .pointer (some ⟨uw1.heap.size, 0, none⟩), .pointer (some ⟨yw2.heap.size, 0, none⟩), .pointer (some ⟨yw7.heap.size, 0, none⟩), .pointer (some ⟨uw2.heap.size, 0, none⟩), .pointer (some ⟨yw23.heap.size, 0, none⟩), .pointer (some ⟨yw30.heap.size, 0, none⟩), undef, .pointer (some ⟨B10, 0, none⟩), undef, undef, undef, undef, undef, undef, .tuple #[.agg (e4 u), .agg (e4 s), .agg (e4 t)], .agg (pt x1 y1 c1 b1), .tuple #[.agg (e4 u), .agg (e4 s), .agg (e4 t)], .agg (e4 u), .agg (e4 s), .agg (e4 t), .tuple #[.agg (e4 u2), .agg (e4 s2), .agg (e4 t2)], .agg (pt x2 y2 c2 b2), .tuple #[.agg (e4 u2), .agg (e4 s2), .agg (e4 t2)], .agg (e4 u2), .agg (e4 s2), .agg (e4 t2), .agg (e4 t), .agg (e4 t2), undef, .agg (e4 u), .agg (e4 u2), undef, .agg (e4 s), .agg (e4 s2), undef, undef, undef, undef, undef, undef, undef, undef, undef, undef, undef, undef, undef, undef, undef, undef, undef, undef, undef, undef, undef, undef, undef, undef, undef, undef, undef, undef, undef, undef, undef, undef, undef, undef, undef, undef, undef, undef, undef, undef, undef, undef], defers := [] } w' := by
      intro B10 w' hbw hB10 mA10
      refine (hT _ _ _ _).2 ?_
      refine wpBut_r3 (i := 2) (j := 9) (l := 11) (by kernel_rfl) ?_ ?_ ?_
      refine go_call 2 35 #[tt,tt,tt,tt,tt,ff,tt,tt,ff,ff,tt,ff,ff,ff,ff] rfl rfl rfl (by rfl) rfl rfl (by rfl) ent31 (by rfl) (Ht.out t t2 ht ht2 _) ?_
      rintro e w2 ⟨a, ha, har, rfl, hb⟩
      have hk := held_next hbw hb
      have mA10 := mA10.call hb
      have haq := r_mul a t t2 Z1 Z2 A har (Htr.out) (Ht2r.out) DA.out
      clear har
      have har := haq
      clear haq
      refine ⟨_, rfl, fun _ => hk, ?_⟩
      (try simp only [sI, sS, sZ])
      exact (hT _ _ _ _).1 (St2_10 (B10) (a) w2 hk ha har hB10 mA10)
      refine go_alloc 9 13 #[tt,tt,ff,tt,tt,ff,tt,tt,ff,tt,tt,ff,ff,ff,ff] rfl rfl rfl (by rfl) 36 rfl _ al36 ?_
      intro w2 hw2
      have hk := (hbw).alloc (hbw).size (.cells z36 36)
      have hlt10 := mA10.lt
      have mA10 := mA10.alloc (.cells z36 36)
      have mA9 := HasN.new (w') z36 36 4 (by kernel_rfl)
      have hB9 := (hbw).size
      rw [← hw2] at hk mA10 mA9
      have hne9_10 : w'.heap.size ≠ B10 := by omega
      clear hw2
      refine ⟨fun _ => hk, ?_⟩
      (try simp only [sI, sS, sZ])
      exact (hT _ _ _ _).1 (St9_10 (w'.heap.size) (B10) w2 hk hB9 mA9 hB10 mA10 hne9_10)
      refine go_alloc 11 15 #[tt,tt,ff,tt,tt,ff,tt,tt,ff,ff,tt,tt,ff,ff,ff] rfl rfl rfl (by rfl) 36 rfl _ al36 ?_
      intro w2 hw2
      have hk := (hbw).alloc (hbw).size (.cells z36 36)
      have hlt10 := mA10.lt
      have mA10 := mA10.alloc (.cells z36 36)
      have mA11 := HasN.new (w') z36 36 4 (by kernel_rfl)
      have hB11 := (hbw).size
      rw [← hw2] at hk mA10 mA11
      have hne10_11 : B10 ≠ w'.heap.size := by omega
      clear hw2
      refine ⟨fun _ => hk, ?_⟩
      (try simp only [sI, sS, sZ])
      exact (hT _ _ _ _).1 (St10_11 (B10) (w'.heap.size) w2 hk hB10 mA10 hB11 mA11 hne10_11)
    have St9 : ∀ (B9 : Nat) (w' : World), Below W50.heap.size W50 w' → W50.heap.size ≤ B9 → HasN w' B9 4 36 → T 8 #[tt,tt,ff,tt,tt,ff,tt,tt,ff,tt,ff,ff,ff,ff,ff] { tmps := #[.agg (e4 d), .agg (pt x1 y1 c1 b1), .agg (pt x2 y2 c2 b2), .pointer (some ⟨w.heap.size, 0, none⟩), .pointer (some ⟨w.heap.size + 1, 0, none⟩), .pointer (some ⟨w.heap.size + 1 + 1, 0, none⟩), .pointer (some ⟨w.heap.size + 1 + 1 + 1, 0, none⟩), .pointer (some ⟨uw1.heap.size, 0, none⟩), .pointer (some ⟨yw2.heap.size, 0, none⟩), .pointer (some ⟨yw7.heap.size, 0, none⟩), .pointer (some ⟨uw2.heap.size, 0, none⟩), .pointer (some ⟨yw23.heap.size, 0, none⟩), .pointer (some ⟨yw30.heap.size, 0, none⟩), .pointer (some ⟨B9, 0, none⟩), undef, undef, undef, undef, undef, undef, undef, .tuple #[.agg (e4 u), .agg (e4 s), .agg (e4 t)], .agg (pt x1 y1 c1 b1), .tuple #[.agg (e4 u), .agg (e4 s), .agg (e4 t)], .agg (e4 u), .agg (e4 s), .agg (e4 t), .tuple #[.agg (e4 u2), .agg (e4 s2), .agg (e4 t2)], .agg (pt x2 y2 c2 b2), .tuple #[.agg (e4 u2), .agg (e4 s2), .agg (e4 t2)], .agg (e4 u2), .agg (e4 s2), .agg (e4 t2), .agg (e4 t), .agg (e4 t2), undef, .agg (e4 u), .agg (e4 u2), undef, .agg (e4 s), .agg (e4 s2), undef, undef, undef, undef, undef, undef, undef, undef, undef, undef, undef, undef, undef, undef, undef, undef, undef, undef, undef, undef, undef, undef, undef, undef, undef, undef, undef, undef, undef, undef, undef, undef, undef, undef, undef, undef, undef, undef, undef, undef, undef, undef], defers := [] } w' := by
      intro B9 w' hbw hB9 mA9
      refine (hT _ _ _ _).2 ?_
      refine wpBut_r3 (i := 2) (j := 10) (l := 11) (by kernel_rfl) ?_ ?_ ?_
      refine go_call 2 35 #[tt,tt,tt,tt,tt,ff,tt,tt,ff,tt,ff,ff,ff,ff,ff] rfl rfl rfl (by rfl) rfl rfl (by rfl) ent31 (by rfl) (Ht.out t t2 ht ht2 _) ?_
      rintro e w2 ⟨a, ha, har, rfl, hb⟩
      have hk := held_next hbw hb
      have mA9 := mA9.call hb
      have haq := r_mul a t t2 Z1 Z2 A har (Htr.out) (Ht2r.out) DA.out
      clear har
      have har := haq
      clear haq
      refine ⟨_, rfl, fun _ => hk, ?_⟩
      (try simp only [sI, sS, sZ])
      exact (hT _ _ _ _).1 (St2_9 (B9) (a) w2 hk ha har hB9 mA9)
      refine go_alloc 10 14 #[tt,tt,ff,tt,tt,ff,tt,tt,ff,tt,tt,ff,ff,ff,ff] rfl rfl rfl (by rfl) 36 rfl _ al36 ?_
      intro w2 hw2
      have hk := (hbw).alloc (hbw).size (.cells z36 36)
      have hlt9 := mA9.lt
      have mA9 := mA9.alloc (.cells z36 36)
      have mA10 := HasN.new (w') z36 36 4 (by kernel_rfl)
      have hB10 := (hbw).size
      rw [← hw2] at hk mA9 mA10
      have hne9_10 : B9 ≠ w'.heap.size := by omega
      clear hw2
      refine ⟨fun _ => hk, ?_⟩
      (try simp only [sI, sS, sZ])
      exact (hT _ _ _ _).1 (St9_10 (B9) (w'.heap.size) w2 hk hB9 mA9 hB10 mA10 hne9_10)
      refine go_alloc 11 15 #[tt,tt,ff,tt,tt,ff,tt,tt,ff,tt,ff,tt,ff,ff,ff] rfl rfl rfl (by rfl) 36 rfl _ al36 ?_
      intro w2 hw2
      have hk := (hbw).alloc (hbw).size (.cells z36 36)
      have hlt9 := mA9.lt
      have mA9 := mA9.alloc (.cells z36 36)
      have mA11 := HasN.new (w') z36 36 4 (by kernel_rfl)
      have hB11 := (hbw).size
      rw [← hw2] at hk mA9 mA11
      have hne9_11 : B9 ≠ w'.heap.size := by omega
      clear hw2
      refine ⟨fun _ => hk, ?_⟩
      (try simp only [sI, sS, sZ])
      exact (hT _ _ _ _).1 (St9_11 (B9) (w'.heap.size) w2 hk hB9 mA9 hB11 mA11 hne9_11)
    have St2 : ∀ (a : Nat) (w' : World), Below W50.heap.size W50 w' → a < 115792089237316195423570985008687907853269984665640564039457584007913129639936 → a % PP = A → T 8 #[tt,tt,tt,tt,tt,ff,tt,tt,ff,ff,ff,ff,ff,ff,ff] { tmps := #[.agg (e4 d), .agg (pt x1 y1 c1 b1), .agg (pt x2 y2 c2 b2), .pointer (some ⟨w.heap.size, 0, none⟩), .pointer (some ⟨w.heap.size + 1, 0, none⟩), .pointer (some ⟨w.heap.size + 1 + 1, 0, none⟩), .pointer (some ⟨w.heap.size + 1 + 1 + 1, 0, none⟩), .pointer (some ⟨uw1.heap.size, 0, none⟩), .pointer (some ⟨yw2.heap.size, 0, none⟩), .pointer (some ⟨yw7.heap.size, 0, none⟩), .pointer (some ⟨uw2.heap.size, 0, none⟩), .pointer (some ⟨yw23.heap.size, 0, none⟩), .pointer (some ⟨yw30.heap.size, 0, none⟩), undef, undef, undef, undef, undef, undef, undef, undef, .tuple #[.agg (e4 u), .agg (e4 s), .agg (e4 t)], .agg (pt x1 y1 c1 b1), .tuple #[.agg (e4 u), .agg (e4 s), .agg (e4 t)], .agg (e4 u), .agg (e4 s), .agg (e4 t), .tuple #[.agg (e4 u2), .agg (e4 s2), .agg (e4 t2)], .agg (pt x2 y2 c2 b2), .tuple #[.agg (e4 u2), .agg (e4 s2), .agg (e4 t2)], .agg (e4 u2), .agg (e4 s2), .agg (e4 t2), .agg (e4 t), .agg (e4 t2), .agg (e4 a), .agg (e4 u), .agg (e4 u2), undef, .agg (e4 s), .agg (e4 s2), undef, undef, undef, undef, undef, undef, undef, undef, undef, undef, undef, undef, undef, undef, undef, undef, undef, undef, undef, undef, undef, undef, undef, undef, undef, undef, undef, undef, undef, undef, undef, undef, undef, undef, undef, undef, undef, undef, undef, undef, undef, undef], defers := [] } w' := by
      intro a w' hbw ha har
      refine (hT _ _ _ _).2 ?_
      refine wpBut_r4 (i := 5) (j := 9) (l := 10) (m := 11) (by kernel_rfl) ?_ ?_ ?_ ?_
      refine go_call 5 38 #[tt,tt,tt,tt,tt,tt,tt,tt,ff,ff,ff,ff,ff,ff,ff] rfl rfl rfl (by rfl) rfl rfl (by rfl) ent31 (by rfl) (Ht.out u u2 hu hu2 _) ?_
      rintro e w2 ⟨xx, hxx, hxxr, rfl, hb⟩
      have hk := held_next hbw hb
      have hxxq := r_mul xx u u2 X1 X2 XX hxxr (Hur.out) (Hu2r.out) DXX.out
      clear hxxr
      have hxxr := hxxq
      clear hxxq
      refine ⟨_, rfl, fun _ => hk, ?_⟩
      (try simp only [sI, sS, sZ])
      exact (hT _ _ _ _).1 (St2_5 (a) (xx) w2 hk ha har hxx hxxr)
      refine go_alloc 9 13 #[tt,tt,tt,tt,tt,ff,tt,tt,ff,tt,ff,ff,ff,ff,ff] rfl rfl rfl (by rfl) 36 rfl _ al36 ?_
      intro w2 hw2
      have hk := (hbw).alloc (hbw).size (.cells z36 36)
      have mA9 := HasN.new (w') z36 36 4 (by kernel_rfl)
      have hB9 := (hbw).size
      rw [← hw2] at hk mA9
      clear hw2
      refine ⟨fun _ => hk, ?_⟩
      (try simp only [sI, sS, sZ])
      exact (hT _ _ _ _).1 (St2_9 (w'.heap.size) (a) w2 hk ha har hB9 mA9)
      refine go_alloc 10 14 #[tt,tt,tt,tt,tt,ff,tt,tt,ff,ff,tt,ff,ff,ff,ff] rfl rfl rfl (by rfl) 36 rfl _ al36 ?_
      intro w2 hw2
      have hk := (hbw).alloc (hbw).size (.cells z36 36)
      have mA10 := HasN.new (w') z36 36 4 (by kernel_rfl)
      have hB10 := (hbw).size
      rw [← hw2] at hk mA10
      clear hw2
      refine ⟨fun _ => hk, ?_⟩
      (try simp only [sI, sS, sZ])
      exact (hT _ _ _ _).1 (St2_10 (w'.heap.size) (a) w2 hk ha har hB10 mA10)
      refine go_alloc 11 15 #[tt,tt,tt,tt,tt,ff,tt,tt,ff,ff,ff,tt,ff,ff,ff] rfl rfl rfl (by rfl) 36 rfl _ al36 ?_
      intro w2 hw2
      have hk := (hbw).alloc (hbw).size (.cells z36 36)
      have mA11 := HasN.new (w') z36 36 4 (by kernel_rfl)
      have hB11 := (hbw).size
      rw [← hw2] at hk mA11
      clear hw2
      refine ⟨fun _ => hk, ?_⟩
      (try simp only [sI, sS, sZ])
      exact (hT _ _ _ _).1 (St2_11 (w'.heap.size) (a) w2 hk ha har hB11 mA11)
    refine (hT _ _ _ _).2 ?_
    refine wpBut_r4 (i := 2) (j := 9) (l := 10) (m := 11) (by kernel_rfl) ?_ ?_ ?_ ?_
    refine go_call 2 35 #[tt,tt,tt,tt,tt,ff,tt,tt,ff,ff,ff,ff,ff,ff,ff] rfl rfl rfl (by rfl) rfl rfl (by rfl) ent31 (by rfl) (Ht.out t t2 ht ht2 _) ?_
    rintro e w2 ⟨a, ha, har, rfl, hb⟩
    have hk := held_next (below_dr W50) hb
    have haq := r_mul a t t2 Z1 Z2 A har (Htr.out) (Ht2r.out) DA.out
    clear har
    have har := haq
    clear haq
    refine ⟨_, rfl, fun _ => hk, ?_⟩
    (try simp only [sI, sS, sZ])
    exact (hT _ _ _ _).1 (St2 (a) w2 hk ha har)
    refine go_alloc 9 13 #[tt,tt,ff,tt,tt,ff,tt,tt,ff,tt,ff,ff,ff,ff,ff] rfl rfl rfl (by rfl) 36 rfl _ al36 ?_
    intro w2 hw2
    have hk := ((below_dr W50)).alloc ((below_dr W50)).size (.cells z36 36)
    have mA9 := HasN.new (W50.drew) z36 36 4 (by kernel_rfl)
    have hB9 := ((below_dr W50)).size
    rw [← hw2] at hk mA9
    clear hw2
    refine ⟨fun _ => hk, ?_⟩
    (try simp only [sI, sS, sZ])
    exact (hT _ _ _ _).1 (St9 (W50.drew.heap.size) w2 hk hB9 mA9)
    refine go_alloc 10 14 #[tt,tt,ff,tt,tt,ff,tt,tt,ff,ff,tt,ff,ff,ff,ff] rfl rfl rfl (by rfl) 36 rfl _ al36 ?_
    intro w2 hw2
    have hk := ((below_dr W50)).alloc ((below_dr W50)).size (.cells z36 36)
    have mA10 := HasN.new (W50.drew) z36 36 4 (by kernel_rfl)
    have hB10 := ((below_dr W50)).size
    rw [← hw2] at hk mA10
    clear hw2
    refine ⟨fun _ => hk, ?_⟩
    (try simp only [sI, sS, sZ])
    exact (hT _ _ _ _).1 (St10 (W50.drew.heap.size) w2 hk hB10 mA10)
    refine go_alloc 11 15 #[tt,tt,ff,tt,tt,ff,tt,tt,ff,ff,ff,tt,ff,ff,ff] rfl rfl rfl (by rfl) 36 rfl _ al36 ?_
    intro w2 hw2
    have hk := ((below_dr W50)).alloc ((below_dr W50)).size (.cells z36 36)
    have mA11 := HasN.new (W50.drew) z36 36 4 (by kernel_rfl)
    have hB11 := ((below_dr W50)).size
    rw [← hw2] at hk mA11
    clear hw2
    refine ⟨fun _ => hk, ?_⟩
    (try simp only [sI, sS, sZ])
    exact (hT _ _ _ _).1 (St11 (W50.drew.heap.size) w2 hk hB11 mA11)
  · rintro W50 ⟨B13, B14, B15, a, xx, yy⟩ vw50 hW50 ⟨ha, har, hxx, hxxr, hyy, hyyr, hBq0, mBq0, hBq1, mBq1, hBq2, mBq2, hbw⟩
    simp only [Act.put, List.setIfInBounds_toArray, List.set_cons_succ, List.set_cons_zero] at ha har hxx hxxr hyy hyyr hBq0  mBq0 hBq1  mBq1 hBq2  mBq2 ⊢
    rw [← hW50] at M3 M6 M7 M8 M9 M10 M11 M12 HB
    clear hW50
    have hltM3_50 := M3.out.lt
    have hltM6_50 := M6.out.lt
    have hltM7_50 := M7.out.lt
    have hltM8_50 := M8.out.lt
    have hltM9_50 := M9.out.lt
    have hltM10_50 := M10.out.lt
    have hltM11_50 := M11.out.lt
    have hltM12_50 := M12.out.lt
    replace M3 := Lib.hid (M3.out.call hbw)
    replace M6 := Lib.hid (M6.out.call hbw)
    replace M7 := Lib.hid (M7.out.call hbw)
    replace M8 := Lib.hid (M8.out.call hbw)
    replace M9 := Lib.hid (M9.out.call hbw)
    replace M10 := Lib.hid (M10.out.call hbw)
    replace M11 := Lib.hid (M11.out.call hbw)
    replace M12 := Lib.hid (M12.out.call hbw)
    replace HB := Lib.hid (held_next HB.out hbw)
    have M13 := Lib.hid mBq0; clear mBq0
    have M14 := Lib.hid mBq1; clear mBq1
    have M15 := Lib.hid mBq2; clear mBq2
    clear hbw
    clear M9 M12
    repeat ((fail_if_success (with_reducible (show wpList _ _ _ _ _ _))); go_step)
    refine wpList_load (by rfl) 36 _ rfl (B13) rfl 36 (e4 a) M13.out Try.underlying36 rfl (by rw [e4_size]; kernel_rfl) 42 rfl ?_
    (try simp only [Act.put, sI, sS, sZ])
    refine wpList_load (by rfl) 36 _ rfl (B13) rfl 36 (e4 a) M13.out Try.underlying36 rfl (by rw [e4_size]; kernel_rfl) 43 rfl ?_
    (try simp only [Act.put, sI, sS, sZ])
    refine wpList_call (by rfl) rfl rfl (by rfl) ent31 (by rfl) (Ht.out a a ha ha _) 44 rfl ?_
    rintro e uw3 ⟨bq, hbq, hbqr, rfl, hb⟩
    replace M3 := Lib.hid (M3.out.call hb)
    replace M6 := Lib.hid (M6.out.call hb)
    replace M7 := Lib.hid (M7.out.call hb)
    replace M8 := Lib.hid (M8.out.call hb)
    replace M10 := Lib.hid (M10.out.call hb)
    replace M11 := Lib.hid (M11.out.call hb)
    replace M13 := Lib.hid (M13.out.call hb)
    replace M14 := Lib.hid (M14.out.call hb)
    replace M15 := Lib.hid (M15.out.call hb)
    replace HB := Lib.hid (held_next HB.out hb)
    have hbqq := r_mul bq a a A A Bq hbqr (har) (har) DBq.out
    clear hbqr
    have hbqr := hbqq
    clear hbqq
    refine ⟨_, rfl, ?_⟩
    clear hb
    (try simp only [Act.put, sI, sS, sZ])
    refine wpList_alloc (by rfl) 36 rfl _ al36 16 rfl ?_
    intro yw51 hw2
    have hlt52 := M3.out.lt
    have hlt53 := M6.out.lt
    have hlt54 := M7.out.lt
    have hlt55 := M8.out.lt
    have hlt56 := M10.out.lt
    have hlt57 := M11.out.lt
    have hlt58 := M13.out.lt
    have hlt59 := M14.out.lt
    have hlt60 := M15.out.lt
    have hsz := HB.out.size
    replace M3 := Lib.hid (M3.out.alloc (.cells z36 36))
    replace M6 := Lib.hid (M6.out.alloc (.cells z36 36))
    replace M7 := Lib.hid (M7.out.alloc (.cells z36 36))
    replace M8 := Lib.hid (M8.out.alloc (.cells z36 36))
    replace M10 := Lib.hid (M10.out.alloc (.cells z36 36))
    replace M11 := Lib.hid (M11.out.alloc (.cells z36 36))
    replace M13 := Lib.hid (M13.out.alloc (.cells z36 36))
    replace M14 := Lib.hid (M14.out.alloc (.cells z36 36))
    replace M15 := Lib.hid (M15.out.alloc (.cells z36 36))
    have M16 := Lib.hid (HasN.new uw3 z36 36 4 (by kernel_rfl))
    replace HB := Lib.hid (HB.out.alloc hsz (.cells z36 36))
    rw [← hw2] at M3 M6 M7 M8 M10 M11 M13 M14 M15 M16 HB; clear hw2
    (try simp only [Act.put, sI, sS, sZ])
    first | (obtain ⟨Zq, hZ, mZ⟩ := M16.out) | (obtain ⟨Zq, hZ, mZ⟩ := M16.out.toN (e4_size ..))
    refine wpList_store2 (by rfl) 36 _ _ rfl rfl (uw3.heap.size) (e4 bq) rfl rfl 36 Zq mZ (by rw [e4_size]; kernel_rfl) (hZ.trans (e4_size ..).symm) (row_one _ _ _) ?_
    intro yw61 hw2
    replace M3 := Lib.hid (M3.out.setRow_other (uw3.heap.size) (e4 bq) (by omega))
    replace M6 := Lib.hid (M6.out.setRow_other (uw3.heap.size) (e4 bq) (by omega))
    replace M7 := Lib.hid (M7.out.setRow_other (uw3.heap.size) (e4 bq) (by omega))
    replace M8 := Lib.hid (M8.out.setRow_other (uw3.heap.size) (e4 bq) (by omega))
    replace M10 := Lib.hid (M10.out.setRow_other (uw3.heap.size) (e4 bq) (by omega))
    replace M11 := Lib.hid (M11.out.setRow_other (uw3.heap.size) (e4 bq) (by omega))
    replace M13 := Lib.hid (M13.out.setRow_other (uw3.heap.size) (e4 bq) (by omega))
    replace M14 := Lib.hid (M14.out.setRow_other (uw3.heap.size) (e4 bq) (by omega))
    replace M15 := Lib.hid (M15.out.setRow_other (uw3.heap.size) (e4 bq) (by omega))
    replace M16 := Lib.hid (mZ.setRow (e4 bq))
    replace HB := Lib.hid (below_setRow HB.out (uw3.heap.size) (e4 bq) (by omega))
    rw [← hw2] at M3 M6 M7 M8 M10 M11 M13 M14 M15 M16 HB; clear mZ hZ hw2
    refine wpList_nil ?_
    repeat ((fail_if_success (with_reducible (show wpList _ _ _ _ _ _))); go_step)
    refine wp_region_meet (α := Nat × Nat × Nat) (fun W0 x w' => x.2.2 < 115792089237316195423570985008687907853269984665640564039457584007913129639936 ∧ x.2.2 % PP = E ∧ W0.heap.size ≤ x.1 ∧ Has w' x.1 (e4 x.2.2) 36 ∧ Below W0.heap.size W0 w') (fun ac x => ((((((ac.put (some 45) (.agg (e4 d))).put (some 46) (.agg (e4 xx))).put (some 47) (.agg (e4 x.2.1))).put (some 48) (.agg (e4 yy))).put (some 49) (.agg (e4 x.2.2))).put (some 17) (.pointer (some ⟨x.1, 0, none⟩)))) ?_ ?_
    · intro Q' hQ'
      refine wp_region_noPanic ?_
      refine wp_region_go 99 7 #[ff,ff,ff,ff,ff,ff,ff] (by kernel_rfl) rfl rfl ?_
      intro W62 hW62
      rw [← hW62] at hQ'
      simp only [Act.put, List.setIfInBounds_toArray, List.set_cons_succ, List.set_cons_zero] at hQ'
      have HQ := Lib.hid hQ'; clear hQ'
      rw [← hW62] at M3 M6 M7 M8 M10 M11 M13 M14 M15 M16 HB
      clear hW62
      refine go_take2 0 45 #[tt,ff,ff,ff,ff,ff,ff] rfl rfl rfl (by kernel_rfl) (yieldsIf_load_row (by rfl) 110 _ rfl (w.heap.size) rfl 110 (e4 d) (fun _ h => M3.out.below h M3.out.lt) Try.underlying110 rfl (by rw [e4_size]; kernel_rfl)) ((below_dr W62)) ?_
      (try simp only [sI, sS, sZ])
      refine go_take2 1 46 #[tt,tt,ff,ff,ff,ff,ff] rfl rfl rfl (by kernel_rfl) (yieldsIf_load_row (by rfl) 36 _ rfl (B14) rfl 36 (e4 xx) (fun _ h => M14.out.below h M14.out.lt) Try.underlying36 rfl (by rw [e4_size]; kernel_rfl)) ((below_dr W62)) ?_
      (try simp only [sI, sS, sZ])
      refine go_take2 3 48 #[tt,tt,ff,tt,ff,ff,ff] rfl rfl rfl (by kernel_rfl) (yieldsIf_load_row (by rfl) 36 _ rfl (B15) rfl 36 (e4 yy) (fun _ h => M15.out.below h M15.out.lt) Try.underlying36 rfl (by rw [e4_size]; kernel_rfl)) ((below_dr W62)) ?_
      (try simp only [sI, sS, sZ])
      refine wpBut_r2 (i := 2) (j := 5) (by kernel_rfl) ?_ ?_
      refine go_call 2 47 #[tt,tt,tt,tt,ff,ff,ff] rfl rfl rfl (by rfl) rfl rfl (by rfl) ent31 (by rfl) (Ht.out d xx hd hxx _) ?_
      rintro e wW621 ⟨e1, he1, he1r, rfl, hb⟩
      have hkW621 := held_next (below_dr W62) hb
      have he1q := r_mul e1 d xx D XX E1 he1r (HdD.out) (hxxr) DE1.out
      clear he1r
      have he1r := he1q
      clear he1q
      refine ⟨_, rfl, fun _ => hkW621, ?_⟩
      clear hb
      (try simp only [sI, sS, sZ])
      refine wpBut_r2 (i := 4) (j := 5) (by kernel_rfl) ?_ ?_
      refine go_call 4 49 #[tt,tt,tt,tt,tt,ff,ff] rfl rfl rfl (by rfl) rfl rfl (by rfl) ent31 (by rfl) (Ht.out e1 yy he1 hyy _) ?_
      rintro e wW622 ⟨e, he, her, rfl, hb⟩
      have hkW622 := held_next hkW621 hb
      have heq := r_mul e e1 yy E1 YY E her (he1r) (hyyr) DE.out
      clear her
      have her := heq
      clear heq
      refine ⟨_, rfl, fun _ => hkW622, ?_⟩
      clear hb
      (try simp only [sI, sS, sZ])
      refine wpBut_r1 (i := 5) (by kernel_rfl) ?_
      refine go_alloc 5 17 #[tt,tt,tt,tt,tt,tt,ff] rfl rfl rfl (by rfl) 36 rfl _ al36 ?_
      intro wW623 hw2
      have hkW623 := (hkW622).alloc (hkW622).size (.cells z36 36)
      rw [← hw2] at hkW623
      have MA5 := Lib.hid (HasN.new (wW622) z36 36 4 (by kernel_rfl))
      rw [← hw2] at MA5
      have HA5 := Lib.hid (show W62.heap.size ≤ _ from (hkW622).size)
      clear hw2
      refine ⟨fun _ => hkW623, ?_⟩
      (try simp only [sI, sS, sZ])
      refine wpBut_r1 (i := 6) (by kernel_rfl) ?_
      obtain ⟨Zq, hZ, mZ⟩ := MA5.out
      refine go_store2 6 #[tt,tt,tt,tt,tt,tt,tt] rfl rfl rfl (by rfl) 36 _ _ rfl _ _ rfl rfl 36 Zq mZ (by rw [e4_size]; kernel_rfl) (hZ.trans (e4_size ..).symm) (row_one _ _ _) ?_
      intro wW624 hw2
      have hkW624 := below_setRow (hkW623) _ (e4 e) HA5.out
      rw [← hw2] at hkW624
      clear MA5
      have MA5 := Lib.hid (mZ.setRow (e4 e))
      rw [← hw2] at MA5; clear mZ hZ hw2
      refine ⟨fun _ => hkW624, ?_⟩
      (try simp only [sI, sS, sZ])
      exact wpBut_done (by kernel_rfl) (NoPanic.normal (HQ.out (_, e1, e) _ ⟨he, her, HA5.out, MA5.out, (hkW624)⟩))
      refine go_alloc 5 17 #[tt,tt,tt,tt,ff,tt,ff] rfl rfl rfl (by rfl) 36 rfl _ al36 ?_
      intro wW622 hw2
      have hkW622 := (hkW621).alloc (hkW621).size (.cells z36 36)
      rw [← hw2] at hkW622
      have MA5 := Lib.hid (HasN.new (wW621) z36 36 4 (by kernel_rfl))
      rw [← hw2] at MA5
      have HA5 := Lib.hid (show W62.heap.size ≤ _ from (hkW621).size)
      clear hw2
      refine ⟨fun _ => hkW622, ?_⟩
      (try simp only [sI, sS, sZ])
      refine wpBut_r1 (i := 4) (by kernel_rfl) ?_
      refine go_call 4 49 #[tt,tt,tt,tt,tt,tt,ff] rfl rfl rfl (by rfl) rfl rfl (by rfl) ent31 (by rfl) (Ht.out e1 yy he1 hyy _) ?_
      rintro e wW623 ⟨e, he, her, rfl, hb⟩
      have hkW623 := held_next hkW622 hb
      replace MA5 := Lib.hid (MA5.out.call hb)
      have heq := r_mul e e1 yy E1 YY E her (he1r) (hyyr) DE.out
      clear her
      have her := heq
      clear heq
      refine ⟨_, rfl, fun _ => hkW623, ?_⟩
      clear hb
      (try simp only [sI, sS, sZ])
      refine wpBut_r1 (i := 6) (by kernel_rfl) ?_
      obtain ⟨Zq, hZ, mZ⟩ := MA5.out
      refine go_store2 6 #[tt,tt,tt,tt,tt,tt,tt] rfl rfl rfl (by rfl) 36 _ _ rfl _ _ rfl rfl 36 Zq mZ (by rw [e4_size]; kernel_rfl) (hZ.trans (e4_size ..).symm) (row_one _ _ _) ?_
      intro wW624 hw2
      have hkW624 := below_setRow (hkW623) _ (e4 e) HA5.out
      rw [← hw2] at hkW624
      clear MA5
      have MA5 := Lib.hid (mZ.setRow (e4 e))
      rw [← hw2] at MA5; clear mZ hZ hw2
      refine ⟨fun _ => hkW624, ?_⟩
      (try simp only [sI, sS, sZ])
      exact wpBut_done (by kernel_rfl) (NoPanic.normal (HQ.out (_, e1, e) _ ⟨he, her, HA5.out, MA5.out, (hkW624)⟩))
      refine go_alloc 5 17 #[tt,tt,ff,tt,ff,tt,ff] rfl rfl rfl (by rfl) 36 rfl _ al36 ?_
      intro wW621 hw2
      have hkW621 := ((below_dr W62)).alloc ((below_dr W62)).size (.cells z36 36)
      rw [← hw2] at hkW621
      have MA5 := Lib.hid (HasN.new (W62.drew) z36 36 4 (by kernel_rfl))
      rw [← hw2] at MA5
      have HA5 := Lib.hid (show W62.heap.size ≤ _ from ((below_dr W62)).size)
      clear hw2
      refine ⟨fun _ => hkW621, ?_⟩
      (try simp only [sI, sS, sZ])
      refine wpBut_r1 (i := 2) (by kernel_rfl) ?_
      refine go_call 2 47 #[tt,tt,tt,tt,ff,tt,ff] rfl rfl rfl (by rfl) rfl rfl (by rfl) ent31 (by rfl) (Ht.out d xx hd hxx _) ?_
      rintro e wW622 ⟨e1, he1, he1r, rfl, hb⟩
      have hkW622 := held_next hkW621 hb
      replace MA5 := Lib.hid (MA5.out.call hb)
      have he1q := r_mul e1 d xx D XX E1 he1r (HdD.out) (hxxr) DE1.out
      clear he1r
      have he1r := he1q
      clear he1q
      refine ⟨_, rfl, fun _ => hkW622, ?_⟩
      clear hb
      (try simp only [sI, sS, sZ])
      refine wpBut_r1 (i := 4) (by kernel_rfl) ?_
      refine go_call 4 49 #[tt,tt,tt,tt,tt,tt,ff] rfl rfl rfl (by rfl) rfl rfl (by rfl) ent31 (by rfl) (Ht.out e1 yy he1 hyy _) ?_
      rintro e wW623 ⟨e, he, her, rfl, hb⟩
      have hkW623 := held_next hkW622 hb
      replace MA5 := Lib.hid (MA5.out.call hb)
      have heq := r_mul e e1 yy E1 YY E her (he1r) (hyyr) DE.out
      clear her
      have her := heq
      clear heq
      refine ⟨_, rfl, fun _ => hkW623, ?_⟩
      clear hb
      (try simp only [sI, sS, sZ])
      refine wpBut_r1 (i := 6) (by kernel_rfl) ?_
      obtain ⟨Zq, hZ, mZ⟩ := MA5.out
      refine go_store2 6 #[tt,tt,tt,tt,tt,tt,tt] rfl rfl rfl (by rfl) 36 _ _ rfl _ _ rfl rfl 36 Zq mZ (by rw [e4_size]; kernel_rfl) (hZ.trans (e4_size ..).symm) (row_one _ _ _) ?_
      intro wW624 hw2
      have hkW624 := below_setRow (hkW623) _ (e4 e) HA5.out
      rw [← hw2] at hkW624
      clear MA5
      have MA5 := Lib.hid (mZ.setRow (e4 e))
      rw [← hw2] at MA5; clear mZ hZ hw2
      refine ⟨fun _ => hkW624, ?_⟩
      (try simp only [sI, sS, sZ])
      exact wpBut_done (by kernel_rfl) (NoPanic.normal (HQ.out (_, e1, e) _ ⟨he, her, HA5.out, MA5.out, (hkW624)⟩))
    · rintro W62 ⟨B17, e1, e⟩ vw62 hW62 ⟨he, her, hBq0, mBq0, hbw⟩
      simp only [Act.put, List.setIfInBounds_toArray, List.set_cons_succ, List.set_cons_zero] at he her hBq0  mBq0 ⊢
      rw [← hW62] at M3 M6 M7 M8 M10 M11 M13 M14 M15 M16 HB
      clear hW62
      have hltM3_62 := M3.out.lt
      have hltM6_62 := M6.out.lt
      have hltM7_62 := M7.out.lt
      have hltM8_62 := M8.out.lt
      have hltM10_62 := M10.out.lt
      have hltM11_62 := M11.out.lt
      have hltM13_62 := M13.out.lt
      have hltM14_62 := M14.out.lt
      have hltM15_62 := M15.out.lt
      have hltM16_62 := M16.out.lt
      replace M3 := Lib.hid (M3.out.call hbw)
      replace M6 := Lib.hid (M6.out.call hbw)
      replace M7 := Lib.hid (M7.out.call hbw)
      replace M8 := Lib.hid (M8.out.call hbw)
      replace M10 := Lib.hid (M10.out.call hbw)
      replace M11 := Lib.hid (M11.out.call hbw)
      replace M13 := Lib.hid (M13.out.call hbw)
      replace M14 := Lib.hid (M14.out.call hbw)
      replace M15 := Lib.hid (M15.out.call hbw)
      replace M16 := Lib.hid (M16.out.call hbw)
      replace HB := Lib.hid (held_next HB.out hbw)
      have M17 := Lib.hid mBq0; clear mBq0
      clear hbw
      clear M3
      repeat ((fail_if_success (with_reducible (show wpList _ _ _ _ _ _))); go_step)
      refine wp_region_meet (α := Nat × Nat × Nat × Nat) (fun W0 x w' => x.2.2.1 < 115792089237316195423570985008687907853269984665640564039457584007913129639936 ∧ x.2.2.1 % PP = F ∧ x.2.2.2 < 115792089237316195423570985008687907853269984665640564039457584007913129639936 ∧ x.2.2.2 % PP = G ∧ W0.heap.size ≤ x.1 ∧ Has w' x.1 (e4 x.2.2.1) 36 ∧ W0.heap.size ≤ x.2.1 ∧ Has w' x.2.1 (e4 x.2.2.2) 36 ∧ Below W0.heap.size W0 w') (fun ac x => ((((((((ac.put (some 50) (.agg (e4 bq))).put (some 51) (.agg (e4 e))).put (some 52) (.agg (e4 x.2.2.1))).put (some 53) (.agg (e4 bq))).put (some 54) (.agg (e4 e))).put (some 55) (.agg (e4 x.2.2.2))).put (some 18) (.pointer (some ⟨x.1, 0, none⟩))).put (some 19) (.pointer (some ⟨x.2.1, 0, none⟩)))) ?_ ?_
      · intro Q' hQ'
        refine wp_region_noPanic ?_
        refine wp_region_go 99 10 #[ff,ff,ff,ff,ff,ff,ff,ff,ff,ff] (by kernel_rfl) rfl rfl ?_
        intro W63 hW63
        rw [← hW63] at hQ'
        simp only [Act.put, List.setIfInBounds_toArray, List.set_cons_succ, List.set_cons_zero] at hQ'
        have HQ := Lib.hid hQ'; clear hQ'
        rw [← hW63] at M6 M7 M8 M10 M11 M13 M14 M15 M16 M17 HB
        clear hW63
        refine go_take2 0 50 #[tt,ff,ff,ff,ff,ff,ff,ff,ff,ff] rfl rfl rfl (by kernel_rfl) (yieldsIf_load_row (by rfl) 36 _ rfl (uw3.heap.size) rfl 36 (e4 bq) (fun _ h => M16.out.below h M16.out.lt) Try.underlying36 rfl (by rw [e4_size]; kernel_rfl)) ((below_dr W63)) ?_
        (try simp only [sI, sS, sZ])
        refine go_take2 1 51 #[tt,tt,ff,ff,ff,ff,ff,ff,ff,ff] rfl rfl rfl (by kernel_rfl) (yieldsIf_load_row (by rfl) 36 _ rfl (B17) rfl 36 (e4 e) (fun _ h => M17.out.below h M17.out.lt) Try.underlying36 rfl (by rw [e4_size]; kernel_rfl)) ((below_dr W63)) ?_
        (try simp only [sI, sS, sZ])
        refine go_take2 3 53 #[tt,tt,ff,tt,ff,ff,ff,ff,ff,ff] rfl rfl rfl (by kernel_rfl) (yieldsIf_load_row (by rfl) 36 _ rfl (uw3.heap.size) rfl 36 (e4 bq) (fun _ h => M16.out.below h M16.out.lt) Try.underlying36 rfl (by rw [e4_size]; kernel_rfl)) ((below_dr W63)) ?_
        (try simp only [sI, sS, sZ])
        refine go_take2 4 54 #[tt,tt,ff,tt,tt,ff,ff,ff,ff,ff] rfl rfl rfl (by kernel_rfl) (yieldsIf_load_row (by rfl) 36 _ rfl (B17) rfl 36 (e4 e) (fun _ h => M17.out.below h M17.out.lt) Try.underlying36 rfl (by rw [e4_size]; kernel_rfl)) ((below_dr W63)) ?_
        (try simp only [sI, sS, sZ])
        refine wpBut_r3 (i := 2) (j := 6) (l := 7) (by kernel_rfl) ?_ ?_ ?_
        refine go_call 2 52 #[tt,tt,tt,tt,tt,ff,ff,ff,ff,ff] rfl rfl rfl (by rfl) rfl rfl (by rfl) ent39 (by rfl) (Hmi.out bq e hbq he _) ?_
        rintro e wW631 ⟨f, hf, hfr, rfl, hb⟩
        have hkW631 := held_next (below_dr W63) hb
        have hfq := r_sub f bq e Bq E F hfr (hbqr) (her) DF.out
        clear hfr
        have hfr := hfq
        clear hfq
        refine ⟨_, rfl, fun _ => hkW631, ?_⟩
        clear hb
        (try simp only [sI, sS, sZ])
        refine wpBut_r3 (i := 5) (j := 6) (l := 7) (by kernel_rfl) ?_ ?_ ?_
        refine go_call 5 55 #[tt,tt,tt,tt,tt,tt,ff,ff,ff,ff] rfl rfl rfl (by rfl) rfl rfl (by rfl) ent37 (by rfl) (Hp.out bq e hbq he _) ?_
        rintro e wW632 ⟨g, hg, hgr, rfl, hb⟩
        have hkW632 := held_next hkW631 hb
        have hgq := r_add g bq e Bq E G hgr (hbqr) (her) DG.out
        clear hgr
        have hgr := hgq
        clear hgq
        refine ⟨_, rfl, fun _ => hkW632, ?_⟩
        clear hb
        (try simp only [sI, sS, sZ])
        refine wpBut_r2 (i := 6) (j := 7) (by kernel_rfl) ?_ ?_
        refine go_alloc 6 18 #[tt,tt,tt,tt,tt,tt,tt,ff,ff,ff] rfl rfl rfl (by rfl) 36 rfl _ al36 ?_
        intro wW633 hw2
        have hkW633 := (hkW632).alloc (hkW632).size (.cells z36 36)
        rw [← hw2] at hkW633
        have MA6 := Lib.hid (HasN.new (wW632) z36 36 4 (by kernel_rfl))
        rw [← hw2] at MA6
        have HA6 := Lib.hid (show W63.heap.size ≤ _ from (hkW632).size)
        clear hw2
        refine ⟨fun _ => hkW633, ?_⟩
        (try simp only [sI, sS, sZ])
        refine wpBut_r1 (i := 7) (by kernel_rfl) ?_
        refine go_alloc 7 19 #[tt,tt,tt,tt,tt,tt,tt,tt,ff,ff] rfl rfl rfl (by rfl) 36 rfl _ al36 ?_
        intro wW634 hw2
        have hkW634 := (hkW633).alloc (hkW633).size (.cells z36 36)
        rw [← hw2] at hkW634
        have hne6_7 := MA6.out.lt
        replace MA6 := Lib.hid (MA6.out.alloc (.cells z36 36))
        have MA7 := Lib.hid (HasN.new (wW633) z36 36 4 (by kernel_rfl))
        rw [← hw2] at MA6 MA7
        have HA7 := Lib.hid (show W63.heap.size ≤ _ from (hkW633).size)
        clear hw2
        refine ⟨fun _ => hkW634, ?_⟩
        (try simp only [sI, sS, sZ])
        refine wpBut_r1 (i := 8) (by kernel_rfl) ?_
        obtain ⟨Zq, hZ, mZ⟩ := MA6.out
        refine go_store2 8 #[tt,tt,tt,tt,tt,tt,tt,tt,tt,ff] rfl rfl rfl (by rfl) 36 _ _ rfl _ _ rfl rfl 36 Zq mZ (by rw [e4_size]; kernel_rfl) (hZ.trans (e4_size ..).symm) (row_one _ _ _) ?_
        intro wW635 hw2
        have hkW635 := below_setRow (hkW634) _ (e4 f) HA6.out
        rw [← hw2] at hkW635
        clear MA6
        replace MA7 := Lib.hid (MA7.out.setRow_other _ (e4 f) (show _ ≠ wW632.heap.size by omega))
        have MA6 := Lib.hid (mZ.setRow (e4 f))
        rw [← hw2] at MA7 MA6; clear mZ hZ hw2
        refine ⟨fun _ => hkW635, ?_⟩
        (try simp only [sI, sS, sZ])
        refine wpBut_r1 (i := 9) (by kernel_rfl) ?_
        obtain ⟨Zq, hZ, mZ⟩ := MA7.out
        refine go_store2 9 #[tt,tt,tt,tt,tt,tt,tt,tt,tt,tt] rfl rfl rfl (by rfl) 36 _ _ rfl _ _ rfl rfl 36 Zq mZ (by rw [e4_size]; kernel_rfl) (hZ.trans (e4_size ..).symm) (row_one _ _ _) ?_
        intro wW636 hw2
        have hkW636 := below_setRow (hkW635) _ (e4 g) HA7.out
        rw [← hw2] at hkW636
        clear MA7
        replace MA6 := Lib.hid (MA6.out.setRow_other _ (e4 g) (show _ ≠ wW633.heap.size by omega))
        have MA7 := Lib.hid (mZ.setRow (e4 g))
        rw [← hw2] at MA6 MA7; clear mZ hZ hw2
        refine ⟨fun _ => hkW636, ?_⟩
        (try simp only [sI, sS, sZ])
        exact wpBut_done (by kernel_rfl) (NoPanic.normal (HQ.out (_, _, f, g) _ ⟨hf, hfr, hg, hgr, HA6.out, MA6.out, HA7.out, MA7.out, (hkW636)⟩))
        refine go_alloc 7 19 #[tt,tt,tt,tt,tt,tt,ff,tt,ff,ff] rfl rfl rfl (by rfl) 36 rfl _ al36 ?_
        intro wW633 hw2
        have hkW633 := (hkW632).alloc (hkW632).size (.cells z36 36)
        rw [← hw2] at hkW633
        have MA7 := Lib.hid (HasN.new (wW632) z36 36 4 (by kernel_rfl))
        rw [← hw2] at MA7
        have HA7 := Lib.hid (show W63.heap.size ≤ _ from (hkW632).size)
        clear hw2
        refine ⟨fun _ => hkW633, ?_⟩
        (try simp only [sI, sS, sZ])
        refine wpBut_r1 (i := 6) (by kernel_rfl) ?_
        refine go_alloc 6 18 #[tt,tt,tt,tt,tt,tt,tt,tt,ff,ff] rfl rfl rfl (by rfl) 36 rfl _ al36 ?_
        intro wW634 hw2
        have hkW634 := (hkW633).alloc (hkW633).size (.cells z36 36)
        rw [← hw2] at hkW634
        have hne7_6 := MA7.out.lt
        replace MA7 := Lib.hid (MA7.out.alloc (.cells z36 36))
        have MA6 := Lib.hid (HasN.new (wW633) z36 36 4 (by kernel_rfl))
        rw [← hw2] at MA7 MA6
        have HA6 := Lib.hid (show W63.heap.size ≤ _ from (hkW633).size)
        clear hw2
        refine ⟨fun _ => hkW634, ?_⟩
        (try simp only [sI, sS, sZ])
        refine wpBut_r1 (i := 8) (by kernel_rfl) ?_
        obtain ⟨Zq, hZ, mZ⟩ := MA6.out
        refine go_store2 8 #[tt,tt,tt,tt,tt,tt,tt,tt,tt,ff] rfl rfl rfl (by rfl) 36 _ _ rfl _ _ rfl rfl 36 Zq mZ (by rw [e4_size]; kernel_rfl) (hZ.trans (e4_size ..).symm) (row_one _ _ _) ?_
        intro wW635 hw2
        have hkW635 := below_setRow (hkW634) _ (e4 f) HA6.out
        rw [← hw2] at hkW635
        clear MA6
        replace MA7 := Lib.hid (MA7.out.setRow_other _ (e4 f) (show _ ≠ wW633.heap.size by omega))
        have MA6 := Lib.hid (mZ.setRow (e4 f))
        rw [← hw2] at MA7 MA6; clear mZ hZ hw2
        refine ⟨fun _ => hkW635, ?_⟩
        (try simp only [sI, sS, sZ])
        refine wpBut_r1 (i := 9) (by kernel_rfl) ?_
        obtain ⟨Zq, hZ, mZ⟩ := MA7.out
        refine go_store2 9 #[tt,tt,tt,tt,tt,tt,tt,tt,tt,tt] rfl rfl rfl (by rfl) 36 _ _ rfl _ _ rfl rfl 36 Zq mZ (by rw [e4_size]; kernel_rfl) (hZ.trans (e4_size ..).symm) (row_one _ _ _) ?_
        intro wW636 hw2
        have hkW636 := below_setRow (hkW635) _ (e4 g) HA7.out
        rw [← hw2] at hkW636
        clear MA7
        replace MA6 := Lib.hid (MA6.out.setRow_other _ (e4 g) (show _ ≠ wW632.heap.size by omega))
        have MA7 := Lib.hid (mZ.setRow (e4 g))
        rw [← hw2] at MA6 MA7; clear mZ hZ hw2
        refine ⟨fun _ => hkW636, ?_⟩
        (try simp only [sI, sS, sZ])
        exact wpBut_done (by kernel_rfl) (NoPanic.normal (HQ.out (_, _, f, g) _ ⟨hf, hfr, hg, hgr, HA6.out, MA6.out, HA7.out, MA7.out, (hkW636)⟩))
        refine go_alloc 6 18 #[tt,tt,tt,tt,tt,ff,tt,ff,ff,ff] rfl rfl rfl (by rfl) 36 rfl _ al36 ?_
        intro wW632 hw2
        have hkW632 := (hkW631).alloc (hkW631).size (.cells z36 36)
        rw [← hw2] at hkW632
        have MA6 := Lib.hid (HasN.new (wW631) z36 36 4 (by kernel_rfl))
        rw [← hw2] at MA6
        have HA6 := Lib.hid (show W63.heap.size ≤ _ from (hkW631).size)
        clear hw2
        refine ⟨fun _ => hkW632, ?_⟩
        (try simp only [sI, sS, sZ])
        refine wpBut_r2 (i := 5) (j := 7) (by kernel_rfl) ?_ ?_
        refine go_call 5 55 #[tt,tt,tt,tt,tt,tt,tt,ff,ff,ff] rfl rfl rfl (by rfl) rfl rfl (by rfl) ent37 (by rfl) (Hp.out bq e hbq he _) ?_
        rintro e wW633 ⟨g, hg, hgr, rfl, hb⟩
        have hkW633 := held_next hkW632 hb
        replace MA6 := Lib.hid (MA6.out.call hb)
        have hgq := r_add g bq e Bq E G hgr (hbqr) (her) DG.out
        clear hgr
        have hgr := hgq
        clear hgq
        refine ⟨_, rfl, fun _ => hkW633, ?_⟩
        clear hb
        (try simp only [sI, sS, sZ])
        refine wpBut_r1 (i := 7) (by kernel_rfl) ?_
        refine go_alloc 7 19 #[tt,tt,tt,tt,tt,tt,tt,tt,ff,ff] rfl rfl rfl (by rfl) 36 rfl _ al36 ?_
        intro wW634 hw2
        have hkW634 := (hkW633).alloc (hkW633).size (.cells z36 36)
        rw [← hw2] at hkW634
        have hne6_7 := MA6.out.lt
        replace MA6 := Lib.hid (MA6.out.alloc (.cells z36 36))
        have MA7 := Lib.hid (HasN.new (wW633) z36 36 4 (by kernel_rfl))
        rw [← hw2] at MA6 MA7
        have HA7 := Lib.hid (show W63.heap.size ≤ _ from (hkW633).size)
        clear hw2
        refine ⟨fun _ => hkW634, ?_⟩
        (try simp only [sI, sS, sZ])
        refine wpBut_r1 (i := 8) (by kernel_rfl) ?_
        obtain ⟨Zq, hZ, mZ⟩ := MA6.out
        refine go_store2 8 #[tt,tt,tt,tt,tt,tt,tt,tt,tt,ff] rfl rfl rfl (by rfl) 36 _ _ rfl _ _ rfl rfl 36 Zq mZ (by rw [e4_size]; kernel_rfl) (hZ.trans (e4_size ..).symm) (row_one _ _ _) ?_
        intro wW635 hw2
        have hkW635 := below_setRow (hkW634) _ (e4 f) HA6.out
        rw [← hw2] at hkW635
        clear MA6
        replace MA7 := Lib.hid (MA7.out.setRow_other _ (e4 f) (show _ ≠ wW631.heap.size by omega))
        have MA6 := Lib.hid (mZ.setRow (e4 f))
        rw [← hw2] at MA7 MA6; clear mZ hZ hw2
        refine ⟨fun _ => hkW635, ?_⟩
        (try simp only [sI, sS, sZ])
        refine wpBut_r1 (i := 9) (by kernel_rfl) ?_
        obtain ⟨Zq, hZ, mZ⟩ := MA7.out
        refine go_store2 9 #[tt,tt,tt,tt,tt,tt,tt,tt,tt,tt] rfl rfl rfl (by rfl) 36 _ _ rfl _ _ rfl rfl 36 Zq mZ (by rw [e4_size]; kernel_rfl) (hZ.trans (e4_size ..).symm) (row_one _ _ _) ?_
        intro wW636 hw2
        have hkW636 := below_setRow (hkW635) _ (e4 g) HA7.out
        rw [← hw2] at hkW636
        clear MA7
        replace MA6 := Lib.hid (MA6.out.setRow_other _ (e4 g) (show _ ≠ wW633.heap.size by omega))
        have MA7 := Lib.hid (mZ.setRow (e4 g))
        rw [← hw2] at MA6 MA7; clear mZ hZ hw2
        refine ⟨fun _ => hkW636, ?_⟩
        (try simp only [sI, sS, sZ])
        exact wpBut_done (by kernel_rfl) (NoPanic.normal (HQ.out (_, _, f, g) _ ⟨hf, hfr, hg, hgr, HA6.out, MA6.out, HA7.out, MA7.out, (hkW636)⟩))
        refine go_alloc 7 19 #[tt,tt,tt,tt,tt,ff,tt,tt,ff,ff] rfl rfl rfl (by rfl) 36 rfl _ al36 ?_
        intro wW633 hw2
        have hkW633 := (hkW632).alloc (hkW632).size (.cells z36 36)
        rw [← hw2] at hkW633
        have hne6_7 := MA6.out.lt
        replace MA6 := Lib.hid (MA6.out.alloc (.cells z36 36))
        have MA7 := Lib.hid (HasN.new (wW632) z36 36 4 (by kernel_rfl))
        rw [← hw2] at MA6 MA7
        have HA7 := Lib.hid (show W63.heap.size ≤ _ from (hkW632).size)
        clear hw2
        refine ⟨fun _ => hkW633, ?_⟩
        (try simp only [sI, sS, sZ])
        refine wpBut_r1 (i := 5) (by kernel_rfl) ?_
        refine go_call 5 55 #[tt,tt,tt,tt,tt,tt,tt,tt,ff,ff] rfl rfl rfl (by rfl) rfl rfl (by rfl) ent37 (by rfl) (Hp.out bq e hbq he _) ?_
        rintro e wW634 ⟨g, hg, hgr, rfl, hb⟩
        have hkW634 := held_next hkW633 hb
        replace MA6 := Lib.hid (MA6.out.call hb)
        replace MA7 := Lib.hid (MA7.out.call hb)
        have hgq := r_add g bq e Bq E G hgr (hbqr) (her) DG.out
        clear hgr
        have hgr := hgq
        clear hgq
        refine ⟨_, rfl, fun _ => hkW634, ?_⟩
        clear hb
        (try simp only [sI, sS, sZ])
        refine wpBut_r1 (i := 8) (by kernel_rfl) ?_
        obtain ⟨Zq, hZ, mZ⟩ := MA6.out
        refine go_store2 8 #[tt,tt,tt,tt,tt,tt,tt,tt,tt,ff] rfl rfl rfl (by rfl) 36 _ _ rfl _ _ rfl rfl 36 Zq mZ (by rw [e4_size]; kernel_rfl) (hZ.trans (e4_size ..).symm) (row_one _ _ _) ?_
        intro wW635 hw2
        have hkW635 := below_setRow (hkW634) _ (e4 f) HA6.out
        rw [← hw2] at hkW635
        clear MA6
        replace MA7 := Lib.hid (MA7.out.setRow_other _ (e4 f) (show _ ≠ wW631.heap.size by omega))
        have MA6 := Lib.hid (mZ.setRow (e4 f))
        rw [← hw2] at MA7 MA6; clear mZ hZ hw2
        refine ⟨fun _ => hkW635, ?_⟩
        (try simp only [sI, sS, sZ])
        refine wpBut_r1 (i := 9) (by kernel_rfl) ?_
        obtain ⟨Zq, hZ, mZ⟩ := MA7.out
        refine go_store2 9 #[tt,tt,tt,tt,tt,tt,tt,tt,tt,tt] rfl rfl rfl (by rfl) 36 _ _ rfl _ _ rfl rfl 36 Zq mZ (by rw [e4_size]; kernel_rfl) (hZ.trans (e4_size ..).symm) (row_one _ _ _) ?_
        intro wW636 hw2
        have hkW636 := below_setRow (hkW635) _ (e4 g) HA7.out
        rw [← hw2] at hkW636
        clear MA7
        replace MA6 := Lib.hid (MA6.out.setRow_other _ (e4 g) (show _ ≠ wW632.heap.size by omega))
        have MA7 := Lib.hid (mZ.setRow (e4 g))
        rw [← hw2] at MA6 MA7; clear mZ hZ hw2
        refine ⟨fun _ => hkW636, ?_⟩
        (try simp only [sI, sS, sZ])
        exact wpBut_done (by kernel_rfl) (NoPanic.normal (HQ.out (_, _, f, g) _ ⟨hf, hfr, hg, hgr, HA6.out, MA6.out, HA7.out, MA7.out, (hkW636)⟩))
        refine go_alloc 7 19 #[tt,tt,tt,tt,tt,ff,ff,tt,ff,ff] rfl rfl rfl (by rfl) 36 rfl _ al36 ?_
        intro wW632 hw2
        have hkW632 := (hkW631).alloc (hkW631).size (.cells z36 36)
        rw [← hw2] at hkW632
        have MA7 := Lib.hid (HasN.new (wW631) z36 36 4 (by kernel_rfl))
        rw [← hw2] at MA7
        have HA7 := Lib.hid (show W63.heap.size ≤ _ from (hkW631).size)
        clear hw2
        refine ⟨fun _ => hkW632, ?_⟩
        (try simp only [sI, sS, sZ])
        refine wpBut_r2 (i := 5) (j := 6) (by kernel_rfl) ?_ ?_
        refine go_call 5 55 #[tt,tt,tt,tt,tt,tt,ff,tt,ff,ff] rfl rfl rfl (by rfl) rfl rfl (by rfl) ent37 (by rfl) (Hp.out bq e hbq he _) ?_
        rintro e wW633 ⟨g, hg, hgr, rfl, hb⟩
        have hkW633 := held_next hkW632 hb
        replace MA7 := Lib.hid (MA7.out.call hb)
        have hgq := r_add g bq e Bq E G hgr (hbqr) (her) DG.out
        clear hgr
        have hgr := hgq
        clear hgq
        refine ⟨_, rfl, fun _ => hkW633, ?_⟩
        clear hb
        (try simp only [sI, sS, sZ])
        refine wpBut_r1 (i := 6) (by kernel_rfl) ?_
        refine go_alloc 6 18 #[tt,tt,tt,tt,tt,tt,tt,tt,ff,ff] rfl rfl rfl (by rfl) 36 rfl _ al36 ?_
        intro wW634 hw2
        have hkW634 := (hkW633).alloc (hkW633).size (.cells z36 36)
        rw [← hw2] at hkW634
        have hne7_6 := MA7.out.lt
        replace MA7 := Lib.hid (MA7.out.alloc (.cells z36 36))
        have MA6 := Lib.hid (HasN.new (wW633) z36 36 4 (by kernel_rfl))
        rw [← hw2] at MA7 MA6
        have HA6 := Lib.hid (show W63.heap.size ≤ _ from (hkW633).size)
        clear hw2
        refine ⟨fun _ => hkW634, ?_⟩
        (try simp only [sI, sS, sZ])
        refine wpBut_r1 (i := 8) (by kernel_rfl) ?_
        obtain ⟨Zq, hZ, mZ⟩ := MA6.out
        refine go_store2 8 #[tt,tt,tt,tt,tt,tt,tt,tt,tt,ff] rfl rfl rfl (by rfl) 36 _ _ rfl _ _ rfl rfl 36 Zq mZ (by rw [e4_size]; kernel_rfl) (hZ.trans (e4_size ..).symm) (row_one _ _ _) ?_
        intro wW635 hw2
        have hkW635 := below_setRow (hkW634) _ (e4 f) HA6.out
        rw [← hw2] at hkW635
        clear MA6
        replace MA7 := Lib.hid (MA7.out.setRow_other _ (e4 f) (show _ ≠ wW633.heap.size by omega))
        have MA6 := Lib.hid (mZ.setRow (e4 f))
        rw [← hw2] at MA7 MA6; clear mZ hZ hw2
        refine ⟨fun _ => hkW635, ?_⟩
        (try simp only [sI, sS, sZ])
        refine wpBut_r1 (i := 9) (by kernel_rfl) ?_
        obtain ⟨Zq, hZ, mZ⟩ := MA7.out
        refine go_store2 9 #[tt,tt,tt,tt,tt,tt,tt,tt,tt,tt] rfl rfl rfl (by rfl) 36 _ _ rfl _ _ rfl rfl 36 Zq mZ (by rw [e4_size]; kernel_rfl) (hZ.trans (e4_size ..).symm) (row_one _ _ _) ?_
        intro wW636 hw2
        have hkW636 := below_setRow (hkW635) _ (e4 g) HA7.out
        rw [← hw2] at hkW636
        clear MA7
        replace MA6 := Lib.hid (MA6.out.setRow_other _ (e4 g) (show _ ≠ wW631.heap.size by omega))
        have MA7 := Lib.hid (mZ.setRow (e4 g))
        rw [← hw2] at MA6 MA7; clear mZ hZ hw2
        refine ⟨fun _ => hkW636, ?_⟩
        (try simp only [sI, sS, sZ])
        exact wpBut_done (by kernel_rfl) (NoPanic.normal (HQ.out (_, _, f, g) _ ⟨hf, hfr, hg, hgr, HA6.out, MA6.out, HA7.out, MA7.out, (hkW636)⟩))
        refine go_alloc 6 18 #[tt,tt,tt,tt,tt,ff,tt,tt,ff,ff] rfl rfl rfl (by rfl) 36 rfl _ al36 ?_
        intro wW633 hw2
        have hkW633 := (hkW632).alloc (hkW632).size (.cells z36 36)
        rw [← hw2] at hkW633
        have hne7_6 := MA7.out.lt
        replace MA7 := Lib.hid (MA7.out.alloc (.cells z36 36))
        have MA6 := Lib.hid (HasN.new (wW632) z36 36 4 (by kernel_rfl))
        rw [← hw2] at MA7 MA6
        have HA6 := Lib.hid (show W63.heap.size ≤ _ from (hkW632).size)
        clear hw2
        refine ⟨fun _ => hkW633, ?_⟩
        (try simp only [sI, sS, sZ])
        refine wpBut_r1 (i := 5) (by kernel_rfl) ?_
        refine go_call 5 55 #[tt,tt,tt,tt,tt,tt,tt,tt,ff,ff] rfl rfl rfl (by rfl) rfl rfl (by rfl) ent37 (by rfl) (Hp.out bq e hbq he _) ?_
        rintro e wW634 ⟨g, hg, hgr, rfl, hb⟩
        have hkW634 := held_next hkW633 hb
        replace MA7 := Lib.hid (MA7.out.call hb)
        replace MA6 := Lib.hid (MA6.out.call hb)
        have hgq := r_add g bq e Bq E G hgr (hbqr) (her) DG.out
        clear hgr
        have hgr := hgq
        clear hgq
        refine ⟨_, rfl, fun _ => hkW634, ?_⟩
        clear hb
        (try simp only [sI, sS, sZ])
        refine wpBut_r1 (i := 8) (by kernel_rfl) ?_
        obtain ⟨Zq, hZ, mZ⟩ := MA6.out
        refine go_store2 8 #[tt,tt,tt,tt,tt,tt,tt,tt,tt,ff] rfl rfl rfl (by rfl) 36 _ _ rfl _ _ rfl rfl 36 Zq mZ (by rw [e4_size]; kernel_rfl) (hZ.trans (e4_size ..).symm) (row_one _ _ _) ?_
        intro wW635 hw2
        have hkW635 := below_setRow (hkW634) _ (e4 f) HA6.out
        rw [← hw2] at hkW635
        clear MA6
        replace MA7 := Lib.hid (MA7.out.setRow_other _ (e4 f) (show _ ≠ wW632.heap.size by omega))
        have MA6 := Lib.hid (mZ.setRow (e4 f))
        rw [← hw2] at MA7 MA6; clear mZ hZ hw2
        refine ⟨fun _ => hkW635, ?_⟩
        (try simp only [sI, sS, sZ])
        refine wpBut_r1 (i := 9) (by kernel_rfl) ?_
        obtain ⟨Zq, hZ, mZ⟩ := MA7.out
        refine go_store2 9 #[tt,tt,tt,tt,tt,tt,tt,tt,tt,tt] rfl rfl rfl (by rfl) 36 _ _ rfl _ _ rfl rfl 36 Zq mZ (by rw [e4_size]; kernel_rfl) (hZ.trans (e4_size ..).symm) (row_one _ _ _) ?_
        intro wW636 hw2
        have hkW636 := below_setRow (hkW635) _ (e4 g) HA7.out
        rw [← hw2] at hkW636
        clear MA7
        replace MA6 := Lib.hid (MA6.out.setRow_other _ (e4 g) (show _ ≠ wW631.heap.size by omega))
        have MA7 := Lib.hid (mZ.setRow (e4 g))
        rw [← hw2] at MA6 MA7; clear mZ hZ hw2
        refine ⟨fun _ => hkW636, ?_⟩
        (try simp only [sI, sS, sZ])
        exact wpBut_done (by kernel_rfl) (NoPanic.normal (HQ.out (_, _, f, g) _ ⟨hf, hfr, hg, hgr, HA6.out, MA6.out, HA7.out, MA7.out, (hkW636)⟩))
        refine go_alloc 6 18 #[tt,tt,ff,tt,tt,ff,tt,ff,ff,ff] rfl rfl rfl (by rfl) 36 rfl _ al36 ?_
        intro wW631 hw2
        have hkW631 := ((below_dr W63)).alloc ((below_dr W63)).size (.cells z36 36)
        rw [← hw2] at hkW631
        have MA6 := Lib.hid (HasN.new (W63.drew) z36 36 4 (by kernel_rfl))
        rw [← hw2] at MA6
        have HA6 := Lib.hid (show W63.heap.size ≤ _ from ((below_dr W63)).size)
        clear hw2
        refine ⟨fun _ => hkW631, ?_⟩
        (try simp only [sI, sS, sZ])
        refine wpBut_r2 (i := 2) (j := 7) (by kernel_rfl) ?_ ?_
        refine go_call 2 52 #[tt,tt,tt,tt,tt,ff,tt,ff,ff,ff] rfl rfl rfl (by rfl) rfl rfl (by rfl) ent39 (by rfl) (Hmi.out bq e hbq he _) ?_
        rintro e wW632 ⟨f, hf, hfr, rfl, hb⟩
        have hkW632 := held_next hkW631 hb
        replace MA6 := Lib.hid (MA6.out.call hb)
        have hfq := r_sub f bq e Bq E F hfr (hbqr) (her) DF.out
        clear hfr
        have hfr := hfq
        clear hfq
        refine ⟨_, rfl, fun _ => hkW632, ?_⟩
        clear hb
        (try simp only [sI, sS, sZ])
        refine wpBut_r2 (i := 5) (j := 7) (by kernel_rfl) ?_ ?_
        refine go_call 5 55 #[tt,tt,tt,tt,tt,tt,tt,ff,ff,ff] rfl rfl rfl (by rfl) rfl rfl (by rfl) ent37 (by rfl) (Hp.out bq e hbq he _) ?_
        rintro e wW633 ⟨g, hg, hgr, rfl, hb⟩
        have hkW633 := held_next hkW632 hb
        replace MA6 := Lib.hid (MA6.out.call hb)
        have hgq := r_add g bq e Bq E G hgr (hbqr) (her) DG.out
        clear hgr
        have hgr := hgq
        clear hgq
        refine ⟨_, rfl, fun _ => hkW633, ?_⟩
        clear hb
        (try simp only [sI, sS, sZ])
        refine wpBut_r1 (i := 7) (by kernel_rfl) ?_
        refine go_alloc 7 19 #[tt,tt,tt,tt,tt,tt,tt,tt,ff,ff] rfl rfl rfl (by rfl) 36 rfl _ al36 ?_
        intro wW634 hw2
        have hkW634 := (hkW633).alloc (hkW633).size (.cells z36 36)
        rw [← hw2] at hkW634
        have hne6_7 := MA6.out.lt
        replace MA6 := Lib.hid (MA6.out.alloc (.cells z36 36))
        have MA7 := Lib.hid (HasN.new (wW633) z36 36 4 (by kernel_rfl))
        rw [← hw2] at MA6 MA7
        have HA7 := Lib.hid (show W63.heap.size ≤ _ from (hkW633).size)
        clear hw2
        refine ⟨fun _ => hkW634, ?_⟩
        (try simp only [sI, sS, sZ])
        refine wpBut_r1 (i := 8) (by kernel_rfl) ?_
        obtain ⟨Zq, hZ, mZ⟩ := MA6.out
        refine go_store2 8 #[tt,tt,tt,tt,tt,tt,tt,tt,tt,ff] rfl rfl rfl (by rfl) 36 _ _ rfl _ _ rfl rfl 36 Zq mZ (by rw [e4_size]; kernel_rfl) (hZ.trans (e4_size ..).symm) (row_one _ _ _) ?_
        intro wW635 hw2
        have hkW635 := below_setRow (hkW634) _ (e4 f) HA6.out
        rw [← hw2] at hkW635
        clear MA6
        replace MA7 := Lib.hid (MA7.out.setRow_other _ (e4 f) (show _ ≠ W63.drew.heap.size by omega))
        have MA6 := Lib.hid (mZ.setRow (e4 f))
        rw [← hw2] at MA7 MA6; clear mZ hZ hw2
        refine ⟨fun _ => hkW635, ?_⟩
        (try simp only [sI, sS, sZ])
        refine wpBut_r1 (i := 9) (by kernel_rfl) ?_
        obtain ⟨Zq, hZ, mZ⟩ := MA7.out
        refine go_store2 9 #[tt,tt,tt,tt,tt,tt,tt,tt,tt,tt] rfl rfl rfl (by rfl) 36 _ _ rfl _ _ rfl rfl 36 Zq mZ (by rw [e4_size]; kernel_rfl) (hZ.trans (e4_size ..).symm) (row_one _ _ _) ?_
        intro wW636 hw2
        have hkW636 := below_setRow (hkW635) _ (e4 g) HA7.out
        rw [← hw2] at hkW636
        clear MA7
        replace MA6 := Lib.hid (MA6.out.setRow_other _ (e4 g) (show _ ≠ wW633.heap.size by omega))
        have MA7 := Lib.hid (mZ.setRow (e4 g))
        rw [← hw2] at MA6 MA7; clear mZ hZ hw2
        refine ⟨fun _ => hkW636, ?_⟩
        (try simp only [sI, sS, sZ])
        exact wpBut_done (by kernel_rfl) (NoPanic.normal (HQ.out (_, _, f, g) _ ⟨hf, hfr, hg, hgr, HA6.out, MA6.out, HA7.out, MA7.out, (hkW636)⟩))
        refine go_alloc 7 19 #[tt,tt,tt,tt,tt,ff,tt,tt,ff,ff] rfl rfl rfl (by rfl) 36 rfl _ al36 ?_
        intro wW633 hw2
        have hkW633 := (hkW632).alloc (hkW632).size (.cells z36 36)
        rw [← hw2] at hkW633
        have hne6_7 := MA6.out.lt
        replace MA6 := Lib.hid (MA6.out.alloc (.cells z36 36))
        have MA7 := Lib.hid (HasN.new (wW632) z36 36 4 (by kernel_rfl))
        rw [← hw2] at MA6 MA7
        have HA7 := Lib.hid (show W63.heap.size ≤ _ from (hkW632).size)
        clear hw2
        refine ⟨fun _ => hkW633, ?_⟩
        (try simp only [sI, sS, sZ])
        refine wpBut_r1 (i := 5) (by kernel_rfl) ?_
        refine go_call 5 55 #[tt,tt,tt,tt,tt,tt,tt,tt,ff,ff] rfl rfl rfl (by rfl) rfl rfl (by rfl) ent37 (by rfl) (Hp.out bq e hbq he _) ?_
        rintro e wW634 ⟨g, hg, hgr, rfl, hb⟩
        have hkW634 := held_next hkW633 hb
        replace MA6 := Lib.hid (MA6.out.call hb)
        replace MA7 := Lib.hid (MA7.out.call hb)
        have hgq := r_add g bq e Bq E G hgr (hbqr) (her) DG.out
        clear hgr
        have hgr := hgq
        clear hgq
        refine ⟨_, rfl, fun _ => hkW634, ?_⟩
        clear hb
        (try simp only [sI, sS, sZ])
        refine wpBut_r1 (i := 8) (by kernel_rfl) ?_
        obtain ⟨Zq, hZ, mZ⟩ := MA6.out
        refine go_store2 8 #[tt,tt,tt,tt,tt,tt,tt,tt,tt,ff] rfl rfl rfl (by rfl) 36 _ _ rfl _ _ rfl rfl 36 Zq mZ (by rw [e4_size]; kernel_rfl) (hZ.trans (e4_size ..).symm) (row_one _ _ _) ?_
        intro wW635 hw2
        have hkW635 := below_setRow (hkW634) _ (e4 f) HA6.out
        rw [← hw2] at hkW635
        clear MA6
        replace MA7 := Lib.hid (MA7.out.setRow_other _ (e4 f) (show _ ≠ W63.drew.heap.size by omega))
        have MA6 := Lib.hid (mZ.setRow (e4 f))
        rw [← hw2] at MA7 MA6; clear mZ hZ hw2
        refine ⟨fun _ => hkW635, ?_⟩
        (try simp only [sI, sS, sZ])
        refine wpBut_r1 (i := 9) (by kernel_rfl) ?_
        obtain ⟨Zq, hZ, mZ⟩ := MA7.out
        refine go_store2 9 #[tt,tt,tt,tt,tt,tt,tt,tt,tt,tt] rfl rfl rfl (by rfl) 36 _ _ rfl _ _ rfl rfl 36 Zq mZ (by rw [e4_size]; kernel_rfl) (hZ.trans (e4_size ..).symm) (row_one _ _ _) ?_
        intro wW636 hw2
        have hkW636 := below_setRow (hkW635) _ (e4 g) HA7.out
        rw [← hw2] at hkW636
        clear MA7
        replace MA6 := Lib.hid (MA6.out.setRow_other _ (e4 g) (show _ ≠ wW632.heap.size by omega))
        have MA7 := Lib.hid (mZ.setRow (e4 g))
        rw [← hw2] at MA6 MA7; clear mZ hZ hw2
        refine ⟨fun _ => hkW636, ?_⟩
        (try simp only [sI, sS, sZ])
        exact wpBut_done (by kernel_rfl) (NoPanic.normal (HQ.out (_, _, f, g) _ ⟨hf, hfr, hg, hgr, HA6.out, MA6.out, HA7.out, MA7.out, (hkW636)⟩))
        refine go_alloc 7 19 #[tt,tt,ff,tt,tt,ff,tt,tt,ff,ff] rfl rfl rfl (by rfl) 36 rfl _ al36 ?_
        intro wW632 hw2
        have hkW632 := (hkW631).alloc (hkW631).size (.cells z36 36)
        rw [← hw2] at hkW632
        have hne6_7 := MA6.out.lt
        replace MA6 := Lib.hid (MA6.out.alloc (.cells z36 36))
        have MA7 := Lib.hid (HasN.new (wW631) z36 36 4 (by kernel_rfl))
        rw [← hw2] at MA6 MA7
        have HA7 := Lib.hid (show W63.heap.size ≤ _ from (hkW631).size)
        clear hw2
        refine ⟨fun _ => hkW632, ?_⟩
        (try simp only [sI, sS, sZ])
        refine wpBut_r1 (i := 2) (by kernel_rfl) ?_
        refine go_call 2 52 #[tt,tt,tt,tt,tt,ff,tt,tt,ff,ff] rfl rfl rfl (by rfl) rfl rfl (by rfl) ent39 (by rfl) (Hmi.out bq e hbq he _) ?_
        rintro e wW633 ⟨f, hf, hfr, rfl, hb⟩
        have hkW633 := held_next hkW632 hb
        replace MA6 := Lib.hid (MA6.out.call hb)
        replace MA7 := Lib.hid (MA7.out.call hb)
        have hfq := r_sub f bq e Bq E F hfr (hbqr) (her) DF.out
        clear hfr
        have hfr := hfq
        clear hfq
        refine ⟨_, rfl, fun _ => hkW633, ?_⟩
        clear hb
        (try simp only [sI, sS, sZ])
        refine wpBut_r1 (i := 5) (by kernel_rfl) ?_
        refine go_call 5 55 #[tt,tt,tt,tt,tt,tt,tt,tt,ff,ff] rfl rfl rfl (by rfl) rfl rfl (by rfl) ent37 (by rfl) (Hp.out bq e hbq he _) ?_
        rintro e wW634 ⟨g, hg, hgr, rfl, hb⟩
        have hkW634 := held_next hkW633 hb
        replace MA6 := Lib.hid (MA6.out.call hb)
        replace MA7 := Lib.hid (MA7.out.call hb)
        have hgq := r_add g bq e Bq E G hgr (hbqr) (her) DG.out
        clear hgr
        have hgr := hgq
        clear hgq
        refine ⟨_, rfl, fun _ => hkW634, ?_⟩
        clear hb
        (try simp only [sI, sS, sZ])
        refine wpBut_r1 (i := 8) (by kernel_rfl) ?_
        obtain ⟨Zq, hZ, mZ⟩ := MA6.out
        refine go_store2 8 #[tt,tt,tt,tt,tt,tt,tt,tt,tt,ff] rfl rfl rfl (by rfl) 36 _ _ rfl _ _ rfl rfl 36 Zq mZ (by rw [e4_size]; kernel_rfl) (hZ.trans (e4_size ..).symm) (row_one _ _ _) ?_
        intro wW635 hw2
        have hkW635 := below_setRow (hkW634) _ (e4 f) HA6.out
        rw [← hw2] at hkW635
        clear MA6
        replace MA7 := Lib.hid (MA7.out.setRow_other _ (e4 f) (show _ ≠ W63.drew.heap.size by omega))
        have MA6 := Lib.hid (mZ.setRow (e4 f))
        rw [← hw2] at MA7 MA6; clear mZ hZ hw2
        refine ⟨fun _ => hkW635, ?_⟩
        (try simp only [sI, sS, sZ])
        refine wpBut_r1 (i := 9) (by kernel_rfl) ?_
        obtain ⟨Zq, hZ, mZ⟩ := MA7.out
        refine go_store2 9 #[tt,tt,tt,tt,tt,tt,tt,tt,tt,tt] rfl rfl rfl (by rfl) 36 _ _ rfl _ _ rfl rfl 36 Zq mZ (by rw [e4_size]; kernel_rfl) (hZ.trans (e4_size ..).symm) (row_one _ _ _) ?_
        intro wW636 hw2
        have hkW636 := below_setRow (hkW635) _ (e4 g) HA7.out
        rw [← hw2] at hkW636
        clear MA7
        replace MA6 := Lib.hid (MA6.out.setRow_other _ (e4 g) (show _ ≠ wW631.heap.size by omega))
        have MA7 := Lib.hid (mZ.setRow (e4 g))
        rw [← hw2] at MA6 MA7; clear mZ hZ hw2
        refine ⟨fun _ => hkW636, ?_⟩
        (try simp only [sI, sS, sZ])
        exact wpBut_done (by kernel_rfl) (NoPanic.normal (HQ.out (_, _, f, g) _ ⟨hf, hfr, hg, hgr, HA6.out, MA6.out, HA7.out, MA7.out, (hkW636)⟩))
        refine go_alloc 7 19 #[tt,tt,ff,tt,tt,ff,ff,tt,ff,ff] rfl rfl rfl (by rfl) 36 rfl _ al36 ?_
        intro wW631 hw2
        have hkW631 := ((below_dr W63)).alloc ((below_dr W63)).size (.cells z36 36)
        rw [← hw2] at hkW631
        have MA7 := Lib.hid (HasN.new (W63.drew) z36 36 4 (by kernel_rfl))
        rw [← hw2] at MA7
        have HA7 := Lib.hid (show W63.heap.size ≤ _ from ((below_dr W63)).size)
        clear hw2
        refine ⟨fun _ => hkW631, ?_⟩
        (try simp only [sI, sS, sZ])
        refine wpBut_r2 (i := 2) (j := 6) (by kernel_rfl) ?_ ?_
        refine go_call 2 52 #[tt,tt,tt,tt,tt,ff,ff,tt,ff,ff] rfl rfl rfl (by rfl) rfl rfl (by rfl) ent39 (by rfl) (Hmi.out bq e hbq he _) ?_
        rintro e wW632 ⟨f, hf, hfr, rfl, hb⟩
        have hkW632 := held_next hkW631 hb
        replace MA7 := Lib.hid (MA7.out.call hb)
        have hfq := r_sub f bq e Bq E F hfr (hbqr) (her) DF.out
        clear hfr
        have hfr := hfq
        clear hfq
        refine ⟨_, rfl, fun _ => hkW632, ?_⟩
        clear hb
        (try simp only [sI, sS, sZ])
        refine wpBut_r2 (i := 5) (j := 6) (by kernel_rfl) ?_ ?_
        refine go_call 5 55 #[tt,tt,tt,tt,tt,tt,ff,tt,ff,ff] rfl rfl rfl (by rfl) rfl rfl (by rfl) ent37 (by rfl) (Hp.out bq e hbq he _) ?_
        rintro e wW633 ⟨g, hg, hgr, rfl, hb⟩
        have hkW633 := held_next hkW632 hb
        replace MA7 := Lib.hid (MA7.out.call hb)
        have hgq := r_add g bq e Bq E G hgr (hbqr) (her) DG.out
        clear hgr
        have hgr := hgq
        clear hgq
        refine ⟨_, rfl, fun _ => hkW633, ?_⟩
        clear hb
        (try simp only [sI, sS, sZ])
        refine wpBut_r1 (i := 6) (by kernel_rfl) ?_
        refine go_alloc 6 18 #[tt,tt,tt,tt,tt,tt,tt,tt,ff,ff] rfl rfl rfl (by rfl) 36 rfl _ al36 ?_
        intro wW634 hw2
        have hkW634 := (hkW633).alloc (hkW633).size (.cells z36 36)
        rw [← hw2] at hkW634
        have hne7_6 := MA7.out.lt
        replace MA7 := Lib.hid (MA7.out.alloc (.cells z36 36))
        have MA6 := Lib.hid (HasN.new (wW633) z36 36 4 (by kernel_rfl))
        rw [← hw2] at MA7 MA6
        have HA6 := Lib.hid (show W63.heap.size ≤ _ from (hkW633).size)
        clear hw2
        refine ⟨fun _ => hkW634, ?_⟩
        (try simp only [sI, sS, sZ])
        refine wpBut_r1 (i := 8) (by kernel_rfl) ?_
        obtain ⟨Zq, hZ, mZ⟩ := MA6.out
        refine go_store2 8 #[tt,tt,tt,tt,tt,tt,tt,tt,tt,ff] rfl rfl rfl (by rfl) 36 _ _ rfl _ _ rfl rfl 36 Zq mZ (by rw [e4_size]; kernel_rfl) (hZ.trans (e4_size ..).symm) (row_one _ _ _) ?_
        intro wW635 hw2
        have hkW635 := below_setRow (hkW634) _ (e4 f) HA6.out
        rw [← hw2] at hkW635
        clear MA6
        replace MA7 := Lib.hid (MA7.out.setRow_other _ (e4 f) (show _ ≠ wW633.heap.size by omega))
        have MA6 := Lib.hid (mZ.setRow (e4 f))
        rw [← hw2] at MA7 MA6; clear mZ hZ hw2
        refine ⟨fun _ => hkW635, ?_⟩
        (try simp only [sI, sS, sZ])
        refine wpBut_r1 (i := 9) (by kernel_rfl) ?_
        obtain ⟨Zq, hZ, mZ⟩ := MA7.out
        refine go_store2 9 #[tt,tt,tt,tt,tt,tt,tt,tt,tt,tt] rfl rfl rfl (by rfl) 36 _ _ rfl _ _ rfl rfl 36 Zq mZ (by rw [e4_size]; kernel_rfl) (hZ.trans (e4_size ..).symm) (row_one _ _ _) ?_
        intro wW636 hw2
        have hkW636 := below_setRow (hkW635) _ (e4 g) HA7.out
        rw [← hw2] at hkW636
        clear MA7
        replace MA6 := Lib.hid (MA6.out.setRow_other _ (e4 g) (show _ ≠ W63.drew.heap.size by omega))
        have MA7 := Lib.hid (mZ.setRow (e4 g))
        rw [← hw2] at MA6 MA7; clear mZ hZ hw2
        refine ⟨fun _ => hkW636, ?_⟩
        (try simp only [sI, sS, sZ])
        exact wpBut_done (by kernel_rfl) (NoPanic.normal (HQ.out (_, _, f, g) _ ⟨hf, hfr, hg, hgr, HA6.out, MA6.out, HA7.out, MA7.out, (hkW636)⟩))
        refine go_alloc 6 18 #[tt,tt,tt,tt,tt,ff,tt,tt,ff,ff] rfl rfl rfl (by rfl) 36 rfl _ al36 ?_
        intro wW633 hw2
        have hkW633 := (hkW632).alloc (hkW632).size (.cells z36 36)
        rw [← hw2] at hkW633
        have hne7_6 := MA7.out.lt
        replace MA7 := Lib.hid (MA7.out.alloc (.cells z36 36))
        have MA6 := Lib.hid (HasN.new (wW632) z36 36 4 (by kernel_rfl))
        rw [← hw2] at MA7 MA6
        have HA6 := Lib.hid (show W63.heap.size ≤ _ from (hkW632).size)
        clear hw2
        refine ⟨fun _ => hkW633, ?_⟩
        (try simp only [sI, sS, sZ])
        refine wpBut_r1 (i := 5) (by kernel_rfl) ?_
        refine go_call 5 55 #[tt,tt,tt,tt,tt,tt,tt,tt,ff,ff] rfl rfl rfl (by rfl) rfl rfl (by rfl) ent37 (by rfl) (Hp.out bq e hbq he _) ?_
        rintro e wW634 ⟨g, hg, hgr, rfl, hb⟩
        have hkW634 := held_next hkW633 hb
        replace MA7 := Lib.hid (MA7.out.call hb)
        replace MA6 := Lib.hid (MA6.out.call hb)
        have hgq := r_add g bq e Bq E G hgr (hbqr) (her) DG.out
        clear hgr
        have hgr := hgq
        clear hgq
        refine ⟨_, rfl, fun _ => hkW634, ?_⟩
        clear hb
        (try simp only [sI, sS, sZ])
        refine wpBut_r1 (i := 8) (by kernel_rfl) ?_
        obtain ⟨Zq, hZ, mZ⟩ := MA6.out
        refine go_store2 8 #[tt,tt,tt,tt,tt,tt,tt,tt,tt,ff] rfl rfl rfl (by rfl) 36 _ _ rfl _ _ rfl rfl 36 Zq mZ (by rw [e4_size]; kernel_rfl) (hZ.trans (e4_size ..).symm) (row_one _ _ _) ?_
        intro wW635 hw2
        have hkW635 := below_setRow (hkW634) _ (e4 f) HA6.out
        rw [← hw2] at hkW635
        clear MA6
        replace MA7 := Lib.hid (MA7.out.setRow_other _ (e4 f) (show _ ≠ wW632.heap.size by omega))
        have MA6 := Lib.hid (mZ.setRow (e4 f))
        rw [← hw2] at MA7 MA6; clear mZ hZ hw2
        refine ⟨fun _ => hkW635, ?_⟩
        (try simp only [sI, sS, sZ])
        refine wpBut_r1 (i := 9) (by kernel_rfl) ?_
        obtain ⟨Zq, hZ, mZ⟩ := MA7.out
        refine go_store2 9 #[tt,tt,tt,tt,tt,tt,tt,tt,tt,tt] rfl rfl rfl (by rfl) 36 _ _ rfl _ _ rfl rfl 36 Zq mZ (by rw [e4_size]; kernel_rfl) (hZ.trans (e4_size ..).symm) (row_one _ _ _) ?_
        intro wW636 hw2
        have hkW636 := below_setRow (hkW635) _ (e4 g) HA7.out
        rw [← hw2] at hkW636
        clear MA7
        replace MA6 := Lib.hid (MA6.out.setRow_other _ (e4 g) (show _ ≠ W63.drew.heap.size by omega))
        have MA7 := Lib.hid (mZ.setRow (e4 g))
        rw [← hw2] at MA6 MA7; clear mZ hZ hw2
        refine ⟨fun _ => hkW636, ?_⟩
        (try simp only [sI, sS, sZ])
        exact wpBut_done (by kernel_rfl) (NoPanic.normal (HQ.out (_, _, f, g) _ ⟨hf, hfr, hg, hgr, HA6.out, MA6.out, HA7.out, MA7.out, (hkW636)⟩))
        refine go_alloc 6 18 #[tt,tt,ff,tt,tt,ff,tt,tt,ff,ff] rfl rfl rfl (by rfl) 36 rfl _ al36 ?_
        intro wW632 hw2
        have hkW632 := (hkW631).alloc (hkW631).size (.cells z36 36)
        rw [← hw2] at hkW632
        have hne7_6 := MA7.out.lt
        replace MA7 := Lib.hid (MA7.out.alloc (.cells z36 36))
        have MA6 := Lib.hid (HasN.new (wW631) z36 36 4 (by kernel_rfl))
        rw [← hw2] at MA7 MA6
        have HA6 := Lib.hid (show W63.heap.size ≤ _ from (hkW631).size)
        clear hw2
        refine ⟨fun _ => hkW632, ?_⟩
        (try simp only [sI, sS, sZ])
        refine wpBut_r1 (i := 2) (by kernel_rfl) ?_
        refine go_call 2 52 #[tt,tt,tt,tt,tt,ff,tt,tt,ff,ff] rfl rfl rfl (by rfl) rfl rfl (by rfl) ent39 (by rfl) (Hmi.out bq e hbq he _) ?_
        rintro e wW633 ⟨f, hf, hfr, rfl, hb⟩
        have hkW633 := held_next hkW632 hb
        replace MA7 := Lib.hid (MA7.out.call hb)
        replace MA6 := Lib.hid (MA6.out.call hb)
        have hfq := r_sub f bq e Bq E F hfr (hbqr) (her) DF.out
        clear hfr
        have hfr := hfq
        clear hfq
        refine ⟨_, rfl, fun _ => hkW633, ?_⟩
        clear hb
        (try simp only [sI, sS, sZ])
        refine wpBut_r1 (i := 5) (by kernel_rfl) ?_
        refine go_call 5 55 #[tt,tt,tt,tt,tt,tt,tt,tt,ff,ff] rfl rfl rfl (by rfl) rfl rfl (by rfl) ent37 (by rfl) (Hp.out bq e hbq he _) ?_
        rintro e wW634 ⟨g, hg, hgr, rfl, hb⟩
        have hkW634 := held_next hkW633 hb
        replace MA7 := Lib.hid (MA7.out.call hb)
        replace MA6 := Lib.hid (MA6.out.call hb)
        have hgq := r_add g bq e Bq E G hgr (hbqr) (her) DG.out
        clear hgr
        have hgr := hgq
        clear hgq
        refine ⟨_, rfl, fun _ => hkW634, ?_⟩
        clear hb
        (try simp only [sI, sS, sZ])
        refine wpBut_r1 (i := 8) (by kernel_rfl) ?_
        obtain ⟨Zq, hZ, mZ⟩ := MA6.out
        refine go_store2 8 #[tt,tt,tt,tt,tt,tt,tt,tt,tt,ff] rfl rfl rfl (by rfl) 36 _ _ rfl _ _ rfl rfl 36 Zq mZ (by rw [e4_size]; kernel_rfl) (hZ.trans (e4_size ..).symm) (row_one _ _ _) ?_
        intro wW635 hw2
        have hkW635 := below_setRow (hkW634) _ (e4 f) HA6.out
        rw [← hw2] at hkW635
        clear MA6
        replace MA7 := Lib.hid (MA7.out.setRow_other _ (e4 f) (show _ ≠ wW631.heap.size by omega))
        have MA6 := Lib.hid (mZ.setRow (e4 f))
        rw [← hw2] at MA7 MA6; clear mZ hZ hw2
        refine ⟨fun _ => hkW635, ?_⟩
        (try simp only [sI, sS, sZ])
        refine wpBut_r1 (i := 9) (by kernel_rfl) ?_
        obtain ⟨Zq, hZ, mZ⟩ := MA7.out
        refine go_store2 9 #[tt,tt,tt,tt,tt,tt,tt,tt,tt,tt] rfl rfl rfl (by rfl) 36 _ _ rfl _ _ rfl rfl 36 Zq mZ (by rw [e4_size]; kernel_rfl) (hZ.trans (e4_size ..).symm) (row_one _ _ _) ?_
        intro wW636 hw2
        have hkW636 := below_setRow (hkW635) _ (e4 g) HA7.out
        rw [← hw2] at hkW636
        clear MA7
        replace MA6 := Lib.hid (MA6.out.setRow_other _ (e4 g) (show _ ≠ W63.drew.heap.size by omega))
        have MA7 := Lib.hid (mZ.setRow (e4 g))
        rw [← hw2] at MA6 MA7; clear mZ hZ hw2
        refine ⟨fun _ => hkW636, ?_⟩
        (try simp only [sI, sS, sZ])
        exact wpBut_done (by kernel_rfl) (NoPanic.normal (HQ.out (_, _, f, g) _ ⟨hf, hfr, hg, hgr, HA6.out, MA6.out, HA7.out, MA7.out, (hkW636)⟩))
      · rintro W63 ⟨B18, B19, f, g⟩ vw63 hW63 ⟨hf, hfr, hg, hgr, hBq0, mBq0, hBq1, mBq1, hbw⟩
        simp only [Act.put, List.setIfInBounds_toArray, List.set_cons_succ, List.set_cons_zero] at hf hfr hg hgr hBq0  mBq0 hBq1  mBq1 ⊢
        rw [← hW63] at M6 M7 M8 M10 M11 M13 M14 M15 M16 M17 HB
        clear hW63
        have hltM6_63 := M6.out.lt
        have hltM7_63 := M7.out.lt
        have hltM8_63 := M8.out.lt
        have hltM10_63 := M10.out.lt
        have hltM11_63 := M11.out.lt
        have hltM13_63 := M13.out.lt
        have hltM14_63 := M14.out.lt
        have hltM15_63 := M15.out.lt
        have hltM16_63 := M16.out.lt
        have hltM17_63 := M17.out.lt
        replace M6 := Lib.hid (M6.out.call hbw)
        replace M7 := Lib.hid (M7.out.call hbw)
        replace M8 := Lib.hid (M8.out.call hbw)
        replace M10 := Lib.hid (M10.out.call hbw)
        replace M11 := Lib.hid (M11.out.call hbw)
        replace M13 := Lib.hid (M13.out.call hbw)
        replace M14 := Lib.hid (M14.out.call hbw)
        replace M15 := Lib.hid (M15.out.call hbw)
        replace M16 := Lib.hid (M16.out.call hbw)
        replace M17 := Lib.hid (M17.out.call hbw)
        replace HB := Lib.hid (held_next HB.out hbw)
        have M18 := Lib.hid mBq0; clear mBq0
        have M19 := Lib.hid mBq1; clear mBq1
        clear hbw
        clear M16 M17
        repeat ((fail_if_success (with_reducible (show wpList _ _ _ _ _ _))); go_step)
        refine wp_region_meet (α := Nat × Nat × Nat × Nat × Nat × Nat) (fun W0 x w' => x.2.2.2.2.2 < 115792089237316195423570985008687907853269984665640564039457584007913129639936 ∧ x.2.2.2.2.2 % PP = CR ∧ W0.heap.size ≤ x.1 ∧ Has w' x.1 (e4 x.2.2.2.2.2) 36 ∧ Below W0.heap.size W0 w') (fun ac x => ((((((((((((ac.put (some 56) (.agg (e4 u))).put (some 57) (.agg (e4 s))).put (some 58) (.agg (e4 x.2.1))).put (some 59) (.agg (e4 u2))).put (some 60) (.agg (e4 s2))).put (some 61) (.agg (e4 x.2.2.1))).put (some 62) (.agg (e4 x.2.2.2.1))).put (some 63) (.agg (e4 xx))).put (some 64) (.agg (e4 x.2.2.2.2.1))).put (some 65) (.agg (e4 yy))).put (some 66) (.agg (e4 x.2.2.2.2.2))).put (some 20) (.pointer (some ⟨x.1, 0, none⟩)))) ?_ ?_
        · intro Q' hQ'
          refine wp_region_noPanic ?_
          refine wp_region_go 99 13 #[ff,ff,ff,ff,ff,ff,ff,ff,ff,ff,ff,ff,ff] (by kernel_rfl) rfl rfl ?_
          intro W64 hW64
          rw [← hW64] at hQ'
          simp only [Act.put, List.setIfInBounds_toArray, List.set_cons_succ, List.set_cons_zero] at hQ'
          have HQ := Lib.hid hQ'; clear hQ'
          rw [← hW64] at M6 M7 M8 M10 M11 M13 M14 M15 M18 M19 HB
          clear hW64
          refine go_take2 0 56 #[tt,ff,ff,ff,ff,ff,ff,ff,ff,ff,ff,ff,ff] rfl rfl rfl (by kernel_rfl) (yieldsIf_load_row (by rfl) 36 _ rfl (uw1.heap.size) rfl 36 (e4 u) (fun _ h => M7.out.below h M7.out.lt) Try.underlying36 rfl (by rw [e4_size]; kernel_rfl)) ((below_dr W64)) ?_
          (try simp only [sI, sS, sZ])
          refine go_take2 1 57 #[tt,tt,ff,ff,ff,ff,ff,ff,ff,ff,ff,ff,ff] rfl rfl rfl (by kernel_rfl) (yieldsIf_load_row (by rfl) 36 _ rfl (yw2.heap.size) rfl 36 (e4 s) (fun _ h => M8.out.below h M8.out.lt) Try.underlying36 rfl (by rw [e4_size]; kernel_rfl)) ((below_dr W64)) ?_
          (try simp only [sI, sS, sZ])
          refine go_take2 3 59 #[tt,tt,ff,tt,ff,ff,ff,ff,ff,ff,ff,ff,ff] rfl rfl rfl (by kernel_rfl) (yieldsIf_load_row (by rfl) 36 _ rfl (uw2.heap.size) rfl 36 (e4 u2) (fun _ h => M10.out.below h M10.out.lt) Try.underlying36 rfl (by rw [e4_size]; kernel_rfl)) ((below_dr W64)) ?_
          (try simp only [sI, sS, sZ])
          refine go_take2 4 60 #[tt,tt,ff,tt,tt,ff,ff,ff,ff,ff,ff,ff,ff] rfl rfl rfl (by kernel_rfl) (yieldsIf_load_row (by rfl) 36 _ rfl (yw23.heap.size) rfl 36 (e4 s2) (fun _ h => M11.out.below h M11.out.lt) Try.underlying36 rfl (by rw [e4_size]; kernel_rfl)) ((below_dr W64)) ?_
          (try simp only [sI, sS, sZ])
          refine go_take2 7 63 #[tt,tt,ff,tt,tt,ff,ff,tt,ff,ff,ff,ff,ff] rfl rfl rfl (by kernel_rfl) (yieldsIf_load_row (by rfl) 36 _ rfl (B14) rfl 36 (e4 xx) (fun _ h => M14.out.below h M14.out.lt) Try.underlying36 rfl (by rw [e4_size]; kernel_rfl)) ((below_dr W64)) ?_
          (try simp only [sI, sS, sZ])
          refine go_take2 9 65 #[tt,tt,ff,tt,tt,ff,ff,tt,ff,tt,ff,ff,ff] rfl rfl rfl (by kernel_rfl) (yieldsIf_load_row (by rfl) 36 _ rfl (B15) rfl 36 (e4 yy) (fun _ h => M15.out.below h M15.out.lt) Try.underlying36 rfl (by rw [e4_size]; kernel_rfl)) ((below_dr W64)) ?_
          (try simp only [sI, sS, sZ])
          refine wpBut_r2 (i := 2) (j := 11) (by kernel_rfl) ?_ ?_
          refine go_call 2 58 #[tt,tt,tt,tt,tt,ff,ff,tt,ff,tt,ff,ff,ff] rfl rfl rfl (by rfl) rfl rfl (by rfl) ent37 (by rfl) (Hp.out u s hu hs _) ?_
          rintro e wW641 ⟨r1, hr1, hr1r, rfl, hb⟩
          have hkW641 := held_next (below_dr W64) hb
          have hr1q := r_add r1 u s X1 Y1 S1 hr1r (Hur.out) (Hsr.out) DS1.out
          clear hr1r
          have hr1r := hr1q
          clear hr1q
          refine ⟨_, rfl, fun _ => hkW641, ?_⟩
          clear hb
          (try simp only [sI, sS, sZ])
          refine wpBut_r2 (i := 5) (j := 11) (by kernel_rfl) ?_ ?_
          refine go_call 5 61 #[tt,tt,tt,tt,tt,tt,ff,tt,ff,tt,ff,ff,ff] rfl rfl rfl (by rfl) rfl rfl (by rfl) ent37 (by rfl) (Hp.out u2 s2 hu2 hs2 _) ?_
          rintro e wW642 ⟨r2, hr2, hr2r, rfl, hb⟩
          have hkW642 := held_next hkW641 hb
          have hr2q := r_add r2 u2 s2 X2 Y2 S2 hr2r (Hu2r.out) (Hs2r.out) DS2.out
          clear hr2r
          have hr2r := hr2q
          clear hr2q
          refine ⟨_, rfl, fun _ => hkW642, ?_⟩
          clear hb
          (try simp only [sI, sS, sZ])
          refine wpBut_r2 (i := 6) (j := 11) (by kernel_rfl) ?_ ?_
          refine go_call 6 62 #[tt,tt,tt,tt,tt,tt,tt,tt,ff,tt,ff,ff,ff] rfl rfl rfl (by rfl) rfl rfl (by rfl) ent31 (by rfl) (Ht.out r1 r2 hr1 hr2 _) ?_
          rintro e wW643 ⟨r3, hr3, hr3r, rfl, hb⟩
          have hkW643 := held_next hkW642 hb
          have hr3q := r_mul r3 r1 r2 S1 S2 S3 hr3r (hr1r) (hr2r) DS3.out
          clear hr3r
          have hr3r := hr3q
          clear hr3q
          refine ⟨_, rfl, fun _ => hkW643, ?_⟩
          clear hb
          (try simp only [sI, sS, sZ])
          refine wpBut_r2 (i := 8) (j := 11) (by kernel_rfl) ?_ ?_
          refine go_call 8 64 #[tt,tt,tt,tt,tt,tt,tt,tt,tt,tt,ff,ff,ff] rfl rfl rfl (by rfl) rfl rfl (by rfl) ent39 (by rfl) (Hmi.out r3 xx hr3 hxx _) ?_
          rintro e wW644 ⟨r4, hr4, hr4r, rfl, hb⟩
          have hkW644 := held_next hkW643 hb
          have hr4q := r_sub r4 r3 xx S3 XX S4 hr4r (hr3r) (hxxr) DS4.out
          clear hr4r
          have hr4r := hr4q
          clear hr4q
          refine ⟨_, rfl, fun _ => hkW644, ?_⟩
          clear hb
          (try simp only [sI, sS, sZ])
          refine wpBut_r2 (i := 10) (j := 11) (by kernel_rfl) ?_ ?_
          refine go_call 10 66 #[tt,tt,tt,tt,tt,tt,tt,tt,tt,tt,tt,ff,ff] rfl rfl rfl (by rfl) rfl rfl (by rfl) ent39 (by rfl) (Hmi.out r4 yy hr4 hyy _) ?_
          rintro e wW645 ⟨cr, hcr, hcrr, rfl, hb⟩
          have hkW645 := held_next hkW644 hb
          have hcrq := r_sub cr r4 yy S4 YY CR hcrr (hr4r) (hyyr) DCR.out
          clear hcrr
          have hcrr := hcrq
          clear hcrq
          refine ⟨_, rfl, fun _ => hkW645, ?_⟩
          clear hb
          (try simp only [sI, sS, sZ])
          refine wpBut_r1 (i := 11) (by kernel_rfl) ?_
          refine go_alloc 11 20 #[tt,tt,tt,tt,tt,tt,tt,tt,tt,tt,tt,tt,ff] rfl rfl rfl (by rfl) 36 rfl _ al36 ?_
          intro wW646 hw2
          have hkW646 := (hkW645).alloc (hkW645).size (.cells z36 36)
          rw [← hw2] at hkW646
          have MA11 := Lib.hid (HasN.new (wW645) z36 36 4 (by kernel_rfl))
          rw [← hw2] at MA11
          have HA11 := Lib.hid (show W64.heap.size ≤ _ from (hkW645).size)
          clear hw2
          refine ⟨fun _ => hkW646, ?_⟩
          (try simp only [sI, sS, sZ])
          refine wpBut_r1 (i := 12) (by kernel_rfl) ?_
          obtain ⟨Zq, hZ, mZ⟩ := MA11.out
          refine go_store2 12 #[tt,tt,tt,tt,tt,tt,tt,tt,tt,tt,tt,tt,tt] rfl rfl rfl (by rfl) 36 _ _ rfl _ _ rfl rfl 36 Zq mZ (by rw [e4_size]; kernel_rfl) (hZ.trans (e4_size ..).symm) (row_one _ _ _) ?_
          intro wW647 hw2
          have hkW647 := below_setRow (hkW646) _ (e4 cr) HA11.out
          rw [← hw2] at hkW647
          clear MA11
          have MA11 := Lib.hid (mZ.setRow (e4 cr))
          rw [← hw2] at MA11; clear mZ hZ hw2
          refine ⟨fun _ => hkW647, ?_⟩
          (try simp only [sI, sS, sZ])
          exact wpBut_done (by kernel_rfl) (NoPanic.normal (HQ.out (_, r1, r2, r3, r4, cr) _ ⟨hcr, hcrr, HA11.out, MA11.out, (hkW647)⟩))
          refine go_alloc 11 20 #[tt,tt,tt,tt,tt,tt,tt,tt,tt,tt,ff,tt,ff] rfl rfl rfl (by rfl) 36 rfl _ al36 ?_
          intro wW645 hw2
          have hkW645 := (hkW644).alloc (hkW644).size (.cells z36 36)
          rw [← hw2] at hkW645
          have MA11 := Lib.hid (HasN.new (wW644) z36 36 4 (by kernel_rfl))
          rw [← hw2] at MA11
          have HA11 := Lib.hid (show W64.heap.size ≤ _ from (hkW644).size)
          clear hw2
          refine ⟨fun _ => hkW645, ?_⟩
          (try simp only [sI, sS, sZ])
          refine wpBut_r1 (i := 10) (by kernel_rfl) ?_
          refine go_call 10 66 #[tt,tt,tt,tt,tt,tt,tt,tt,tt,tt,tt,tt,ff] rfl rfl rfl (by rfl) rfl rfl (by rfl) ent39 (by rfl) (Hmi.out r4 yy hr4 hyy _) ?_
          rintro e wW646 ⟨cr, hcr, hcrr, rfl, hb⟩
          have hkW646 := held_next hkW645 hb
          replace MA11 := Lib.hid (MA11.out.call hb)
          have hcrq := r_sub cr r4 yy S4 YY CR hcrr (hr4r) (hyyr) DCR.out
          clear hcrr
          have hcrr := hcrq
          clear hcrq
          refine ⟨_, rfl, fun _ => hkW646, ?_⟩
          clear hb
          (try simp only [sI, sS, sZ])
          refine wpBut_r1 (i := 12) (by kernel_rfl) ?_
          obtain ⟨Zq, hZ, mZ⟩ := MA11.out
          refine go_store2 12 #[tt,tt,tt,tt,tt,tt,tt,tt,tt,tt,tt,tt,tt] rfl rfl rfl (by rfl) 36 _ _ rfl _ _ rfl rfl 36 Zq mZ (by rw [e4_size]; kernel_rfl) (hZ.trans (e4_size ..).symm) (row_one _ _ _) ?_
          intro wW647 hw2
          have hkW647 := below_setRow (hkW646) _ (e4 cr) HA11.out
          rw [← hw2] at hkW647
          clear MA11
          have MA11 := Lib.hid (mZ.setRow (e4 cr))
          rw [← hw2] at MA11; clear mZ hZ hw2
          refine ⟨fun _ => hkW647, ?_⟩
          (try simp only [sI, sS, sZ])
          exact wpBut_done (by kernel_rfl) (NoPanic.normal (HQ.out (_, r1, r2, r3, r4, cr) _ ⟨hcr, hcrr, HA11.out, MA11.out, (hkW647)⟩))
          refine go_alloc 11 20 #[tt,tt,tt,tt,tt,tt,tt,tt,ff,tt,ff,tt,ff] rfl rfl rfl (by rfl) 36 rfl _ al36 ?_
          intro wW644 hw2
          have hkW644 := (hkW643).alloc (hkW643).size (.cells z36 36)
          rw [← hw2] at hkW644
          have MA11 := Lib.hid (HasN.new (wW643) z36 36 4 (by kernel_rfl))
          rw [← hw2] at MA11
          have HA11 := Lib.hid (show W64.heap.size ≤ _ from (hkW643).size)
          clear hw2
          refine ⟨fun _ => hkW644, ?_⟩
          (try simp only [sI, sS, sZ])
          refine wpBut_r1 (i := 8) (by kernel_rfl) ?_
          refine go_call 8 64 #[tt,tt,tt,tt,tt,tt,tt,tt,tt,tt,ff,tt,ff] rfl rfl rfl (by rfl) rfl rfl (by rfl) ent39 (by rfl) (Hmi.out r3 xx hr3 hxx _) ?_
          rintro e wW645 ⟨r4, hr4, hr4r, rfl, hb⟩
          have hkW645 := held_next hkW644 hb
          replace MA11 := Lib.hid (MA11.out.call hb)
          have hr4q := r_sub r4 r3 xx S3 XX S4 hr4r (hr3r) (hxxr) DS4.out
          clear hr4r
          have hr4r := hr4q
          clear hr4q
          refine ⟨_, rfl, fun _ => hkW645, ?_⟩
          clear hb
          (try simp only [sI, sS, sZ])
          refine wpBut_r1 (i := 10) (by kernel_rfl) ?_
          refine go_call 10 66 #[tt,tt,tt,tt,tt,tt,tt,tt,tt,tt,tt,tt,ff] rfl rfl rfl (by rfl) rfl rfl (by rfl) ent39 (by rfl) (Hmi.out r4 yy hr4 hyy _) ?_
          rintro e wW646 ⟨cr, hcr, hcrr, rfl, hb⟩
          have hkW646 := held_next hkW645 hb
          replace MA11 := Lib.hid (MA11.out.call hb)
          have hcrq := r_sub cr r4 yy S4 YY CR hcrr (hr4r) (hyyr) DCR.out
          clear hcrr
          have hcrr := hcrq
          clear hcrq
          refine ⟨_, rfl, fun _ => hkW646, ?_⟩
          clear hb
          (try simp only [sI, sS, sZ])
          refine wpBut_r1 (i := 12) (by kernel_rfl) ?_
          obtain ⟨Zq, hZ, mZ⟩ := MA11.out
          refine go_store2 12 #[tt,tt,tt,tt,tt,tt,tt,tt,tt,tt,tt,tt,tt] rfl rfl rfl (by rfl) 36 _ _ rfl _ _ rfl rfl 36 Zq mZ (by rw [e4_size]; kernel_rfl) (hZ.trans (e4_size ..).symm) (row_one _ _ _) ?_
          intro wW647 hw2
          have hkW647 := below_setRow (hkW646) _ (e4 cr) HA11.out
          rw [← hw2] at hkW647
          clear MA11
          have MA11 := Lib.hid (mZ.setRow (e4 cr))
          rw [← hw2] at MA11; clear mZ hZ hw2
          refine ⟨fun _ => hkW647, ?_⟩
          (try simp only [sI, sS, sZ])
          exact wpBut_done (by kernel_rfl) (NoPanic.normal (HQ.out (_, r1, r2, r3, r4, cr) _ ⟨hcr, hcrr, HA11.out, MA11.out, (hkW647)⟩))
          refine go_alloc 11 20 #[tt,tt,tt,tt,tt,tt,ff,tt,ff,tt,ff,tt,ff] rfl rfl rfl (by rfl) 36 rfl _ al36 ?_
          intro wW643 hw2
          have hkW643 := (hkW642).alloc (hkW642).size (.cells z36 36)
          rw [← hw2] at hkW643
          have MA11 := Lib.hid (HasN.new (wW642) z36 36 4 (by kernel_rfl))
          rw [← hw2] at MA11
          have HA11 := Lib.hid (show W64.heap.size ≤ _ from (hkW642).size)
          clear hw2
          refine ⟨fun _ => hkW643, ?_⟩
          (try simp only [sI, sS, sZ])
          refine wpBut_r1 (i := 6) (by kernel_rfl) ?_
          refine go_call 6 62 #[tt,tt,tt,tt,tt,tt,tt,tt,ff,tt,ff,tt,ff] rfl rfl rfl (by rfl) rfl rfl (by rfl) ent31 (by rfl) (Ht.out r1 r2 hr1 hr2 _) ?_
          rintro e wW644 ⟨r3, hr3, hr3r, rfl, hb⟩
          have hkW644 := held_next hkW643 hb
          replace MA11 := Lib.hid (MA11.out.call hb)
          have hr3q := r_mul r3 r1 r2 S1 S2 S3 hr3r (hr1r) (hr2r) DS3.out
          clear hr3r
          have hr3r := hr3q
          clear hr3q
          refine ⟨_, rfl, fun _ => hkW644, ?_⟩
          clear hb
          (try simp only [sI, sS, sZ])
          refine wpBut_r1 (i := 8) (by kernel_rfl) ?_
          refine go_call 8 64 #[tt,tt,tt,tt,tt,tt,tt,tt,tt,tt,ff,tt,ff] rfl rfl rfl (by rfl) rfl rfl (by rfl) ent39 (by rfl) (Hmi.out r3 xx hr3 hxx _) ?_
          rintro e wW645 ⟨r4, hr4, hr4r, rfl, hb⟩
          have hkW645 := held_next hkW644 hb
          replace MA11 := Lib.hid (MA11.out.call hb)
          have hr4q := r_sub r4 r3 xx S3 XX S4 hr4r (hr3r) (hxxr) DS4.out
          clear hr4r
          have hr4r := hr4q
          clear hr4q
          refine ⟨_, rfl, fun _ => hkW645, ?_⟩
          clear hb
          (try simp only [sI, sS, sZ])
          refine wpBut_r1 (i := 10) (by kernel_rfl) ?_
          refine go_call 10 66 #[tt,tt,tt,tt,tt,tt,tt,tt,tt,tt,tt,tt,ff] rfl rfl rfl (by rfl) rfl rfl (by rfl) ent39 (by rfl) (Hmi.out r4 yy hr4 hyy _) ?_
          rintro e wW646 ⟨cr, hcr, hcrr, rfl, hb⟩
          have hkW646 := held_next hkW645 hb
          replace MA11 := Lib.hid (MA11.out.call hb)
          have hcrq := r_sub cr r4 yy S4 YY CR hcrr (hr4r) (hyyr) DCR.out
          clear hcrr
          have hcrr := hcrq
          clear hcrq
          refine ⟨_, rfl, fun _ => hkW646, ?_⟩
          clear hb
          (try simp only [sI, sS, sZ])
          refine wpBut_r1 (i := 12) (by kernel_rfl) ?_
          obtain ⟨Zq, hZ, mZ⟩ := MA11.out
          refine go_store2 12 #[tt,tt,tt,tt,tt,tt,tt,tt,tt,tt,tt,tt,tt] rfl rfl rfl (by rfl) 36 _ _ rfl _ _ rfl rfl 36 Zq mZ (by rw [e4_size]; kernel_rfl) (hZ.trans (e4_size ..).symm) (row_one _ _ _) ?_
          intro wW647 hw2
          have hkW647 := below_setRow (hkW646) _ (e4 cr) HA11.out
          rw [← hw2] at hkW647
          clear MA11
          have MA11 := Lib.hid (mZ.setRow (e4 cr))
          rw [← hw2] at MA11; clear mZ hZ hw2
          refine ⟨fun _ => hkW647, ?_⟩
          (try simp only [sI, sS, sZ])
          exact wpBut_done (by kernel_rfl) (NoPanic.normal (HQ.out (_, r1, r2, r3, r4, cr) _ ⟨hcr, hcrr, HA11.out, MA11.out, (hkW647)⟩))
          refine go_alloc 11 20 #[tt,tt,tt,tt,tt,ff,ff,tt,ff,tt,ff,tt,ff] rfl rfl rfl (by rfl) 36 rfl _ al36 ?_
          intro wW642 hw2
          have hkW642 := (hkW641).alloc (hkW641).size (.cells z36 36)
          rw [← hw2] at hkW642
          have MA11 := Lib.hid (HasN.new (wW641) z36 36 4 (by kernel_rfl))
          rw [← hw2] at MA11
          have HA11 := Lib.hid (show W64.heap.size ≤ _ from (hkW641).size)
          clear hw2
          refine ⟨fun _ => hkW642, ?_⟩
          (try simp only [sI, sS, sZ])
          refine wpBut_r1 (i := 5) (by kernel_rfl) ?_
          refine go_call 5 61 #[tt,tt,tt,tt,tt,tt,ff,tt,ff,tt,ff,tt,ff] rfl rfl rfl (by rfl) rfl rfl (by rfl) ent37 (by rfl) (Hp.out u2 s2 hu2 hs2 _) ?_
          rintro e wW643 ⟨r2, hr2, hr2r, rfl, hb⟩
          have hkW643 := held_next hkW642 hb
          replace MA11 := Lib.hid (MA11.out.call hb)
          have hr2q := r_add r2 u2 s2 X2 Y2 S2 hr2r (Hu2r.out) (Hs2r.out) DS2.out
          clear hr2r
          have hr2r := hr2q
          clear hr2q
          refine ⟨_, rfl, fun _ => hkW643, ?_⟩
          clear hb
          (try simp only [sI, sS, sZ])
          refine wpBut_r1 (i := 6) (by kernel_rfl) ?_
          refine go_call 6 62 #[tt,tt,tt,tt,tt,tt,tt,tt,ff,tt,ff,tt,ff] rfl rfl rfl (by rfl) rfl rfl (by rfl) ent31 (by rfl) (Ht.out r1 r2 hr1 hr2 _) ?_
          rintro e wW644 ⟨r3, hr3, hr3r, rfl, hb⟩
          have hkW644 := held_next hkW643 hb
          replace MA11 := Lib.hid (MA11.out.call hb)
          have hr3q := r_mul r3 r1 r2 S1 S2 S3 hr3r (hr1r) (hr2r) DS3.out
          clear hr3r
          have hr3r := hr3q
          clear hr3q
          refine ⟨_, rfl, fun _ => hkW644, ?_⟩
          clear hb
          (try simp only [sI, sS, sZ])
          refine wpBut_r1 (i := 8) (by kernel_rfl) ?_
          refine go_call 8 64 #[tt,tt,tt,tt,tt,tt,tt,tt,tt,tt,ff,tt,ff] rfl rfl rfl (by rfl) rfl rfl (by rfl) ent39 (by rfl) (Hmi.out r3 xx hr3 hxx _) ?_
          rintro e wW645 ⟨r4, hr4, hr4r, rfl, hb⟩
          have hkW645 := held_next hkW644 hb
          replace MA11 := Lib.hid (MA11.out.call hb)
          have hr4q := r_sub r4 r3 xx S3 XX S4 hr4r (hr3r) (hxxr) DS4.out
          clear hr4r
          have hr4r := hr4q
          clear hr4q
          refine ⟨_, rfl, fun _ => hkW645, ?_⟩
          clear hb
          (try simp only [sI, sS, sZ])
          refine wpBut_r1 (i := 10) (by kernel_rfl) ?_
          refine go_call 10 66 #[tt,tt,tt,tt,tt,tt,tt,tt,tt,tt,tt,tt,ff] rfl rfl rfl (by rfl) rfl rfl (by rfl) ent39 (by rfl) (Hmi.out r4 yy hr4 hyy _) ?_
          rintro e wW646 ⟨cr, hcr, hcrr, rfl, hb⟩
          have hkW646 := held_next hkW645 hb
          replace MA11 := Lib.hid (MA11.out.call hb)
          have hcrq := r_sub cr r4 yy S4 YY CR hcrr (hr4r) (hyyr) DCR.out
          clear hcrr
          have hcrr := hcrq
          clear hcrq
          refine ⟨_, rfl, fun _ => hkW646, ?_⟩
          clear hb
          (try simp only [sI, sS, sZ])
          refine wpBut_r1 (i := 12) (by kernel_rfl) ?_
          obtain ⟨Zq, hZ, mZ⟩ := MA11.out
          refine go_store2 12 #[tt,tt,tt,tt,tt,tt,tt,tt,tt,tt,tt,tt,tt] rfl rfl rfl (by rfl) 36 _ _ rfl _ _ rfl rfl 36 Zq mZ (by rw [e4_size]; kernel_rfl) (hZ.trans (e4_size ..).symm) (row_one _ _ _) ?_
          intro wW647 hw2
          have hkW647 := below_setRow (hkW646) _ (e4 cr) HA11.out
          rw [← hw2] at hkW647
          clear MA11
          have MA11 := Lib.hid (mZ.setRow (e4 cr))
          rw [← hw2] at MA11; clear mZ hZ hw2
          refine ⟨fun _ => hkW647, ?_⟩
          (try simp only [sI, sS, sZ])
          exact wpBut_done (by kernel_rfl) (NoPanic.normal (HQ.out (_, r1, r2, r3, r4, cr) _ ⟨hcr, hcrr, HA11.out, MA11.out, (hkW647)⟩))
          refine go_alloc 11 20 #[tt,tt,ff,tt,tt,ff,ff,tt,ff,tt,ff,tt,ff] rfl rfl rfl (by rfl) 36 rfl _ al36 ?_
          intro wW641 hw2
          have hkW641 := ((below_dr W64)).alloc ((below_dr W64)).size (.cells z36 36)
          rw [← hw2] at hkW641
          have MA11 := Lib.hid (HasN.new (W64.drew) z36 36 4 (by kernel_rfl))
          rw [← hw2] at MA11
          have HA11 := Lib.hid (show W64.heap.size ≤ _ from ((below_dr W64)).size)
          clear hw2
          refine ⟨fun _ => hkW641, ?_⟩
          (try simp only [sI, sS, sZ])
          refine wpBut_r1 (i := 2) (by kernel_rfl) ?_
          refine go_call 2 58 #[tt,tt,tt,tt,tt,ff,ff,tt,ff,tt,ff,tt,ff] rfl rfl rfl (by rfl) rfl rfl (by rfl) ent37 (by rfl) (Hp.out u s hu hs _) ?_
          rintro e wW642 ⟨r1, hr1, hr1r, rfl, hb⟩
          have hkW642 := held_next hkW641 hb
          replace MA11 := Lib.hid (MA11.out.call hb)
          have hr1q := r_add r1 u s X1 Y1 S1 hr1r (Hur.out) (Hsr.out) DS1.out
          clear hr1r
          have hr1r := hr1q
          clear hr1q
          refine ⟨_, rfl, fun _ => hkW642, ?_⟩
          clear hb
          (try simp only [sI, sS, sZ])
          refine wpBut_r1 (i := 5) (by kernel_rfl) ?_
          refine go_call 5 61 #[tt,tt,tt,tt,tt,tt,ff,tt,ff,tt,ff,tt,ff] rfl rfl rfl (by rfl) rfl rfl (by rfl) ent37 (by rfl) (Hp.out u2 s2 hu2 hs2 _) ?_
          rintro e wW643 ⟨r2, hr2, hr2r, rfl, hb⟩
          have hkW643 := held_next hkW642 hb
          replace MA11 := Lib.hid (MA11.out.call hb)
          have hr2q := r_add r2 u2 s2 X2 Y2 S2 hr2r (Hu2r.out) (Hs2r.out) DS2.out
          clear hr2r
          have hr2r := hr2q
          clear hr2q
          refine ⟨_, rfl, fun _ => hkW643, ?_⟩
          clear hb
          (try simp only [sI, sS, sZ])
          refine wpBut_r1 (i := 6) (by kernel_rfl) ?_
          refine go_call 6 62 #[tt,tt,tt,tt,tt,tt,tt,tt,ff,tt,ff,tt,ff] rfl rfl rfl (by rfl) rfl rfl (by rfl) ent31 (by rfl) (Ht.out r1 r2 hr1 hr2 _) ?_
          rintro e wW644 ⟨r3, hr3, hr3r, rfl, hb⟩
          have hkW644 := held_next hkW643 hb
          replace MA11 := Lib.hid (MA11.out.call hb)
          have hr3q := r_mul r3 r1 r2 S1 S2 S3 hr3r (hr1r) (hr2r) DS3.out
          clear hr3r
          have hr3r := hr3q
          clear hr3q
          refine ⟨_, rfl, fun _ => hkW644, ?_⟩
          clear hb
          (try simp only [sI, sS, sZ])
          refine wpBut_r1 (i := 8) (by kernel_rfl) ?_
          refine go_call 8 64 #[tt,tt,tt,tt,tt,tt,tt,tt,tt,tt,ff,tt,ff] rfl rfl rfl (by rfl) rfl rfl (by rfl) ent39 (by rfl) (Hmi.out r3 xx hr3 hxx _) ?_
          rintro e wW645 ⟨r4, hr4, hr4r, rfl, hb⟩
          have hkW645 := held_next hkW644 hb
          replace MA11 := Lib.hid (MA11.out.call hb)
          have hr4q := r_sub r4 r3 xx S3 XX S4 hr4r (hr3r) (hxxr) DS4.out
          clear hr4r
          have hr4r := hr4q
          clear hr4q
          refine ⟨_, rfl, fun _ => hkW645, ?_⟩
          clear hb
          (try simp only [sI, sS, sZ])
          refine wpBut_r1 (i := 10) (by kernel_rfl) ?_
          refine go_call 10 66 #[tt,tt,tt,tt,tt,tt,tt,tt,tt,tt,tt,tt,ff] rfl rfl rfl (by rfl) rfl rfl (by rfl) ent39 (by rfl) (Hmi.out r4 yy hr4 hyy _) ?_
          rintro e wW646 ⟨cr, hcr, hcrr, rfl, hb⟩
          have hkW646 := held_next hkW645 hb
          replace MA11 := Lib.hid (MA11.out.call hb)
          have hcrq := r_sub cr r4 yy S4 YY CR hcrr (hr4r) (hyyr) DCR.out
          clear hcrr
          have hcrr := hcrq
          clear hcrq
          refine ⟨_, rfl, fun _ => hkW646, ?_⟩
          clear hb
          (try simp only [sI, sS, sZ])
          refine wpBut_r1 (i := 12) (by kernel_rfl) ?_
          obtain ⟨Zq, hZ, mZ⟩ := MA11.out
          refine go_store2 12 #[tt,tt,tt,tt,tt,tt,tt,tt,tt,tt,tt,tt,tt] rfl rfl rfl (by rfl) 36 _ _ rfl _ _ rfl rfl 36 Zq mZ (by rw [e4_size]; kernel_rfl) (hZ.trans (e4_size ..).symm) (row_one _ _ _) ?_
          intro wW647 hw2
          have hkW647 := below_setRow (hkW646) _ (e4 cr) HA11.out
          rw [← hw2] at hkW647
          clear MA11
          have MA11 := Lib.hid (mZ.setRow (e4 cr))
          rw [← hw2] at MA11; clear mZ hZ hw2
          refine ⟨fun _ => hkW647, ?_⟩
          (try simp only [sI, sS, sZ])
          exact wpBut_done (by kernel_rfl) (NoPanic.normal (HQ.out (_, r1, r2, r3, r4, cr) _ ⟨hcr, hcrr, HA11.out, MA11.out, (hkW647)⟩))
        · rintro W64 ⟨B20, r1, r2, r3, r4, cr⟩ vw64 hW64 ⟨hcr, hcrr, hBq0, mBq0, hbw⟩
          simp only [Act.put, List.setIfInBounds_toArray, List.set_cons_succ, List.set_cons_zero] at hcr hcrr hBq0  mBq0 ⊢
          rw [← hW64] at M6 M7 M8 M10 M11 M13 M14 M15 M18 M19 HB
          clear hW64
          have hltM6_64 := M6.out.lt
          have hltM7_64 := M7.out.lt
          have hltM8_64 := M8.out.lt
          have hltM10_64 := M10.out.lt
          have hltM11_64 := M11.out.lt
          have hltM13_64 := M13.out.lt
          have hltM14_64 := M14.out.lt
          have hltM15_64 := M15.out.lt
          have hltM18_64 := M18.out.lt
          have hltM19_64 := M19.out.lt
          replace M6 := Lib.hid (M6.out.call hbw)
          replace M7 := Lib.hid (M7.out.call hbw)
          replace M8 := Lib.hid (M8.out.call hbw)
          replace M10 := Lib.hid (M10.out.call hbw)
          replace M11 := Lib.hid (M11.out.call hbw)
          replace M13 := Lib.hid (M13.out.call hbw)
          replace M14 := Lib.hid (M14.out.call hbw)
          replace M15 := Lib.hid (M15.out.call hbw)
          replace M18 := Lib.hid (M18.out.call hbw)
          replace M19 := Lib.hid (M19.out.call hbw)
          replace HB := Lib.hid (held_next HB.out hbw)
          have M20 := Lib.hid mBq0; clear mBq0
          clear hbw
          clear M7 M8 M10 M11
          repeat ((fail_if_success (with_reducible (show wpList _ _ _ _ _ _))); go_step)
          refine wp_region_noPanic ?_
          refine wp_region_go 16 17 #[ff,ff,ff,ff,ff,ff,ff,ff,ff,ff,ff,ff,ff,ff,ff,ff,ff] (by kernel_rfl) rfl rfl ?_
          intro W65 hW65
          rw [← hW65] at M6 M13 M14 M15 M18 M19 M20 HB
          clear hW65
          have M6N := Lib.hid (by first | exact M6.out | exact M6.out.toN (by first | exact e4_size _ | exact r22_size _ | exact k32_size _ | exact pt_size .. | exact rp_size ..) : HasN W65 (w.heap.size + 1 + 1 + 1) _ _)
          refine go_take2 0 67 #[tt,ff,ff,ff,ff,ff,ff,ff,ff,ff,ff,ff,ff,ff,ff,ff,ff] rfl rfl rfl (by kernel_rfl) (yieldsIf_load_row (by rfl) 36 _ rfl (B13) rfl 36 (e4 a) (fun _ h => M13.out.below h M13.out.lt) Try.underlying36 rfl (by rw [e4_size]; kernel_rfl)) ((below_dr W65)) ?_
          (try simp only [sI, sS, sZ])
          refine go_take2 1 68 #[tt,tt,ff,ff,ff,ff,ff,ff,ff,ff,ff,ff,ff,ff,ff,ff,ff] rfl rfl rfl (by kernel_rfl) (yieldsIf_load_row (by rfl) 36 _ rfl (B18) rfl 36 (e4 f) (fun _ h => M18.out.below h M18.out.lt) Try.underlying36 rfl (by rw [e4_size]; kernel_rfl)) ((below_dr W65)) ?_
          (try simp only [sI, sS, sZ])
          refine go_take2 3 70 #[tt,tt,ff,tt,ff,ff,ff,ff,ff,ff,ff,ff,ff,ff,ff,ff,ff] rfl rfl rfl (by kernel_rfl) (yieldsIf_load_row (by rfl) 36 _ rfl (B20) rfl 36 (e4 cr) (fun _ h => M20.out.below h M20.out.lt) Try.underlying36 rfl (by rw [e4_size]; kernel_rfl)) ((below_dr W65)) ?_
          (try simp only [sI, sS, sZ])
          refine go_take2 5 72 #[tt,tt,ff,tt,ff,tt,ff,ff,ff,ff,ff,ff,ff,ff,ff,ff,ff] rfl rfl rfl (by kernel_rfl) (yieldsIf_load_row (by rfl) 36 _ rfl (B13) rfl 36 (e4 a) (fun _ h => M13.out.below h M13.out.lt) Try.underlying36 rfl (by rw [e4_size]; kernel_rfl)) ((below_dr W65)) ?_
          (try simp only [sI, sS, sZ])
          refine go_take2 6 73 #[tt,tt,ff,tt,ff,tt,tt,ff,ff,ff,ff,ff,ff,ff,ff,ff,ff] rfl rfl rfl (by kernel_rfl) (yieldsIf_load_row (by rfl) 36 _ rfl (B19) rfl 36 (e4 g) (fun _ h => M19.out.below h M19.out.lt) Try.underlying36 rfl (by rw [e4_size]; kernel_rfl)) ((below_dr W65)) ?_
          (try simp only [sI, sS, sZ])
          refine go_take2 8 75 #[tt,tt,ff,tt,ff,tt,tt,ff,tt,ff,ff,ff,ff,ff,ff,ff,ff] rfl rfl rfl (by kernel_rfl) (yieldsIf_load_row (by rfl) 36 _ rfl (B15) rfl 36 (e4 yy) (fun _ h => M15.out.below h M15.out.lt) Try.underlying36 rfl (by rw [e4_size]; kernel_rfl)) ((below_dr W65)) ?_
          (try simp only [sI, sS, sZ])
          refine go_take2 9 76 #[tt,tt,ff,tt,ff,tt,tt,ff,tt,tt,ff,ff,ff,ff,ff,ff,ff] rfl rfl rfl (by kernel_rfl) (yieldsIf_load_row (by rfl) 36 _ rfl (B14) rfl 36 (e4 xx) (fun _ h => M14.out.below h M14.out.lt) Try.underlying36 rfl (by rw [e4_size]; kernel_rfl)) ((below_dr W65)) ?_
          (try simp only [sI, sS, sZ])
          refine go_take2 12 79 #[tt,tt,ff,tt,ff,tt,tt,ff,tt,tt,ff,ff,tt,ff,ff,ff,ff] rfl rfl rfl (by kernel_rfl) (yieldsIf_load_row (by rfl) 36 _ rfl (B18) rfl 36 (e4 f) (fun _ h => M18.out.below h M18.out.lt) Try.underlying36 rfl (by rw [e4_size]; kernel_rfl)) ((below_dr W65)) ?_
          (try simp only [sI, sS, sZ])
          refine go_take2 13 80 #[tt,tt,ff,tt,ff,tt,tt,ff,tt,tt,ff,ff,tt,tt,ff,ff,ff] rfl rfl rfl (by kernel_rfl) (yieldsIf_load_row (by rfl) 36 _ rfl (B19) rfl 36 (e4 g) (fun _ h => M19.out.below h M19.out.lt) Try.underlying36 rfl (by rw [e4_size]; kernel_rfl)) ((below_dr W65)) ?_
          (try simp only [sI, sS, sZ])
          refine wpBut_r1 (i := 2) (by kernel_rfl) ?_
          refine go_call 2 69 #[tt,tt,tt,tt,ff,tt,tt,ff,tt,tt,ff,ff,tt,tt,ff,ff,ff] rfl rfl rfl (by rfl) rfl rfl (by rfl) ent31 (by rfl) (Ht.out a f ha hf _) ?_
          rintro e wW651 ⟨k1, hk1, hk1r, rfl, hb⟩
          have hkW651 := held_next (below_dr W65) hb
          have hk1q := r_mul k1 a f A F T1 hk1r (har) (hfr) DT1.out
          clear hk1r
          have hk1r := hk1q
          clear hk1q
          refine ⟨_, rfl, fun _ => hkW651, ?_⟩
          clear hb
          (try simp only [sI, sS, sZ])
          refine wpBut_r1 (i := 4) (by kernel_rfl) ?_
          refine go_call 4 71 #[tt,tt,tt,tt,tt,tt,tt,ff,tt,tt,ff,ff,tt,tt,ff,ff,ff] rfl rfl rfl (by rfl) rfl rfl (by rfl) ent31 (by rfl) (Ht.out k1 cr hk1 hcr _) ?_
          rintro e wW652 ⟨x3, hx3, hx3r, rfl, hb⟩
          have hkW652 := held_next hkW651 hb
          have hx3q := r_mul x3 k1 cr T1 CR X3 hx3r (hk1r) (hcrr) DX3.out
          clear hx3r
          have hx3r := hx3q
          clear hx3q
          refine ⟨_, rfl, fun _ => hkW652, ?_⟩
          clear hb
          (try simp only [sI, sS, sZ])
          refine wpBut_r1 (i := 7) (by kernel_rfl) ?_
          refine go_call 7 74 #[tt,tt,tt,tt,tt,tt,tt,tt,tt,tt,ff,ff,tt,tt,ff,ff,ff] rfl rfl rfl (by rfl) rfl rfl (by rfl) ent31 (by rfl) (Ht.out a g ha hg _) ?_
          rintro e wW653 ⟨k2, hk2, hk2r, rfl, hb⟩
          have hkW653 := held_next hkW652 hb
          have hk2q := r_mul k2 a g A G T2 hk2r (har) (hgr) DT2.out
          clear hk2r
          have hk2r := hk2q
          clear hk2q
          refine ⟨_, rfl, fun _ => hkW653, ?_⟩
          clear hb
          (try simp only [sI, sS, sZ])
          refine wpBut_r1 (i := 10) (by kernel_rfl) ?_
          refine go_call 10 77 #[tt,tt,tt,tt,tt,tt,tt,tt,tt,tt,tt,ff,tt,tt,ff,ff,ff] rfl rfl rfl (by rfl) rfl rfl (by rfl) ent37 (by rfl) (Hp.out yy xx hyy hxx _) ?_
          rintro e wW654 ⟨k3, hk3, hk3r, rfl, hb⟩
          have hkW654 := held_next hkW653 hb
          have hk3q := r_add k3 yy xx YY XX T3 hk3r (hyyr) (hxxr) DT3.out
          clear hk3r
          have hk3r := hk3q
          clear hk3q
          refine ⟨_, rfl, fun _ => hkW654, ?_⟩
          clear hb
          (try simp only [sI, sS, sZ])
          refine wpBut_r1 (i := 11) (by kernel_rfl) ?_
          refine go_call 11 78 #[tt,tt,tt,tt,tt,tt,tt,tt,tt,tt,tt,tt,tt,tt,ff,ff,ff] rfl rfl rfl (by rfl) rfl rfl (by rfl) ent31 (by rfl) (Ht.out k2 k3 hk2 hk3 _) ?_
          rintro e wW655 ⟨y3, hy3, hy3r, rfl, hb⟩
          have hkW655 := held_next hkW654 hb
          have hy3q := r_mul y3 k2 k3 T2 T3 Y3 hy3r (hk2r) (hk3r) DY3.out
          clear hy3r
          have hy3r := hy3q
          clear hy3q
          refine ⟨_, rfl, fun _ => hkW655, ?_⟩
          clear hb
          (try simp only [sI, sS, sZ])
          refine wpBut_r1 (i := 14) (by kernel_rfl) ?_
          refine go_call 14 81 #[tt,tt,tt,tt,tt,tt,tt,tt,tt,tt,tt,tt,tt,tt,tt,ff,ff] rfl rfl rfl (by rfl) rfl rfl (by rfl) ent31 (by rfl) (Ht.out f g hf hg _) ?_
          rintro e wW656 ⟨z3, hz3, hz3r, rfl, hb⟩
          have hkW656 := held_next hkW655 hb
          have hz3q := r_mul z3 f g F G Z3 hz3r (hfr) (hgr) DZ3.out
          clear hz3r
          have hz3r := hz3q
          clear hz3q
          refine ⟨_, rfl, fun _ => hkW656, ?_⟩
          clear hb
          (try simp only [sI, sS, sZ])
          refine wpBut_r1 (i := 15) (by kernel_rfl) ?_
          refine go_call 15 82 #[tt,tt,tt,tt,tt,tt,tt,tt,tt,tt,tt,tt,tt,tt,tt,tt,ff] rfl rfl rfl (by rfl) rfl rfl (by rfl) ent93 (by rfl) (Hmd.out x3 y3 z3 hx3 hy3 hz3 _) ?_
          rintro e wW657 ⟨px, py, pz, pb, hpt, rfl, hb⟩
          have hkW657 := held_next hkW656 hb
          refine ⟨_, rfl, fun _ => hkW657, ?_⟩
          clear hb
          (try simp only [sI, sS, sZ])
          refine wpBut_r1 (i := 16) (by kernel_rfl) ?_
          obtain ⟨Zq, hZ, mZ⟩ := M6N.out.below hkW657 M6N.out.lt
          have MZ := Lib.hid mZ; clear mZ
          have HZ := Lib.hid hZ; clear hZ
          refine go_store 16 #[tt,tt,tt,tt,tt,tt,tt,tt,tt,tt,tt,tt,tt,tt,tt,tt,tt] rfl rfl rfl (by rfl) 53 _ _ rfl (w.heap.size + 1 + 1 + 1) _ rfl rfl 53 Zq MZ.out (by rw [pt_size]; kernel_rfl) (HZ.out.trans (pt_size ..).symm) (pt_one _ _ _ _) ⟨fun h => (h rfl).elim, ?_⟩
          (try simp only [sI, sS, sZ])
          refine wpBut_done (by kernel_rfl) (NoPanic.normal ?_)
          replace M13 := Lib.hid ((M13.out.call hkW657).setRow_other (w.heap.size + 1 + 1 + 1) (pt px py pz pb) (by omega))
          replace M14 := Lib.hid ((M14.out.call hkW657).setRow_other (w.heap.size + 1 + 1 + 1) (pt px py pz pb) (by omega))
          replace M15 := Lib.hid ((M15.out.call hkW657).setRow_other (w.heap.size + 1 + 1 + 1) (pt px py pz pb) (by omega))
          replace M18 := Lib.hid ((M18.out.call hkW657).setRow_other (w.heap.size + 1 + 1 + 1) (pt px py pz pb) (by omega))
          replace M19 := Lib.hid ((M19.out.call hkW657).setRow_other (w.heap.size + 1 + 1 + 1) (pt px py pz pb) (by omega))
          replace M20 := Lib.hid ((M20.out.call hkW657).setRow_other (w.heap.size + 1 + 1 + 1) (pt px py pz pb) (by omega))
          clear M6 M6N
          have M6 := Lib.hid (MZ.out.setRow (pt px py pz pb)); clear MZ HZ
          replace HB := Lib.hid (below_setRow (held_next HB.out hkW657) (w.heap.size + 1 + 1 + 1) (pt px py pz pb) (by omega))
          obtain ⟨yw66, hwyw66⟩ : ∃ ww, ww = wW657.setRow (w.heap.size + 1 + 1 + 1) (pt px py pz pb) := ⟨_, rfl⟩
          rw [← hwyw66] at M6 M13 M14 M15 M18 M19 M20 HB ⊢
          clear hwyw66
          rw [hx3r, hy3r, hz3r] at hpt
          have Hpt := Lib.hid hpt; clear hpt
          go_wp2_with fail
          exact bodyPost_ret (v := .agg (pt px py pz pb)) (results_cell_row (t := 53) (by rfl) _ _ (w.heap.size + 1 + 1 + 1) _ _ _ rfl M6.out Try.underlying53 rfl (by rw [pt_size]; kernel_rfl)) rfl ⟨px, py, pz, pb, Hpt.out, rfl, HB.out⟩
end Go.Proofs.Ytjiagjonlcadiaa
end
section
namespace Go.Proofs.Ytjiagjonlcadiaa

instance : NeZero PP := ⟨by have := PP_val; omega⟩
/-- a number's residue -/
def fi (a : Nat) : Fin PP := Fin.ofNat PP a
theorem fi_eq (a b : Nat) : fi a = fi b ↔ a % PP = b % PP := by
  unfold fi
  constructor
  · intro h; exact congrArg Fin.val h
  · intro h; exact Fin.ext h
theorem fi_mod (a : Nat) : fi (a % PP) = fi a := (fi_eq _ _).2 (Nat.mod_mod _ _)
theorem fi_mul (a b : Nat) : fi (a * b) = fi a * fi b := by
  apply Fin.ext
  show a * b % PP = (a % PP) * (b % PP) % PP
  exact Nat.mul_mod _ _ _
theorem fi_add (a b : Nat) : fi (a + b) = fi a + fi b := by
  apply Fin.ext
  show (a + b) % PP = ((a % PP) + (b % PP)) % PP
  exact Nat.add_mod _ _ _
theorem fi_zero : fi 0 = 0 := rfl
theorem fi_one : fi 1 = 1 := rfl
theorem fi_PP : fi PP = 0 := (fi_eq PP 0).2 (by rw [Nat.mod_self, Nat.zero_mod])
theorem fi_neg (b : Nat) : fi (PP - b % PP) = - fi b := by
  have hb : b % PP ≤ PP := Nat.le_of_lt (Nat.mod_lt _ PP_pos)
  have h : fi (PP - b % PP) + fi b = 0 := by
    rw [← fi_mod b, ← fi_add, Nat.sub_add_cancel hb, fi_PP]
  grind
theorem fi_val (a : Fin PP) : fi a.val = a := Fin.ext (Nat.mod_eq_of_lt a.isLt)
theorem fi_ne (a : Nat) (h : a % PP ≠ 0) : fi a ≠ 0 := by
  rw [← fi_zero]
  intro h2
  exact h (((fi_eq _ _).1 h2).trans (Nat.zero_mod _))
theorem fi_ne0 (a : Nat) (h : fi a ≠ 0) : a % PP ≠ 0 := by
  intro h2
  apply h
  rw [← fi_zero]
  exact (fi_eq _ _).2 (h2.trans (Nat.zero_mod _).symm)
def finv (a : Fin PP) : Fin PP := fi (pwm a.val (PP - 2))
def fd : Fin PP := fi SL
def fI : Fin PP := fi rti

theorem sl_e : (PP - 1) / 2 < 2 ^ 256 := by decide +kernel
theorem sl_pm : Nm.pm PP 256 SL ((PP - 1) / 2) = PP - 1 := by decide +kernel
theorem chi_SL : chi SL = PP - 1 := by
  unfold chi; rw [pwm_pm _ _ sl_e, sl_pm]
theorem chi_sqr (s : Nat) (h : s % PP ≠ 0) : chi (s * s) = 1 := by rw [chi_mul]; exact chi_sq s h
theorem SL_ne : SL % PP ≠ 0 := by decide +kernel
theorem non_sq (s t : Nat) (h : s * s % PP = SL * (t * t) % PP) : t % PP = 0 := by
  by_cases ht : t % PP = 0
  · exact ht
  · exfalso
    have h1 : (1 : Nat) < PP := by have := PP_val; omega
    by_cases hs : s % PP = 0
    · rw [Nat.mul_mod, hs, Nat.zero_mul, Nat.zero_mod] at h
      rcases no_zero _ _ h.symm with h | h
      · exact SL_ne h
      · rcases no_zero _ _ h with h | h <;> exact ht h
    · have e1 := chi_sqr s hs
      have e2 := chi_sqr t ht
      have e3 : chi (SL * (t * t)) = PP - 1 := by
        rw [chi_mul, e2, chi_SL, Nat.mul_one, Nat.mod_eq_of_lt (show PP - 1 < PP by omega)]
      have e4 : chi (s * s) = chi (SL * (t * t)) := by rw [← chi_mod (s * s), h, chi_mod]
      rw [e1, e3] at e4
      have := PP_val
      omega
theorem fld : Fld PP fd fI finv where
  dom := by
    intro a b h
    rw [← fi_val a, ← fi_val b, ← fi_mul, ← fi_zero] at h
    have h2 := ((fi_eq _ _).1 h).trans (Nat.zero_mod _)
    rcases no_zero _ _ h2 with h3 | h3
    · left; rw [← fi_val a, ← fi_zero]; exact (fi_eq _ _).2 (h3.trans (Nat.zero_mod _).symm)
    · right; rw [← fi_val b, ← fi_zero]; exact (fi_eq _ _).2 (h3.trans (Nat.zero_mod _).symm)
  one := by
    rw [← fi_one]; exact fi_ne 1 (by rw [one_PP]; decide)
  two := by
    rw [← fi_one, ← fi_add]
    exact fi_ne 2 (by have := PP_val; rw [Nat.mod_eq_of_lt (by omega)]; decide)
  root := by
    have h : fi (rti * rti) = fi (PP - 1 % PP) := (fi_eq _ _).2 (by rw [rti_sq, one_PP, Nat.mod_eq_of_lt (by have := PP_val; omega)])
    rw [fi_mul, fi_neg, fi_one] at h
    exact h
  non := by
    intro s t h
    rw [← fi_val s, ← fi_val t] at h
    unfold fd at h
    rw [← fi_mul, ← fi_mul, ← fi_mul] at h
    have h2 := non_sq _ _ ((fi_eq _ _).1 h)
    rw [← fi_val t, ← fi_zero]; exact (fi_eq _ _).2 (h2.trans (Nat.zero_mod _).symm)
  inv := by
    intro a ha
    have h0 : a.val % PP ≠ 0 := fi_ne0 _ (by rw [fi_val]; exact ha)
    have h1 := over_undoes 1 a.val h0
    rw [Nat.one_mul] at h1
    unfold finv
    rw [← fi_one, ← fi_val a, fi_val a, ← fi_val a, fi_val a]
    have h2 : fi (a.val * pwm a.val (PP - 2)) = fi 1 := (fi_eq _ _).2 (by rw [Nat.mul_comm]; rw [Nat.mod_mul_mod] at h1; exact h1)
    rw [fi_mul, fi_val] at h2
    exact h2

/-- these residues are this point -/
def Rep (X Y Z : Nat) (p : Fin PP × Fin PP) : Prop := fi X = p.1 * fi Z ∧ fi Y = p.2 * fi Z ∧ fi Z ≠ 0 ∧ OnP fd p
theorem padd_rep (X1 Y1 Z1 X2 Y2 Z2 : Nat) (p q : Fin PP × Fin PP) (hp : Rep X1 Y1 Z1 p) (hq : Rep X2 Y2 Z2 q) :
    Rep (padd SL X1 Y1 Z1 X2 Y2 Z2).1 (padd SL X1 Y1 Z1 X2 Y2 Z2).2.1 (padd SL X1 Y1 Z1 X2 Y2 Z2).2.2 (padA finv fd p q) := by
  obtain ⟨x1, y1, z1, o1⟩ := hp
  obtain ⟨x2, y2, z2, o2⟩ := hq
  have ex := fld.sx_eq p.1 p.2 q.1 q.2 o1 o2
  have ey := fld.sy_eq p.1 p.2 q.1 q.2 o1 o2
  have np := fld.plus_ne p.1 p.2 q.1 q.2 o1 o2
  have nm := fld.minus_ne p.1 p.2 q.1 q.2 o1 o2
  have hA : fi Z1 * fi Z2 ≠ 0 := fld.mul_ne z1 z2
  have ho := fld.on_add p q o1 o2
  have eF : fi (((Z1 * Z2 % PP) * (Z1 * Z2 % PP) % PP + (PP - SL * (X1 * X2 % PP) % PP * (Y1 * Y2 % PP) % PP)) % PP) = fi Z1 * fi Z2 * (fi Z1 * fi Z2) * (1 - fd * p.1 * q.1 * p.2 * q.2) := by
    simp only [fi_mod, fi_neg, fi_mul, fi_add]
    rw [x1, x2, y1, y2]
    show _ + -(fd * _ * _) = _
    grind
  have eG : fi (((Z1 * Z2 % PP) * (Z1 * Z2 % PP) % PP + SL * (X1 * X2 % PP) % PP * (Y1 * Y2 % PP) % PP) % PP) = fi Z1 * fi Z2 * (fi Z1 * fi Z2) * (1 + fd * p.1 * q.1 * p.2 * q.2) := by
    simp only [fi_mod, fi_mul, fi_add]
    rw [x1, x2, y1, y2]
    show _ + fd * _ * _ = _
    grind
  have eC : fi ((((X1 + Y1) % PP * ((X2 + Y2) % PP) % PP + (PP - X1 * X2 % PP)) % PP + (PP - Y1 * Y2 % PP)) % PP) = fi Z1 * fi Z2 * (p.1 * q.2 + q.1 * p.2) := by
    simp only [fi_mod, fi_neg, fi_mul, fi_add]
    rw [x1, x2, y1, y2]
    grind
  have eD : fi ((Y1 * Y2 % PP + X1 * X2 % PP) % PP) = fi Z1 * fi Z2 * (p.2 * q.2 + p.1 * q.1) := by
    simp only [fi_mod, fi_mul, fi_add]
    rw [x1, x2, y1, y2]
    grind
  unfold Rep padA
  unfold padd
  refine ⟨?_, ?_, ?_, ho⟩
  · show fi (_ * _ % PP) = sx finv fd p.1 p.2 q.1 q.2 * fi (_ * _ % PP)
    simp only [fi_mod, fi_mul] at eF eG eC eD ⊢
    rw [eF, eG, eC, ← ex]
    grind
  · show fi (_ * _ % PP) = sy finv fd p.1 p.2 q.1 q.2 * fi (_ * _ % PP)
    simp only [fi_mod, fi_mul] at eF eG eC eD ⊢
    rw [eF, eG, eD, ← ey]
    grind
  · show fi (_ * _ % PP) ≠ 0
    rw [fi_mod, fi_mul, eF, eG]
    exact fld.mul_ne (fld.mul_ne (fld.mul_ne hA hA) nm) (fld.mul_ne (fld.mul_ne hA hA) np)
end Go.Proofs.Ytjiagjonlcadiaa
end
