/- For every seed the law SignPublic returns true; no condition. -/
import Derived.Test.YtjiagjonlcadiaaGb4
set_option maxRecDepth 100000
set_option maxHeartbeats 16000000
set_option linter.unusedVariables false
set_option linter.unusedSimpArgs false
namespace Go.Proofs.Ytjiagjonlcadiaa
section
open Go.RowKit Go.Sx
def ZX (D X1 Y1 Z1 X2 Y2 Z2 : Nat) : Nat × Nat × Nat :=
 let A := Z1 * Z2 % PP
 let XX := X1 * X2 % PP
 let YY := Y1 * Y2 % PP
 let B := A * A % PP
 let E1 := D * XX % PP
 let E := E1 * YY % PP
 let F := (B + (PP - E)) % PP
 let G := (B + E) % PP
 let S1 := (X1 + Y1) % PP
 let S2 := (X2 + Y2) % PP
 let S3 := S1 * S2 % PP
 let S4 := (S3 + (PP - XX)) % PP
 let CR := (S4 + (PP - YY)) % PP
 let T1 := A * F % PP
 let T2 := A * G % PP
 let T3 := (YY + XX) % PP
 (T1 * CR % PP, T2 * T3 % PP, F * G % PP)
theorem padd_def (D X1 Y1 Z1 X2 Y2 Z2 A XX YY Bq E1 E F G S1 S2 S3 S4 CR T1 T2 T3 X3 Y3 Z3 : Nat) (hA : A = Z1 * Z2 % PP) (hXX : XX = X1 * X2 % PP) (hYY : YY = Y1 * Y2 % PP) (hBq : Bq = A * A % PP) (hE1 : E1 = D * XX % PP) (hE : E = E1 * YY % PP) (hF : F = (Bq + (PP - E)) % PP) (hG : G = (Bq + E) % PP) (hS1 : S1 = (X1 + Y1) % PP) (hS2 : S2 = (X2 + Y2) % PP) (hS3 : S3 = S1 * S2 % PP) (hS4 : S4 = (S3 + (PP - XX)) % PP) (hCR : CR = (S4 + (PP - YY)) % PP) (hT1 : T1 = A * F % PP) (hT2 : T2 = A * G % PP) (hT3 : T3 = (YY + XX) % PP) (hX3 : X3 = T1 * CR % PP) (hY3 : Y3 = T2 * T3 % PP) (hZ3 : Z3 = F * G % PP) : ZX D X1 Y1 Z1 X2 Y2 Z2 = (X3, Y3, Z3) := by
 unfold ZX
 rw [hX3, hY3, hZ3, hT1, hT2, hT3, hCR, hS4, hS3, hS1, hS2, hF, hG, hE, hE1, hBq, hA, hXX, hYY]
theorem add_of (d D : Nat) (hd : d < 115792089237316195423570985008687907853269984665640564039457584007913129639936) (hdD : d % PP = D) (x1 y1 c1 : Nat) (b1 : Bool) (X1 Y1 Z1 : Nat) (p1 : qag x1 y1 c1 b1 X1 Y1 Z1) (x2 y2 c2 : Nat) (b2 : Bool) (X2 Y2 Z2 : Nat) (p2 : qag x2 y2 c2 b2 X2 Y2 Z2) (w : World) :
 Calls Try.prog 92 #[.agg (e4 d), .agg (pt x1 y1 c1 b1), .agg (pt x2 y2 c2 b2)] w (PtP (ZX D X1 Y1 Z1 X2 Y2 Z2).1 (ZX D X1 Y1 Z1 X2 Y2 Z2).2.1 (ZX D X1 Y1 Z1 X2 Y2 Z2).2.2 w) := by
 have hd : El D d := ⟨hd, hdD⟩
 obtain ⟨A, hA⟩ : ∃ v, v = Z1 * Z2 % PP := ⟨_, rfl⟩
 obtain ⟨XX, hXX⟩ : ∃ v, v = X1 * X2 % PP := ⟨_, rfl⟩
 obtain ⟨YY, hYY⟩ : ∃ v, v = Y1 * Y2 % PP := ⟨_, rfl⟩
 obtain ⟨Bq, hBq⟩ : ∃ v, v = A * A % PP := ⟨_, rfl⟩
 obtain ⟨E1, hE1⟩ : ∃ v, v = D * XX % PP := ⟨_, rfl⟩
 obtain ⟨E, hE⟩ : ∃ v, v = E1 * YY % PP := ⟨_, rfl⟩
 obtain ⟨F, hF⟩ : ∃ v, v = (Bq + (PP - E)) % PP := ⟨_, rfl⟩
 obtain ⟨G, hG⟩ : ∃ v, v = (Bq + E) % PP := ⟨_, rfl⟩
 obtain ⟨S1, hS1⟩ : ∃ v, v = (X1 + Y1) % PP := ⟨_, rfl⟩
 obtain ⟨S2, hS2⟩ : ∃ v, v = (X2 + Y2) % PP := ⟨_, rfl⟩
 obtain ⟨S3, hS3⟩ : ∃ v, v = S1 * S2 % PP := ⟨_, rfl⟩
 obtain ⟨S4, hS4⟩ : ∃ v, v = (S3 + (PP - XX)) % PP := ⟨_, rfl⟩
 obtain ⟨CR, hCR⟩ : ∃ v, v = (S4 + (PP - YY)) % PP := ⟨_, rfl⟩
 obtain ⟨T1, hT1⟩ : ∃ v, v = A * F % PP := ⟨_, rfl⟩
 obtain ⟨T2, hT2⟩ : ∃ v, v = A * G % PP := ⟨_, rfl⟩
 obtain ⟨T3, hT3⟩ : ∃ v, v = (YY + XX) % PP := ⟨_, rfl⟩
 obtain ⟨X3, hX3⟩ : ∃ v, v = T1 * CR % PP := ⟨_, rfl⟩
 obtain ⟨Y3, hY3⟩ : ∃ v, v = T2 * T3 % PP := ⟨_, rfl⟩
 obtain ⟨Z3, hZ3⟩ : ∃ v, v = F * G % PP := ⟨_, rfl⟩
 have hpd := padd_def D X1 Y1 Z1 X2 Y2 Z2 A XX YY Bq E1 E F G S1 S2 S3 S4 CR T1 T2 T3 X3 Y3 Z3 hA hXX hYY hBq hE1 hE hF hG hS1 hS2 hS3 hS4 hCR hT1 hT2 hT3 hX3 hY3 hZ3
 rw [hpd]
 clear hpd
 refine (enter (R := fun v w' => ∃ (x y z1 : Nat) (b : Bool), qag x y z1 b X3 Y3 Z3 ∧ v = .agg (pt x y z1 b) ∧ Below w.heap.size w w') qi Try.func92 rfl Try.ntmps92 rfl (St.start w) ?_).mono (fun e w' ⟨v, he, x, y, z1, b, h1, h2, h3⟩ => ⟨x, y, z1, b, h1, by rw [he, h2], h3⟩)
 intro b3 b4 b5 b6
 refine ldN 1 rfl (qs _ _ _ _) ?_
 refine ce (fun w _ => el_plain p1 w) (fun u hu => ?_)
 obtain ⟨u1, u2, u3⟩ := u
 obtain ⟨hu1, hu2, hu3⟩ := hu
 intro b7 b8 b9
 refine sN 4 rfl (by rw [qd]; rfl) (Qe _) ?_ (by kernel_rfl)
 refine sN 5 rfl (by rw [qd]; rfl) (Qe _) ?_ (by kernel_rfl)
 refine sN 6 rfl (by rw [qd]; rfl) (Qe _) ?_ (by kernel_rfl)
 refine ldN 2 rfl (qs _ _ _ _) ?_
 refine ce (fun w _ => el_plain p2 w) (fun v hv => ?_)
 obtain ⟨v1, v2, v3⟩ := v
 obtain ⟨hv1, hv2, hv3⟩ := hv
 intro b10 b11 b12
 refine sN 7 rfl (by rw [qd]; rfl) (Qe _) ?_ (by kernel_rfl)
 refine sN 8 rfl (by rw [qd]; rfl) (Qe _) ?_ (by kernel_rfl)
 refine sN 9 rfl (by rw [qd]; rfl) (Qe _) ?_ (by kernel_rfl)
 dsimp only at hu1 hu2 hu3 hv1 hv2 hv3
 refine cut (α := Nat × Nat × Nat × Nat × Nat × Nat) (fun x => El (A) x.1 ∧ El (XX) x.2.1 ∧ El (YY) x.2.2.1) (fun x => ⟨[(13, pq x.2.2.2.1), (14, pq x.2.2.2.2.1), (15, pq x.2.2.2.2.2), (3, pq b3), (4, pq b4), (5, pq b5), (6, pq b6), (7, pq b7), (8, pq b8), (9, pq b9), (10, pq b10), (11, pq b11), (12, pq b12)], [cl b3 (e4 d) 110, cl b4 (pt x1 y1 c1 b1) 53, cl b5 (pt x2 y2 c2 b2) 53, cl b6 pt0 53, cl b7 (e4 u1) 36, cl b8 (e4 u2) 36, cl b9 (e4 u3) 36, cl b10 (e4 v1) 36, cl b11 (e4 v2) 36, cl b12 (e4 v3) 36, cl x.2.2.2.1 (e4 x.1) 36, cl x.2.2.2.2.1 (e4 x.2.1) 36, cl x.2.2.2.2.2 (e4 x.2.2.1) 36], []⟩) ?_ ?_
 · let Sl : Fr := [(3, pq b3), (4, pq b4), (5, pq b5), (6, pq b6), (7, pq b7), (8, pq b8), (9, pq b9), (10, pq b10), (11, pq b11), (12, pq b12)]
   let En : List Ent := [cl b3 (e4 d) 110, cl b4 (pt x1 y1 c1 b1) 53, cl b5 (pt x2 y2 c2 b2) 53, cl b6 pt0 53, cl b7 (e4 u1) 36, cl b8 (e4 u2) 36, cl b9 (e4 u3) 36, cl b10 (e4 v1) 36, cl b11 (e4 v2) 36, cl b12 (e4 v3) 36]
   let Zr : Array Value := #[.int .u64 0, .int .u64 0, .int .u64 0, .int .u64 0]
   refine drg En [0, 1, 3, 4, 6, 7] 9 qi qq (by kernel_rfl) (by kernel_rfl) (.refl _) (fun T g => ?_)
   have H0 : ∀ (a xx yy b13 b14 b15 : Nat), El (A) a → El (XX) xx → El (YY) yy → T 0 #[tt,tt,tt,tt,tt,tt,tt,tt,tt,tt,tt,tt,tt,tt,tt] ⟨(13, pq b13) :: (14, pq b14) :: (15, pq b15) :: Sl, En ++ [cl b13 (e4 a) 36, cl b14 (e4 xx) 36, cl b15 (e4 yy) 36], []⟩ := by
    intro a xx yy b13 b14 b15 ha hxx hyy
    refine g.fin _ _ _ (by kernel_rfl) ?_
    exact ⟨(a, xx, yy, b13, b14, b15), ⟨ha, hxx, hyy⟩, ⟨rfl, rfl, rfl, rfl, rfl, rfl, rfl, rfl, rfl, rfl, rfl, rfl, rfl, trivial⟩, .refl _, rfl⟩
   have H1 : ∀ (a xx yy b13 b14 b15 : Nat), El (A) a → El (XX) xx → El (YY) yy → T 1 #[tt,tt,tt,tt,tt,tt,tt,tt,tt,tt,tt,tt,tt,tt,ff] ⟨(41, .agg (e4 yy)) :: (13, pq b13) :: (14, pq b14) :: (15, pq b15) :: Sl, En ++ [cl b13 (e4 a) 36, cl b14 (e4 xx) 36, cl b15 Zr 36], []⟩ := by
    intro a xx yy b13 b14 b15 ha hxx hyy
    refine g.one _ _ _ 14 (by kernel_rfl) (qc _) ?_
    refine sN 12 rfl (by rw [qd]; rfl) (Qe _) ?_ (by kernel_rfl)
    refine ⟨qc _, ?_⟩
    exact g.go (H0 a xx yy b13 b14 b15 ha hxx hyy) (qc _) ⟨rfl, rfl, rfl, rfl, rfl, rfl, rfl, rfl, rfl, rfl, rfl, rfl, rfl, trivial⟩ ⟨_, .refl _, .refl _⟩ rfl
   have H2 : ∀ (a xx yy b13 b14 b15 : Nat), El (A) a → El (XX) xx → El (YY) yy → T 2 #[tt,tt,tt,tt,tt,tt,tt,tt,tt,tt,tt,tt,tt,ff,ff] ⟨(38, .agg (e4 xx)) :: (41, .agg (e4 yy)) :: (13, pq b13) :: (14, pq b14) :: (15, pq b15) :: Sl, En ++ [cl b13 (e4 a) 36, cl b14 Zr 36, cl b15 Zr 36], []⟩ := by
    intro a xx yy b13 b14 b15 ha hxx hyy
    refine g.one _ _ _ 13 (by kernel_rfl) (qc _) ?_
    refine sN 11 rfl (by rw [qd]; rfl) (Qe _) ?_ (by kernel_rfl)
    refine ⟨qc _, ?_⟩
    exact g.go (H1 a xx yy b13 b14 b15 ha hxx hyy) (qc _) ⟨rfl, rfl, rfl, rfl, rfl, rfl, rfl, rfl, rfl, rfl, rfl, rfl, rfl, rfl, trivial⟩ ⟨_, .refl _, .refl _⟩ rfl
   have H3 : ∀ (a xx yy b13 b14 b15 : Nat), El (A) a → El (XX) xx → El (YY) yy → T 3 #[tt,tt,tt,tt,tt,tt,tt,tt,tt,tt,tt,tt,ff,ff,ff] ⟨(35, .agg (e4 a)) :: (38, .agg (e4 xx)) :: (41, .agg (e4 yy)) :: (13, pq b13) :: (14, pq b14) :: (15, pq b15) :: Sl, En ++ [cl b13 Zr 36, cl b14 Zr 36, cl b15 Zr 36], []⟩ := by
    intro a xx yy b13 b14 b15 ha hxx hyy
    refine g.one _ _ _ 12 (by kernel_rfl) (qc _) ?_
    refine sN 10 rfl (by rw [qd]; rfl) (Qe _) ?_ (by kernel_rfl)
    refine ⟨qc _, ?_⟩
    exact g.go (H2 a xx yy b13 b14 b15 ha hxx hyy) (qc _) ⟨rfl, rfl, rfl, rfl, rfl, rfl, rfl, rfl, rfl, rfl, rfl, rfl, rfl, rfl, rfl, trivial⟩ ⟨_, .refl _, .refl _⟩ rfl
   have H4 : ∀ (a xx yy b13 b14 : Nat), El (A) a → El (XX) xx → El (YY) yy → T 4 #[tt,tt,tt,tt,tt,tt,tt,tt,tt,tt,tt,ff,ff,ff,ff] ⟨(35, .agg (e4 a)) :: (38, .agg (e4 xx)) :: (41, .agg (e4 yy)) :: (13, pq b13) :: (14, pq b14) :: Sl, En ++ [cl b13 Zr 36, cl b14 Zr 36], []⟩ := by
    intro a xx yy b13 b14 ha hxx hyy
    refine g.one _ _ _ 11 (by kernel_rfl) (qc _) ?_
    intro b15
    refine ⟨qc _, ?_⟩
    exact g.go (H3 a xx yy b13 b14 b15 ha hxx hyy) (qc _) ⟨rfl, rfl, rfl, rfl, rfl, rfl, rfl, rfl, rfl, rfl, rfl, rfl, rfl, rfl, rfl, rfl, trivial⟩ ⟨_, .refl _, .refl _⟩ rfl
   have H5 : ∀ (a xx yy b13 b15 : Nat), El (A) a → El (XX) xx → El (YY) yy → T 4 #[tt,tt,tt,tt,tt,tt,tt,tt,tt,tt,ff,tt,ff,ff,ff] ⟨(35, .agg (e4 a)) :: (38, .agg (e4 xx)) :: (41, .agg (e4 yy)) :: (13, pq b13) :: (15, pq b15) :: Sl, En ++ [cl b13 Zr 36, cl b15 Zr 36], []⟩ := by
    intro a xx yy b13 b15 ha hxx hyy
    refine g.one _ _ _ 10 (by kernel_rfl) (qc _) ?_
    intro b14
    refine ⟨qc _, ?_⟩
    exact g.go (H3 a xx yy b13 b14 b15 ha hxx hyy) (qc _) ⟨rfl, rfl, rfl, rfl, rfl, rfl, rfl, rfl, rfl, rfl, rfl, rfl, rfl, rfl, rfl, rfl, trivial⟩ ⟨_, qB [_, _, _, _, _, _, _, _, _, _, _] _ [_], .refl _⟩ rfl
   have H6 : ∀ (a xx yy b14 b15 : Nat), El (A) a → El (XX) xx → El (YY) yy → T 4 #[tt,tt,tt,tt,tt,tt,tt,tt,tt,ff,tt,tt,ff,ff,ff] ⟨(35, .agg (e4 a)) :: (38, .agg (e4 xx)) :: (41, .agg (e4 yy)) :: (14, pq b14) :: (15, pq b15) :: Sl, En ++ [cl b14 Zr 36, cl b15 Zr 36], []⟩ := by
    intro a xx yy b14 b15 ha hxx hyy
    refine g.one _ _ _ 9 (by kernel_rfl) (qc _) ?_
    intro b13
    refine ⟨qc _, ?_⟩
    exact g.go (H3 a xx yy b13 b14 b15 ha hxx hyy) (qc _) ⟨rfl, rfl, rfl, rfl, rfl, rfl, rfl, rfl, rfl, rfl, rfl, rfl, rfl, rfl, rfl, rfl, trivial⟩ ⟨_, qB [_, _, _, _, _, _, _, _, _, _] _ [_, _], .refl _⟩ rfl
   have H7 : ∀ (a xx b13 b14 b15 : Nat), El (A) a → El (XX) xx → T 4 #[tt,tt,tt,tt,tt,tt,tt,tt,ff,tt,tt,tt,ff,ff,ff] ⟨(35, .agg (e4 a)) :: (38, .agg (e4 xx)) :: (39, .agg (e4 u2)) :: (40, .agg (e4 v2)) :: (13, pq b13) :: (14, pq b14) :: (15, pq b15) :: Sl, En ++ [cl b13 Zr 36, cl b14 Zr 36, cl b15 Zr 36], []⟩ := by
    intro a xx b13 b14 b15 ha hxx
    refine g.one _ _ _ 8 (by kernel_rfl) (qc _) ?_
    refine ce (fun w _ => qG hu2 hv2 hYY w) (fun yy hyy => ?_)
    refine ⟨qc _, ?_⟩
    exact g.go (H3 a xx yy b13 b14 b15 ha hxx hyy) (qc _) ⟨rfl, rfl, rfl, rfl, rfl, rfl, rfl, rfl, rfl, rfl, rfl, rfl, rfl, rfl, rfl, rfl, trivial⟩ ⟨_, .refl _, .refl _⟩ rfl
   have H8 : ∀ (a xx yy b13 : Nat), El (A) a → El (XX) xx → El (YY) yy → T 5 #[tt,tt,tt,tt,tt,tt,tt,tt,tt,tt,ff,ff,ff,ff,ff] ⟨(35, .agg (e4 a)) :: (38, .agg (e4 xx)) :: (41, .agg (e4 yy)) :: (13, pq b13) :: Sl, En ++ [cl b13 Zr 36], []⟩ := by
    intro a xx yy b13 ha hxx hyy
    refine g.two _ _ _ 10 11 (by kernel_rfl) (qc _) ?_ ?_
    · intro b14
      refine ⟨qc _, ?_⟩
      exact g.go (H4 a xx yy b13 b14 ha hxx hyy) (qc _) ⟨rfl, rfl, rfl, rfl, rfl, rfl, rfl, rfl, rfl, rfl, rfl, rfl, rfl, rfl, rfl, trivial⟩ ⟨_, .refl _, .refl _⟩ rfl
    · intro b15
      refine ⟨qc _, ?_⟩
      exact g.go (H5 a xx yy b13 b15 ha hxx hyy) (qc _) ⟨rfl, rfl, rfl, rfl, rfl, rfl, rfl, rfl, rfl, rfl, rfl, rfl, rfl, rfl, rfl, trivial⟩ ⟨_, .refl _, .refl _⟩ rfl
   have H9 : ∀ (a xx yy b14 : Nat), El (A) a → El (XX) xx → El (YY) yy → T 5 #[tt,tt,tt,tt,tt,tt,tt,tt,tt,ff,tt,ff,ff,ff,ff] ⟨(35, .agg (e4 a)) :: (38, .agg (e4 xx)) :: (41, .agg (e4 yy)) :: (14, pq b14) :: Sl, En ++ [cl b14 Zr 36], []⟩ := by
    intro a xx yy b14 ha hxx hyy
    refine g.two _ _ _ 9 11 (by kernel_rfl) (qc _) ?_ ?_
    · intro b13
      refine ⟨qc _, ?_⟩
      exact g.go (H4 a xx yy b13 b14 ha hxx hyy) (qc _) ⟨rfl, rfl, rfl, rfl, rfl, rfl, rfl, rfl, rfl, rfl, rfl, rfl, rfl, rfl, rfl, trivial⟩ ⟨_, qB [_, _, _, _, _, _, _, _, _, _] _ [_], .refl _⟩ rfl
    · intro b15
      refine ⟨qc _, ?_⟩
      exact g.go (H6 a xx yy b14 b15 ha hxx hyy) (qc _) ⟨rfl, rfl, rfl, rfl, rfl, rfl, rfl, rfl, rfl, rfl, rfl, rfl, rfl, rfl, rfl, trivial⟩ ⟨_, .refl _, .refl _⟩ rfl
   have H10 : ∀ (a xx yy b15 : Nat), El (A) a → El (XX) xx → El (YY) yy → T 5 #[tt,tt,tt,tt,tt,tt,tt,tt,tt,ff,ff,tt,ff,ff,ff] ⟨(35, .agg (e4 a)) :: (38, .agg (e4 xx)) :: (41, .agg (e4 yy)) :: (15, pq b15) :: Sl, En ++ [cl b15 Zr 36], []⟩ := by
    intro a xx yy b15 ha hxx hyy
    refine g.two _ _ _ 9 10 (by kernel_rfl) (qc _) ?_ ?_
    · intro b13
      refine ⟨qc _, ?_⟩
      exact g.go (H5 a xx yy b13 b15 ha hxx hyy) (qc _) ⟨rfl, rfl, rfl, rfl, rfl, rfl, rfl, rfl, rfl, rfl, rfl, rfl, rfl, rfl, rfl, trivial⟩ ⟨_, qB [_, _, _, _, _, _, _, _, _, _] _ [_], .refl _⟩ rfl
    · intro b14
      refine ⟨qc _, ?_⟩
      exact g.go (H6 a xx yy b14 b15 ha hxx hyy) (qc _) ⟨rfl, rfl, rfl, rfl, rfl, rfl, rfl, rfl, rfl, rfl, rfl, rfl, rfl, rfl, rfl, trivial⟩ ⟨_, qB [_, _, _, _, _, _, _, _, _, _] _ [_], .refl _⟩ rfl
   have H11 : ∀ (a xx b13 b14 : Nat), El (A) a → El (XX) xx → T 5 #[tt,tt,tt,tt,tt,tt,tt,tt,ff,tt,tt,ff,ff,ff,ff] ⟨(35, .agg (e4 a)) :: (38, .agg (e4 xx)) :: (39, .agg (e4 u2)) :: (40, .agg (e4 v2)) :: (13, pq b13) :: (14, pq b14) :: Sl, En ++ [cl b13 Zr 36, cl b14 Zr 36], []⟩ := by
    intro a xx b13 b14 ha hxx
    refine g.two _ _ _ 8 11 (by kernel_rfl) (qc _) ?_ ?_
    · refine ce (fun w _ => qG hu2 hv2 hYY w) (fun yy hyy => ?_)
      refine ⟨qc _, ?_⟩
      exact g.go (H4 a xx yy b13 b14 ha hxx hyy) (qc _) ⟨rfl, rfl, rfl, rfl, rfl, rfl, rfl, rfl, rfl, rfl, rfl, rfl, rfl, rfl, rfl, trivial⟩ ⟨_, .refl _, .refl _⟩ rfl
    · intro b15
      refine ⟨qc _, ?_⟩
      exact g.go (H7 a xx b13 b14 b15 ha hxx) (qc _) ⟨rfl, rfl, rfl, rfl, rfl, rfl, rfl, rfl, rfl, rfl, rfl, rfl, rfl, rfl, rfl, rfl, rfl, trivial⟩ ⟨_, .refl _, .refl _⟩ rfl
   have H12 : ∀ (a xx b13 b15 : Nat), El (A) a → El (XX) xx → T 5 #[tt,tt,tt,tt,tt,tt,tt,tt,ff,tt,ff,tt,ff,ff,ff] ⟨(35, .agg (e4 a)) :: (38, .agg (e4 xx)) :: (39, .agg (e4 u2)) :: (40, .agg (e4 v2)) :: (13, pq b13) :: (15, pq b15) :: Sl, En ++ [cl b13 Zr 36, cl b15 Zr 36], []⟩ := by
    intro a xx b13 b15 ha hxx
    refine g.two _ _ _ 8 10 (by kernel_rfl) (qc _) ?_ ?_
    · refine ce (fun w _ => qG hu2 hv2 hYY w) (fun yy hyy => ?_)
      refine ⟨qc _, ?_⟩
      exact g.go (H5 a xx yy b13 b15 ha hxx hyy) (qc _) ⟨rfl, rfl, rfl, rfl, rfl, rfl, rfl, rfl, rfl, rfl, rfl, rfl, rfl, rfl, rfl, trivial⟩ ⟨_, .refl _, .refl _⟩ rfl
    · intro b14
      refine ⟨qc _, ?_⟩
      exact g.go (H7 a xx b13 b14 b15 ha hxx) (qc _) ⟨rfl, rfl, rfl, rfl, rfl, rfl, rfl, rfl, rfl, rfl, rfl, rfl, rfl, rfl, rfl, rfl, rfl, trivial⟩ ⟨_, qB [_, _, _, _, _, _, _, _, _, _, _] _ [_], .refl _⟩ rfl
   have H13 : ∀ (a xx b14 b15 : Nat), El (A) a → El (XX) xx → T 5 #[tt,tt,tt,tt,tt,tt,tt,tt,ff,ff,tt,tt,ff,ff,ff] ⟨(35, .agg (e4 a)) :: (38, .agg (e4 xx)) :: (39, .agg (e4 u2)) :: (40, .agg (e4 v2)) :: (14, pq b14) :: (15, pq b15) :: Sl, En ++ [cl b14 Zr 36, cl b15 Zr 36], []⟩ := by
    intro a xx b14 b15 ha hxx
    refine g.two _ _ _ 8 9 (by kernel_rfl) (qc _) ?_ ?_
    · refine ce (fun w _ => qG hu2 hv2 hYY w) (fun yy hyy => ?_)
      refine ⟨qc _, ?_⟩
      exact g.go (H6 a xx yy b14 b15 ha hxx hyy) (qc _) ⟨rfl, rfl, rfl, rfl, rfl, rfl, rfl, rfl, rfl, rfl, rfl, rfl, rfl, rfl, rfl, trivial⟩ ⟨_, .refl _, .refl _⟩ rfl
    · intro b13
      refine ⟨qc _, ?_⟩
      exact g.go (H7 a xx b13 b14 b15 ha hxx) (qc _) ⟨rfl, rfl, rfl, rfl, rfl, rfl, rfl, rfl, rfl, rfl, rfl, rfl, rfl, rfl, rfl, rfl, rfl, trivial⟩ ⟨_, qB [_, _, _, _, _, _, _, _, _, _] _ [_, _], .refl _⟩ rfl
   have H14 : ∀ (a b13 b14 b15 : Nat), El (A) a → T 5 #[tt,tt,tt,tt,tt,ff,tt,tt,ff,tt,tt,tt,ff,ff,ff] ⟨(35, .agg (e4 a)) :: (36, .agg (e4 u1)) :: (37, .agg (e4 v1)) :: (39, .agg (e4 u2)) :: (40, .agg (e4 v2)) :: (13, pq b13) :: (14, pq b14) :: (15, pq b15) :: Sl, En ++ [cl b13 Zr 36, cl b14 Zr 36, cl b15 Zr 36], []⟩ := by
    intro a b13 b14 b15 ha
    refine g.one _ _ _ 5 (by kernel_rfl) (qc _) ?_
    refine ce (fun w _ => qG hu1 hv1 hXX w) (fun xx hxx => ?_)
    refine ⟨qc _, ?_⟩
    exact g.go (H7 a xx b13 b14 b15 ha hxx) (qc _) ⟨rfl, rfl, rfl, rfl, rfl, rfl, rfl, rfl, rfl, rfl, rfl, rfl, rfl, rfl, rfl, rfl, rfl, trivial⟩ ⟨_, .refl _, .refl _⟩ rfl
   have H15 : ∀ (a xx yy : Nat), El (A) a → El (XX) xx → El (YY) yy → T 6 #[tt,tt,tt,tt,tt,tt,tt,tt,tt,ff,ff,ff,ff,ff,ff] ⟨(35, .agg (e4 a)) :: (38, .agg (e4 xx)) :: (41, .agg (e4 yy)) :: Sl, En, []⟩ := by
    intro a xx yy ha hxx hyy
    refine g.three _ _ _ 9 10 11 (by kernel_rfl) (qc _) ?_ ?_ ?_
    · intro b13
      refine ⟨qc _, ?_⟩
      exact g.go (H8 a xx yy b13 ha hxx hyy) (qc _) ⟨rfl, rfl, rfl, rfl, rfl, rfl, rfl, rfl, rfl, rfl, rfl, rfl, rfl, rfl, trivial⟩ ⟨_, .refl _, .refl _⟩ rfl
    · intro b14
      refine ⟨qc _, ?_⟩
      exact g.go (H9 a xx yy b14 ha hxx hyy) (qc _) ⟨rfl, rfl, rfl, rfl, rfl, rfl, rfl, rfl, rfl, rfl, rfl, rfl, rfl, rfl, trivial⟩ ⟨_, .refl _, .refl _⟩ rfl
    · intro b15
      refine ⟨qc _, ?_⟩
      exact g.go (H10 a xx yy b15 ha hxx hyy) (qc _) ⟨rfl, rfl, rfl, rfl, rfl, rfl, rfl, rfl, rfl, rfl, rfl, rfl, rfl, rfl, trivial⟩ ⟨_, .refl _, .refl _⟩ rfl
   have H16 : ∀ (a xx b13 : Nat), El (A) a → El (XX) xx → T 6 #[tt,tt,tt,tt,tt,tt,tt,tt,ff,tt,ff,ff,ff,ff,ff] ⟨(35, .agg (e4 a)) :: (38, .agg (e4 xx)) :: (39, .agg (e4 u2)) :: (40, .agg (e4 v2)) :: (13, pq b13) :: Sl, En ++ [cl b13 Zr 36], []⟩ := by
    intro a xx b13 ha hxx
    refine g.three _ _ _ 8 10 11 (by kernel_rfl) (qc _) ?_ ?_ ?_
    · refine ce (fun w _ => qG hu2 hv2 hYY w) (fun yy hyy => ?_)
      refine ⟨qc _, ?_⟩
      exact g.go (H8 a xx yy b13 ha hxx hyy) (qc _) ⟨rfl, rfl, rfl, rfl, rfl, rfl, rfl, rfl, rfl, rfl, rfl, rfl, rfl, rfl, trivial⟩ ⟨_, .refl _, .refl _⟩ rfl
    · intro b14
      refine ⟨qc _, ?_⟩
      exact g.go (H11 a xx b13 b14 ha hxx) (qc _) ⟨rfl, rfl, rfl, rfl, rfl, rfl, rfl, rfl, rfl, rfl, rfl, rfl, rfl, rfl, rfl, rfl, trivial⟩ ⟨_, .refl _, .refl _⟩ rfl
    · intro b15
      refine ⟨qc _, ?_⟩
      exact g.go (H12 a xx b13 b15 ha hxx) (qc _) ⟨rfl, rfl, rfl, rfl, rfl, rfl, rfl, rfl, rfl, rfl, rfl, rfl, rfl, rfl, rfl, rfl, trivial⟩ ⟨_, .refl _, .refl _⟩ rfl
   have H17 : ∀ (a xx b14 : Nat), El (A) a → El (XX) xx → T 6 #[tt,tt,tt,tt,tt,tt,tt,tt,ff,ff,tt,ff,ff,ff,ff] ⟨(35, .agg (e4 a)) :: (38, .agg (e4 xx)) :: (39, .agg (e4 u2)) :: (40, .agg (e4 v2)) :: (14, pq b14) :: Sl, En ++ [cl b14 Zr 36], []⟩ := by
    intro a xx b14 ha hxx
    refine g.three _ _ _ 8 9 11 (by kernel_rfl) (qc _) ?_ ?_ ?_
    · refine ce (fun w _ => qG hu2 hv2 hYY w) (fun yy hyy => ?_)
      refine ⟨qc _, ?_⟩
      exact g.go (H9 a xx yy b14 ha hxx hyy) (qc _) ⟨rfl, rfl, rfl, rfl, rfl, rfl, rfl, rfl, rfl, rfl, rfl, rfl, rfl, rfl, trivial⟩ ⟨_, .refl _, .refl _⟩ rfl
    · intro b13
      refine ⟨qc _, ?_⟩
      exact g.go (H11 a xx b13 b14 ha hxx) (qc _) ⟨rfl, rfl, rfl, rfl, rfl, rfl, rfl, rfl, rfl, rfl, rfl, rfl, rfl, rfl, rfl, rfl, trivial⟩ ⟨_, qB [_, _, _, _, _, _, _, _, _, _] _ [_], .refl _⟩ rfl
    · intro b15
      refine ⟨qc _, ?_⟩
      exact g.go (H13 a xx b14 b15 ha hxx) (qc _) ⟨rfl, rfl, rfl, rfl, rfl, rfl, rfl, rfl, rfl, rfl, rfl, rfl, rfl, rfl, rfl, rfl, trivial⟩ ⟨_, .refl _, .refl _⟩ rfl
   have H18 : ∀ (a xx b15 : Nat), El (A) a → El (XX) xx → T 6 #[tt,tt,tt,tt,tt,tt,tt,tt,ff,ff,ff,tt,ff,ff,ff] ⟨(35, .agg (e4 a)) :: (38, .agg (e4 xx)) :: (39, .agg (e4 u2)) :: (40, .agg (e4 v2)) :: (15, pq b15) :: Sl, En ++ [cl b15 Zr 36], []⟩ := by
    intro a xx b15 ha hxx
    refine g.three _ _ _ 8 9 10 (by kernel_rfl) (qc _) ?_ ?_ ?_
    · refine ce (fun w _ => qG hu2 hv2 hYY w) (fun yy hyy => ?_)
      refine ⟨qc _, ?_⟩
      exact g.go (H10 a xx yy b15 ha hxx hyy) (qc _) ⟨rfl, rfl, rfl, rfl, rfl, rfl, rfl, rfl, rfl, rfl, rfl, rfl, rfl, rfl, trivial⟩ ⟨_, .refl _, .refl _⟩ rfl
    · intro b13
      refine ⟨qc _, ?_⟩
      exact g.go (H12 a xx b13 b15 ha hxx) (qc _) ⟨rfl, rfl, rfl, rfl, rfl, rfl, rfl, rfl, rfl, rfl, rfl, rfl, rfl, rfl, rfl, rfl, trivial⟩ ⟨_, qB [_, _, _, _, _, _, _, _, _, _] _ [_], .refl _⟩ rfl
    · intro b14
      refine ⟨qc _, ?_⟩
      exact g.go (H13 a xx b14 b15 ha hxx) (qc _) ⟨rfl, rfl, rfl, rfl, rfl, rfl, rfl, rfl, rfl, rfl, rfl, rfl, rfl, rfl, rfl, rfl, trivial⟩ ⟨_, qB [_, _, _, _, _, _, _, _, _, _] _ [_], .refl _⟩ rfl
   have H19 : ∀ (a b13 b14 : Nat), El (A) a → T 6 #[tt,tt,tt,tt,tt,ff,tt,tt,ff,tt,tt,ff,ff,ff,ff] ⟨(35, .agg (e4 a)) :: (36, .agg (e4 u1)) :: (37, .agg (e4 v1)) :: (39, .agg (e4 u2)) :: (40, .agg (e4 v2)) :: (13, pq b13) :: (14, pq b14) :: Sl, En ++ [cl b13 Zr 36, cl b14 Zr 36], []⟩ := by
    intro a b13 b14 ha
    refine g.two _ _ _ 5 11 (by kernel_rfl) (qc _) ?_ ?_
    · refine ce (fun w _ => qG hu1 hv1 hXX w) (fun xx hxx => ?_)
      refine ⟨qc _, ?_⟩
      exact g.go (H11 a xx b13 b14 ha hxx) (qc _) ⟨rfl, rfl, rfl, rfl, rfl, rfl, rfl, rfl, rfl, rfl, rfl, rfl, rfl, rfl, rfl, rfl, trivial⟩ ⟨_, .refl _, .refl _⟩ rfl
    · intro b15
      refine ⟨qc _, ?_⟩
      exact g.go (H14 a b13 b14 b15 ha) (qc _) ⟨rfl, rfl, rfl, rfl, rfl, rfl, rfl, rfl, rfl, rfl, rfl, rfl, rfl, rfl, rfl, rfl, rfl, rfl, trivial⟩ ⟨_, .refl _, .refl _⟩ rfl
   have H20 : ∀ (a b13 b15 : Nat), El (A) a → T 6 #[tt,tt,tt,tt,tt,ff,tt,tt,ff,tt,ff,tt,ff,ff,ff] ⟨(35, .agg (e4 a)) :: (36, .agg (e4 u1)) :: (37, .agg (e4 v1)) :: (39, .agg (e4 u2)) :: (40, .agg (e4 v2)) :: (13, pq b13) :: (15, pq b15) :: Sl, En ++ [cl b13 Zr 36, cl b15 Zr 36], []⟩ := by
    intro a b13 b15 ha
    refine g.two _ _ _ 5 10 (by kernel_rfl) (qc _) ?_ ?_
    · refine ce (fun w _ => qG hu1 hv1 hXX w) (fun xx hxx => ?_)
      refine ⟨qc _, ?_⟩
      exact g.go (H12 a xx b13 b15 ha hxx) (qc _) ⟨rfl, rfl, rfl, rfl, rfl, rfl, rfl, rfl, rfl, rfl, rfl, rfl, rfl, rfl, rfl, rfl, trivial⟩ ⟨_, .refl _, .refl _⟩ rfl
    · intro b14
      refine ⟨qc _, ?_⟩
      exact g.go (H14 a b13 b14 b15 ha) (qc _) ⟨rfl, rfl, rfl, rfl, rfl, rfl, rfl, rfl, rfl, rfl, rfl, rfl, rfl, rfl, rfl, rfl, rfl, rfl, trivial⟩ ⟨_, qB [_, _, _, _, _, _, _, _, _, _, _] _ [_], .refl _⟩ rfl
   have H21 : ∀ (a b14 b15 : Nat), El (A) a → T 6 #[tt,tt,tt,tt,tt,ff,tt,tt,ff,ff,tt,tt,ff,ff,ff] ⟨(35, .agg (e4 a)) :: (36, .agg (e4 u1)) :: (37, .agg (e4 v1)) :: (39, .agg (e4 u2)) :: (40, .agg (e4 v2)) :: (14, pq b14) :: (15, pq b15) :: Sl, En ++ [cl b14 Zr 36, cl b15 Zr 36], []⟩ := by
    intro a b14 b15 ha
    refine g.two _ _ _ 5 9 (by kernel_rfl) (qc _) ?_ ?_
    · refine ce (fun w _ => qG hu1 hv1 hXX w) (fun xx hxx => ?_)
      refine ⟨qc _, ?_⟩
      exact g.go (H13 a xx b14 b15 ha hxx) (qc _) ⟨rfl, rfl, rfl, rfl, rfl, rfl, rfl, rfl, rfl, rfl, rfl, rfl, rfl, rfl, rfl, rfl, trivial⟩ ⟨_, .refl _, .refl _⟩ rfl
    · intro b13
      refine ⟨qc _, ?_⟩
      exact g.go (H14 a b13 b14 b15 ha) (qc _) ⟨rfl, rfl, rfl, rfl, rfl, rfl, rfl, rfl, rfl, rfl, rfl, rfl, rfl, rfl, rfl, rfl, rfl, rfl, trivial⟩ ⟨_, qB [_, _, _, _, _, _, _, _, _, _] _ [_, _], .refl _⟩ rfl
   have H22 : ∀ (b13 b14 b15 : Nat), T 6 #[tt,tt,ff,tt,tt,ff,tt,tt,ff,tt,tt,tt,ff,ff,ff] ⟨(33, .agg (e4 u3)) :: (34, .agg (e4 v3)) :: (36, .agg (e4 u1)) :: (37, .agg (e4 v1)) :: (39, .agg (e4 u2)) :: (40, .agg (e4 v2)) :: (13, pq b13) :: (14, pq b14) :: (15, pq b15) :: Sl, En ++ [cl b13 Zr 36, cl b14 Zr 36, cl b15 Zr 36], []⟩ := by
    intro b13 b14 b15
    refine g.one _ _ _ 2 (by kernel_rfl) (qc _) ?_
    refine ce (fun w _ => qG hu3 hv3 hA w) (fun a ha => ?_)
    refine ⟨qc _, ?_⟩
    exact g.go (H14 a b13 b14 b15 ha) (qc _) ⟨rfl, rfl, rfl, rfl, rfl, rfl, rfl, rfl, rfl, rfl, rfl, rfl, rfl, rfl, rfl, rfl, rfl, rfl, trivial⟩ ⟨_, .refl _, .refl _⟩ rfl
   have H23 : ∀ (a xx : Nat), El (A) a → El (XX) xx → T 7 #[tt,tt,tt,tt,tt,tt,tt,tt,ff,ff,ff,ff,ff,ff,ff] ⟨(35, .agg (e4 a)) :: (38, .agg (e4 xx)) :: (39, .agg (e4 u2)) :: (40, .agg (e4 v2)) :: Sl, En, []⟩ := by
    intro a xx ha hxx
    refine g.four _ _ _ 8 9 10 11 (by kernel_rfl) (qc _) ?_ ?_ ?_ ?_
    · refine ce (fun w _ => qG hu2 hv2 hYY w) (fun yy hyy => ?_)
      refine ⟨qc _, ?_⟩
      exact g.go (H15 a xx yy ha hxx hyy) (qc _) ⟨rfl, rfl, rfl, rfl, rfl, rfl, rfl, rfl, rfl, rfl, rfl, rfl, rfl, trivial⟩ ⟨_, .refl _, .refl _⟩ rfl
    · intro b13
      refine ⟨qc _, ?_⟩
      exact g.go (H16 a xx b13 ha hxx) (qc _) ⟨rfl, rfl, rfl, rfl, rfl, rfl, rfl, rfl, rfl, rfl, rfl, rfl, rfl, rfl, rfl, trivial⟩ ⟨_, .refl _, .refl _⟩ rfl
    · intro b14
      refine ⟨qc _, ?_⟩
      exact g.go (H17 a xx b14 ha hxx) (qc _) ⟨rfl, rfl, rfl, rfl, rfl, rfl, rfl, rfl, rfl, rfl, rfl, rfl, rfl, rfl, rfl, trivial⟩ ⟨_, .refl _, .refl _⟩ rfl
    · intro b15
      refine ⟨qc _, ?_⟩
      exact g.go (H18 a xx b15 ha hxx) (qc _) ⟨rfl, rfl, rfl, rfl, rfl, rfl, rfl, rfl, rfl, rfl, rfl, rfl, rfl, rfl, rfl, trivial⟩ ⟨_, .refl _, .refl _⟩ rfl
   have H24 : ∀ (a b13 : Nat), El (A) a → T 7 #[tt,tt,tt,tt,tt,ff,tt,tt,ff,tt,ff,ff,ff,ff,ff] ⟨(35, .agg (e4 a)) :: (36, .agg (e4 u1)) :: (37, .agg (e4 v1)) :: (39, .agg (e4 u2)) :: (40, .agg (e4 v2)) :: (13, pq b13) :: Sl, En ++ [cl b13 Zr 36], []⟩ := by
    intro a b13 ha
    refine g.three _ _ _ 5 10 11 (by kernel_rfl) (qc _) ?_ ?_ ?_
    · refine ce (fun w _ => qG hu1 hv1 hXX w) (fun xx hxx => ?_)
      refine ⟨qc _, ?_⟩
      exact g.go (H16 a xx b13 ha hxx) (qc _) ⟨rfl, rfl, rfl, rfl, rfl, rfl, rfl, rfl, rfl, rfl, rfl, rfl, rfl, rfl, rfl, trivial⟩ ⟨_, .refl _, .refl _⟩ rfl
    · intro b14
      refine ⟨qc _, ?_⟩
      exact g.go (H19 a b13 b14 ha) (qc _) ⟨rfl, rfl, rfl, rfl, rfl, rfl, rfl, rfl, rfl, rfl, rfl, rfl, rfl, rfl, rfl, rfl, rfl, trivial⟩ ⟨_, .refl _, .refl _⟩ rfl
    · intro b15
      refine ⟨qc _, ?_⟩
      exact g.go (H20 a b13 b15 ha) (qc _) ⟨rfl, rfl, rfl, rfl, rfl, rfl, rfl, rfl, rfl, rfl, rfl, rfl, rfl, rfl, rfl, rfl, rfl, trivial⟩ ⟨_, .refl _, .refl _⟩ rfl
   have H25 : ∀ (a b14 : Nat), El (A) a → T 7 #[tt,tt,tt,tt,tt,ff,tt,tt,ff,ff,tt,ff,ff,ff,ff] ⟨(35, .agg (e4 a)) :: (36, .agg (e4 u1)) :: (37, .agg (e4 v1)) :: (39, .agg (e4 u2)) :: (40, .agg (e4 v2)) :: (14, pq b14) :: Sl, En ++ [cl b14 Zr 36], []⟩ := by
    intro a b14 ha
    refine g.three _ _ _ 5 9 11 (by kernel_rfl) (qc _) ?_ ?_ ?_
    · refine ce (fun w _ => qG hu1 hv1 hXX w) (fun xx hxx => ?_)
      refine ⟨qc _, ?_⟩
      exact g.go (H17 a xx b14 ha hxx) (qc _) ⟨rfl, rfl, rfl, rfl, rfl, rfl, rfl, rfl, rfl, rfl, rfl, rfl, rfl, rfl, rfl, trivial⟩ ⟨_, .refl _, .refl _⟩ rfl
    · intro b13
      refine ⟨qc _, ?_⟩
      exact g.go (H19 a b13 b14 ha) (qc _) ⟨rfl, rfl, rfl, rfl, rfl, rfl, rfl, rfl, rfl, rfl, rfl, rfl, rfl, rfl, rfl, rfl, rfl, trivial⟩ ⟨_, qB [_, _, _, _, _, _, _, _, _, _] _ [_], .refl _⟩ rfl
    · intro b15
      refine ⟨qc _, ?_⟩
      exact g.go (H21 a b14 b15 ha) (qc _) ⟨rfl, rfl, rfl, rfl, rfl, rfl, rfl, rfl, rfl, rfl, rfl, rfl, rfl, rfl, rfl, rfl, rfl, trivial⟩ ⟨_, .refl _, .refl _⟩ rfl
   have H26 : ∀ (a b15 : Nat), El (A) a → T 7 #[tt,tt,tt,tt,tt,ff,tt,tt,ff,ff,ff,tt,ff,ff,ff] ⟨(35, .agg (e4 a)) :: (36, .agg (e4 u1)) :: (37, .agg (e4 v1)) :: (39, .agg (e4 u2)) :: (40, .agg (e4 v2)) :: (15, pq b15) :: Sl, En ++ [cl b15 Zr 36], []⟩ := by
    intro a b15 ha
    refine g.three _ _ _ 5 9 10 (by kernel_rfl) (qc _) ?_ ?_ ?_
    · refine ce (fun w _ => qG hu1 hv1 hXX w) (fun xx hxx => ?_)
      refine ⟨qc _, ?_⟩
      exact g.go (H18 a xx b15 ha hxx) (qc _) ⟨rfl, rfl, rfl, rfl, rfl, rfl, rfl, rfl, rfl, rfl, rfl, rfl, rfl, rfl, rfl, trivial⟩ ⟨_, .refl _, .refl _⟩ rfl
    · intro b13
      refine ⟨qc _, ?_⟩
      exact g.go (H20 a b13 b15 ha) (qc _) ⟨rfl, rfl, rfl, rfl, rfl, rfl, rfl, rfl, rfl, rfl, rfl, rfl, rfl, rfl, rfl, rfl, rfl, trivial⟩ ⟨_, qB [_, _, _, _, _, _, _, _, _, _] _ [_], .refl _⟩ rfl
    · intro b14
      refine ⟨qc _, ?_⟩
      exact g.go (H21 a b14 b15 ha) (qc _) ⟨rfl, rfl, rfl, rfl, rfl, rfl, rfl, rfl, rfl, rfl, rfl, rfl, rfl, rfl, rfl, rfl, rfl, trivial⟩ ⟨_, qB [_, _, _, _, _, _, _, _, _, _] _ [_], .refl _⟩ rfl
   have H27 : ∀ (b13 b14 : Nat), T 7 #[tt,tt,ff,tt,tt,ff,tt,tt,ff,tt,tt,ff,ff,ff,ff] ⟨(33, .agg (e4 u3)) :: (34, .agg (e4 v3)) :: (36, .agg (e4 u1)) :: (37, .agg (e4 v1)) :: (39, .agg (e4 u2)) :: (40, .agg (e4 v2)) :: (13, pq b13) :: (14, pq b14) :: Sl, En ++ [cl b13 Zr 36, cl b14 Zr 36], []⟩ := by
    intro b13 b14
    refine g.two _ _ _ 2 11 (by kernel_rfl) (qc _) ?_ ?_
    · refine ce (fun w _ => qG hu3 hv3 hA w) (fun a ha => ?_)
      refine ⟨qc _, ?_⟩
      exact g.go (H19 a b13 b14 ha) (qc _) ⟨rfl, rfl, rfl, rfl, rfl, rfl, rfl, rfl, rfl, rfl, rfl, rfl, rfl, rfl, rfl, rfl, rfl, trivial⟩ ⟨_, .refl _, .refl _⟩ rfl
    · intro b15
      refine ⟨qc _, ?_⟩
      exact g.go (H22 b13 b14 b15) (qc _) ⟨rfl, rfl, rfl, rfl, rfl, rfl, rfl, rfl, rfl, rfl, rfl, rfl, rfl, rfl, rfl, rfl, rfl, rfl, rfl, trivial⟩ ⟨_, .refl _, .refl _⟩ rfl
   have H28 : ∀ (b13 b15 : Nat), T 7 #[tt,tt,ff,tt,tt,ff,tt,tt,ff,tt,ff,tt,ff,ff,ff] ⟨(33, .agg (e4 u3)) :: (34, .agg (e4 v3)) :: (36, .agg (e4 u1)) :: (37, .agg (e4 v1)) :: (39, .agg (e4 u2)) :: (40, .agg (e4 v2)) :: (13, pq b13) :: (15, pq b15) :: Sl, En ++ [cl b13 Zr 36, cl b15 Zr 36], []⟩ := by
    intro b13 b15
    refine g.two _ _ _ 2 10 (by kernel_rfl) (qc _) ?_ ?_
    · refine ce (fun w _ => qG hu3 hv3 hA w) (fun a ha => ?_)
      refine ⟨qc _, ?_⟩
      exact g.go (H20 a b13 b15 ha) (qc _) ⟨rfl, rfl, rfl, rfl, rfl, rfl, rfl, rfl, rfl, rfl, rfl, rfl, rfl, rfl, rfl, rfl, rfl, trivial⟩ ⟨_, .refl _, .refl _⟩ rfl
    · intro b14
      refine ⟨qc _, ?_⟩
      exact g.go (H22 b13 b14 b15) (qc _) ⟨rfl, rfl, rfl, rfl, rfl, rfl, rfl, rfl, rfl, rfl, rfl, rfl, rfl, rfl, rfl, rfl, rfl, rfl, rfl, trivial⟩ ⟨_, qB [_, _, _, _, _, _, _, _, _, _, _] _ [_], .refl _⟩ rfl
   have H29 : ∀ (b14 b15 : Nat), T 7 #[tt,tt,ff,tt,tt,ff,tt,tt,ff,ff,tt,tt,ff,ff,ff] ⟨(33, .agg (e4 u3)) :: (34, .agg (e4 v3)) :: (36, .agg (e4 u1)) :: (37, .agg (e4 v1)) :: (39, .agg (e4 u2)) :: (40, .agg (e4 v2)) :: (14, pq b14) :: (15, pq b15) :: Sl, En ++ [cl b14 Zr 36, cl b15 Zr 36], []⟩ := by
    intro b14 b15
    refine g.two _ _ _ 2 9 (by kernel_rfl) (qc _) ?_ ?_
    · refine ce (fun w _ => qG hu3 hv3 hA w) (fun a ha => ?_)
      refine ⟨qc _, ?_⟩
      exact g.go (H21 a b14 b15 ha) (qc _) ⟨rfl, rfl, rfl, rfl, rfl, rfl, rfl, rfl, rfl, rfl, rfl, rfl, rfl, rfl, rfl, rfl, rfl, trivial⟩ ⟨_, .refl _, .refl _⟩ rfl
    · intro b13
      refine ⟨qc _, ?_⟩
      exact g.go (H22 b13 b14 b15) (qc _) ⟨rfl, rfl, rfl, rfl, rfl, rfl, rfl, rfl, rfl, rfl, rfl, rfl, rfl, rfl, rfl, rfl, rfl, rfl, rfl, trivial⟩ ⟨_, qB [_, _, _, _, _, _, _, _, _, _] _ [_, _], .refl _⟩ rfl
   have H30 : ∀ (a : Nat), El (A) a → T 8 #[tt,tt,tt,tt,tt,ff,tt,tt,ff,ff,ff,ff,ff,ff,ff] ⟨(35, .agg (e4 a)) :: (36, .agg (e4 u1)) :: (37, .agg (e4 v1)) :: (39, .agg (e4 u2)) :: (40, .agg (e4 v2)) :: Sl, En, []⟩ := by
    intro a ha
    refine g.four _ _ _ 5 9 10 11 (by kernel_rfl) (qc _) ?_ ?_ ?_ ?_
    · refine ce (fun w _ => qG hu1 hv1 hXX w) (fun xx hxx => ?_)
      refine ⟨qc _, ?_⟩
      exact g.go (H23 a xx ha hxx) (qc _) ⟨rfl, rfl, rfl, rfl, rfl, rfl, rfl, rfl, rfl, rfl, rfl, rfl, rfl, rfl, trivial⟩ ⟨_, .refl _, .refl _⟩ rfl
    · intro b13
      refine ⟨qc _, ?_⟩
      exact g.go (H24 a b13 ha) (qc _) ⟨rfl, rfl, rfl, rfl, rfl, rfl, rfl, rfl, rfl, rfl, rfl, rfl, rfl, rfl, rfl, rfl, trivial⟩ ⟨_, .refl _, .refl _⟩ rfl
    · intro b14
      refine ⟨qc _, ?_⟩
      exact g.go (H25 a b14 ha) (qc _) ⟨rfl, rfl, rfl, rfl, rfl, rfl, rfl, rfl, rfl, rfl, rfl, rfl, rfl, rfl, rfl, rfl, trivial⟩ ⟨_, .refl _, .refl _⟩ rfl
    · intro b15
      refine ⟨qc _, ?_⟩
      exact g.go (H26 a b15 ha) (qc _) ⟨rfl, rfl, rfl, rfl, rfl, rfl, rfl, rfl, rfl, rfl, rfl, rfl, rfl, rfl, rfl, rfl, trivial⟩ ⟨_, .refl _, .refl _⟩ rfl
   have H31 : ∀ (b13 : Nat), T 8 #[tt,tt,ff,tt,tt,ff,tt,tt,ff,tt,ff,ff,ff,ff,ff] ⟨(33, .agg (e4 u3)) :: (34, .agg (e4 v3)) :: (36, .agg (e4 u1)) :: (37, .agg (e4 v1)) :: (39, .agg (e4 u2)) :: (40, .agg (e4 v2)) :: (13, pq b13) :: Sl, En ++ [cl b13 Zr 36], []⟩ := by
    intro b13
    refine g.three _ _ _ 2 10 11 (by kernel_rfl) (qc _) ?_ ?_ ?_
    · refine ce (fun w _ => qG hu3 hv3 hA w) (fun a ha => ?_)
      refine ⟨qc _, ?_⟩
      exact g.go (H24 a b13 ha) (qc _) ⟨rfl, rfl, rfl, rfl, rfl, rfl, rfl, rfl, rfl, rfl, rfl, rfl, rfl, rfl, rfl, rfl, trivial⟩ ⟨_, .refl _, .refl _⟩ rfl
    · intro b14
      refine ⟨qc _, ?_⟩
      exact g.go (H27 b13 b14) (qc _) ⟨rfl, rfl, rfl, rfl, rfl, rfl, rfl, rfl, rfl, rfl, rfl, rfl, rfl, rfl, rfl, rfl, rfl, rfl, trivial⟩ ⟨_, .refl _, .refl _⟩ rfl
    · intro b15
      refine ⟨qc _, ?_⟩
      exact g.go (H28 b13 b15) (qc _) ⟨rfl, rfl, rfl, rfl, rfl, rfl, rfl, rfl, rfl, rfl, rfl, rfl, rfl, rfl, rfl, rfl, rfl, rfl, trivial⟩ ⟨_, .refl _, .refl _⟩ rfl
   have H32 : ∀ (b14 : Nat), T 8 #[tt,tt,ff,tt,tt,ff,tt,tt,ff,ff,tt,ff,ff,ff,ff] ⟨(33, .agg (e4 u3)) :: (34, .agg (e4 v3)) :: (36, .agg (e4 u1)) :: (37, .agg (e4 v1)) :: (39, .agg (e4 u2)) :: (40, .agg (e4 v2)) :: (14, pq b14) :: Sl, En ++ [cl b14 Zr 36], []⟩ := by
    intro b14
    refine g.three _ _ _ 2 9 11 (by kernel_rfl) (qc _) ?_ ?_ ?_
    · refine ce (fun w _ => qG hu3 hv3 hA w) (fun a ha => ?_)
      refine ⟨qc _, ?_⟩
      exact g.go (H25 a b14 ha) (qc _) ⟨rfl, rfl, rfl, rfl, rfl, rfl, rfl, rfl, rfl, rfl, rfl, rfl, rfl, rfl, rfl, rfl, trivial⟩ ⟨_, .refl _, .refl _⟩ rfl
    · intro b13
      refine ⟨qc _, ?_⟩
      exact g.go (H27 b13 b14) (qc _) ⟨rfl, rfl, rfl, rfl, rfl, rfl, rfl, rfl, rfl, rfl, rfl, rfl, rfl, rfl, rfl, rfl, rfl, rfl, trivial⟩ ⟨_, qB [_, _, _, _, _, _, _, _, _, _] _ [_], .refl _⟩ rfl
    · intro b15
      refine ⟨qc _, ?_⟩
      exact g.go (H29 b14 b15) (qc _) ⟨rfl, rfl, rfl, rfl, rfl, rfl, rfl, rfl, rfl, rfl, rfl, rfl, rfl, rfl, rfl, rfl, rfl, rfl, trivial⟩ ⟨_, .refl _, .refl _⟩ rfl
   have H33 : ∀ (b15 : Nat), T 8 #[tt,tt,ff,tt,tt,ff,tt,tt,ff,ff,ff,tt,ff,ff,ff] ⟨(33, .agg (e4 u3)) :: (34, .agg (e4 v3)) :: (36, .agg (e4 u1)) :: (37, .agg (e4 v1)) :: (39, .agg (e4 u2)) :: (40, .agg (e4 v2)) :: (15, pq b15) :: Sl, En ++ [cl b15 Zr 36], []⟩ := by
    intro b15
    refine g.three _ _ _ 2 9 10 (by kernel_rfl) (qc _) ?_ ?_ ?_
    · refine ce (fun w _ => qG hu3 hv3 hA w) (fun a ha => ?_)
      refine ⟨qc _, ?_⟩
      exact g.go (H26 a b15 ha) (qc _) ⟨rfl, rfl, rfl, rfl, rfl, rfl, rfl, rfl, rfl, rfl, rfl, rfl, rfl, rfl, rfl, rfl, trivial⟩ ⟨_, .refl _, .refl _⟩ rfl
    · intro b13
      refine ⟨qc _, ?_⟩
      exact g.go (H28 b13 b15) (qc _) ⟨rfl, rfl, rfl, rfl, rfl, rfl, rfl, rfl, rfl, rfl, rfl, rfl, rfl, rfl, rfl, rfl, rfl, rfl, trivial⟩ ⟨_, qB [_, _, _, _, _, _, _, _, _, _] _ [_], .refl _⟩ rfl
    · intro b14
      refine ⟨qc _, ?_⟩
      exact g.go (H29 b14 b15) (qc _) ⟨rfl, rfl, rfl, rfl, rfl, rfl, rfl, rfl, rfl, rfl, rfl, rfl, rfl, rfl, rfl, rfl, rfl, rfl, trivial⟩ ⟨_, qB [_, _, _, _, _, _, _, _, _, _] _ [_], .refl _⟩ rfl
   have H : T 9 #[tt,tt,ff,tt,tt,ff,tt,tt,ff,ff,ff,ff,ff,ff,ff] ⟨(33, .agg (e4 u3)) :: (34, .agg (e4 v3)) :: (36, .agg (e4 u1)) :: (37, .agg (e4 v1)) :: (39, .agg (e4 u2)) :: (40, .agg (e4 v2)) :: Sl, En, []⟩ := by
    refine g.four _ _ _ 2 9 10 11 (by kernel_rfl) (qc _) ?_ ?_ ?_ ?_
    · refine ce (fun w _ => qG hu3 hv3 hA w) (fun a ha => ?_)
      refine ⟨qc _, ?_⟩
      exact g.go (H30 a ha) (qc _) ⟨rfl, rfl, rfl, rfl, rfl, rfl, rfl, rfl, rfl, rfl, rfl, rfl, rfl, rfl, rfl, trivial⟩ ⟨_, .refl _, .refl _⟩ rfl
    · intro b13
      refine ⟨qc _, ?_⟩
      exact g.go (H31 b13) (qc _) ⟨rfl, rfl, rfl, rfl, rfl, rfl, rfl, rfl, rfl, rfl, rfl, rfl, rfl, rfl, rfl, rfl, rfl, trivial⟩ ⟨_, .refl _, .refl _⟩ rfl
    · intro b14
      refine ⟨qc _, ?_⟩
      exact g.go (H32 b14) (qc _) ⟨rfl, rfl, rfl, rfl, rfl, rfl, rfl, rfl, rfl, rfl, rfl, rfl, rfl, rfl, rfl, rfl, rfl, trivial⟩ ⟨_, .refl _, .refl _⟩ rfl
    · intro b15
      refine ⟨qc _, ?_⟩
      exact g.go (H33 b15) (qc _) ⟨rfl, rfl, rfl, rfl, rfl, rfl, rfl, rfl, rfl, rfl, rfl, rfl, rfl, rfl, rfl, rfl, rfl, trivial⟩ ⟨_, .refl _, .refl _⟩ rfl
   refine ldN 6 rfl (qd _) ?_
   refine ldN 9 rfl (qd _) ?_
   refine ldN 4 rfl (qd _) ?_
   refine ldN 7 rfl (qd _) ?_
   refine ldN 5 rfl (qd _) ?_
   refine ldN 8 rfl (qd _) ?_
   exact g.go H (qc _) ⟨rfl, rfl, rfl, rfl, rfl, rfl, rfl, rfl, rfl, rfl, rfl, rfl, rfl, rfl, rfl, rfl, trivial⟩ ⟨_, .refl _, .refl _⟩ rfl
 · rintro ⟨a, xx, yy, b13, b14, b15⟩ ⟨ha, hxx, hyy⟩
   refine ldN 10 rfl (qd _) ?_
   refine ldN 10 rfl (qd _) ?_
   refine ce (fun w _ => qG ha ha hBq w) (fun bq hbq => ?_)
   intro b16
   refine sN 13 rfl (by rw [qd]; rfl) (Qe _) ?_ (by kernel_rfl)
   refine cut (α := Nat × Nat × Nat) (fun x => El (E1) x.1 ∧ El (E) x.2.1) (fun x => ⟨[(17, pq x.2.2), (3, pq b3), (4, pq b4), (5, pq b5), (6, pq b6), (7, pq b7), (8, pq b8), (9, pq b9), (10, pq b10), (11, pq b11), (12, pq b12), (13, pq b13), (14, pq b14), (15, pq b15), (16, pq b16)], [cl b3 (e4 d) 110, cl b4 (pt x1 y1 c1 b1) 53, cl b5 (pt x2 y2 c2 b2) 53, cl b6 pt0 53, cl b7 (e4 u1) 36, cl b8 (e4 u2) 36, cl b9 (e4 u3) 36, cl b10 (e4 v1) 36, cl b11 (e4 v2) 36, cl b12 (e4 v3) 36, cl b13 (e4 a) 36, cl b14 (e4 xx) 36, cl b15 (e4 yy) 36, cl b16 (e4 bq) 36, cl x.2.2 (e4 x.2.1) 36], []⟩) ?_ ?_
   · let Sl : Fr := [(3, pq b3), (4, pq b4), (5, pq b5), (6, pq b6), (7, pq b7), (8, pq b8), (9, pq b9), (10, pq b10), (11, pq b11), (12, pq b12), (13, pq b13), (14, pq b14), (15, pq b15), (16, pq b16)]
     let En : List Ent := [cl b3 (e4 d) 110, cl b4 (pt x1 y1 c1 b1) 53, cl b5 (pt x2 y2 c2 b2) 53, cl b6 pt0 53, cl b7 (e4 u1) 36, cl b8 (e4 u2) 36, cl b9 (e4 u3) 36, cl b10 (e4 v1) 36, cl b11 (e4 v2) 36, cl b12 (e4 v3) 36, cl b13 (e4 a) 36, cl b14 (e4 xx) 36, cl b15 (e4 yy) 36, cl b16 (e4 bq) 36]
     let Zr : Array Value := #[.int .u64 0, .int .u64 0, .int .u64 0, .int .u64 0]
     refine drg En [0, 1, 3] 4 qi qq (by kernel_rfl) (by kernel_rfl) (.refl _) (fun T g => ?_)
     have H0 : ∀ (e1 ee b17 : Nat), El (E1) e1 → El (E) ee → T 0 #[tt,tt,tt,tt,tt,tt,tt] ⟨(17, pq b17) :: Sl, En ++ [cl b17 (e4 ee) 36], []⟩ := by
      intro e1 ee b17 he1 hee
      refine g.fin _ _ _ (by kernel_rfl) ?_
      exact ⟨(e1, ee, b17), ⟨he1, hee⟩, ⟨rfl, rfl, rfl, rfl, rfl, rfl, rfl, rfl, rfl, rfl, rfl, rfl, rfl, rfl, rfl, trivial⟩, .refl _, rfl⟩
     have H1 : ∀ (e1 ee b17 : Nat), El (E1) e1 → El (E) ee → T 1 #[tt,tt,tt,tt,tt,tt,ff] ⟨(49, .agg (e4 ee)) :: (17, pq b17) :: Sl, En ++ [cl b17 Zr 36], []⟩ := by
      intro e1 ee b17 he1 hee
      refine g.one _ _ _ 6 (by kernel_rfl) (qc _) ?_
      refine sN 14 rfl (by rw [qd]; rfl) (Qe _) ?_ (by kernel_rfl)
      refine ⟨qc _, ?_⟩
      exact g.go (H0 e1 ee b17 he1 hee) (qc _) ⟨rfl, rfl, rfl, rfl, rfl, rfl, rfl, rfl, rfl, rfl, rfl, rfl, rfl, rfl, rfl, trivial⟩ ⟨_, .refl _, .refl _⟩ rfl
     have H2 : ∀ (e1 ee : Nat), El (E1) e1 → El (E) ee → T 2 #[tt,tt,tt,tt,tt,ff,ff] ⟨(49, .agg (e4 ee)) :: Sl, En, []⟩ := by
      intro e1 ee he1 hee
      refine g.one _ _ _ 5 (by kernel_rfl) (qc _) ?_
      intro b17
      refine ⟨qc _, ?_⟩
      exact g.go (H1 e1 ee b17 he1 hee) (qc _) ⟨rfl, rfl, rfl, rfl, rfl, rfl, rfl, rfl, rfl, rfl, rfl, rfl, rfl, rfl, rfl, rfl, trivial⟩ ⟨_, .refl _, .refl _⟩ rfl
     have H3 : ∀ (e1 b17 : Nat), El (E1) e1 → T 2 #[tt,tt,tt,tt,ff,tt,ff] ⟨(47, .agg (e4 e1)) :: (48, .agg (e4 yy)) :: (17, pq b17) :: Sl, En ++ [cl b17 Zr 36], []⟩ := by
      intro e1 b17 he1
      refine g.one _ _ _ 4 (by kernel_rfl) (qc _) ?_
      refine ce (fun w _ => qG he1 hyy hE w) (fun ee hee => ?_)
      refine ⟨qc _, ?_⟩
      exact g.go (H1 e1 ee b17 he1 hee) (qc _) ⟨rfl, rfl, rfl, rfl, rfl, rfl, rfl, rfl, rfl, rfl, rfl, rfl, rfl, rfl, rfl, rfl, trivial⟩ ⟨_, .refl _, .refl _⟩ rfl
     have H4 : ∀ (e1 : Nat), El (E1) e1 → T 3 #[tt,tt,tt,tt,ff,ff,ff] ⟨(47, .agg (e4 e1)) :: (48, .agg (e4 yy)) :: Sl, En, []⟩ := by
      intro e1 he1
      refine g.two _ _ _ 4 5 (by kernel_rfl) (qc _) ?_ ?_
      · refine ce (fun w _ => qG he1 hyy hE w) (fun ee hee => ?_)
        refine ⟨qc _, ?_⟩
        exact g.go (H2 e1 ee he1 hee) (qc _) ⟨rfl, rfl, rfl, rfl, rfl, rfl, rfl, rfl, rfl, rfl, rfl, rfl, rfl, rfl, rfl, trivial⟩ ⟨_, .refl _, .refl _⟩ rfl
      · intro b17
        refine ⟨qc _, ?_⟩
        exact g.go (H3 e1 b17 he1) (qc _) ⟨rfl, rfl, rfl, rfl, rfl, rfl, rfl, rfl, rfl, rfl, rfl, rfl, rfl, rfl, rfl, rfl, rfl, trivial⟩ ⟨_, .refl _, .refl _⟩ rfl
     have H5 : ∀ (b17 : Nat), T 3 #[tt,tt,ff,tt,ff,tt,ff] ⟨(45, .agg (e4 d)) :: (46, .agg (e4 xx)) :: (48, .agg (e4 yy)) :: (17, pq b17) :: Sl, En ++ [cl b17 Zr 36], []⟩ := by
      intro b17
      refine g.one _ _ _ 2 (by kernel_rfl) (qc _) ?_
      refine ce (fun w _ => qG hd hxx hE1 w) (fun e1 he1 => ?_)
      refine ⟨qc _, ?_⟩
      exact g.go (H3 e1 b17 he1) (qc _) ⟨rfl, rfl, rfl, rfl, rfl, rfl, rfl, rfl, rfl, rfl, rfl, rfl, rfl, rfl, rfl, rfl, rfl, trivial⟩ ⟨_, .refl _, .refl _⟩ rfl
     have H : T 4 #[tt,tt,ff,tt,ff,ff,ff] ⟨(45, .agg (e4 d)) :: (46, .agg (e4 xx)) :: (48, .agg (e4 yy)) :: Sl, En, []⟩ := by
      refine g.two _ _ _ 2 5 (by kernel_rfl) (qc _) ?_ ?_
      · refine ce (fun w _ => qG hd hxx hE1 w) (fun e1 he1 => ?_)
        refine ⟨qc _, ?_⟩
        exact g.go (H4 e1 he1) (qc _) ⟨rfl, rfl, rfl, rfl, rfl, rfl, rfl, rfl, rfl, rfl, rfl, rfl, rfl, rfl, rfl, rfl, trivial⟩ ⟨_, .refl _, .refl _⟩ rfl
      · intro b17
        refine ⟨qc _, ?_⟩
        exact g.go (H5 b17) (qc _) ⟨rfl, rfl, rfl, rfl, rfl, rfl, rfl, rfl, rfl, rfl, rfl, rfl, rfl, rfl, rfl, rfl, rfl, rfl, trivial⟩ ⟨_, .refl _, .refl _⟩ rfl
     refine ldN 0 rfl (qd _) ?_
     refine ldN 11 rfl (qd _) ?_
     refine ldN 12 rfl (qd _) ?_
     exact g.go H (qc _) ⟨rfl, rfl, rfl, rfl, rfl, rfl, rfl, rfl, rfl, rfl, rfl, rfl, rfl, rfl, rfl, rfl, rfl, trivial⟩ ⟨_, .refl _, .refl _⟩ rfl
   · rintro ⟨e1, ee, b17⟩ ⟨he1, hee⟩
     refine cut (α := Nat × Nat × Nat × Nat) (fun x => El (F) x.1 ∧ El (G) x.2.1) (fun x => ⟨[(18, pq x.2.2.1), (19, pq x.2.2.2), (3, pq b3), (4, pq b4), (5, pq b5), (6, pq b6), (7, pq b7), (8, pq b8), (9, pq b9), (10, pq b10), (11, pq b11), (12, pq b12), (13, pq b13), (14, pq b14), (15, pq b15), (16, pq b16), (17, pq b17)], [cl b3 (e4 d) 110, cl b4 (pt x1 y1 c1 b1) 53, cl b5 (pt x2 y2 c2 b2) 53, cl b6 pt0 53, cl b7 (e4 u1) 36, cl b8 (e4 u2) 36, cl b9 (e4 u3) 36, cl b10 (e4 v1) 36, cl b11 (e4 v2) 36, cl b12 (e4 v3) 36, cl b13 (e4 a) 36, cl b14 (e4 xx) 36, cl b15 (e4 yy) 36, cl b16 (e4 bq) 36, cl b17 (e4 ee) 36, cl x.2.2.1 (e4 x.1) 36, cl x.2.2.2 (e4 x.2.1) 36], []⟩) ?_ ?_
     · let Sl : Fr := [(3, pq b3), (4, pq b4), (5, pq b5), (6, pq b6), (7, pq b7), (8, pq b8), (9, pq b9), (10, pq b10), (11, pq b11), (12, pq b12), (13, pq b13), (14, pq b14), (15, pq b15), (16, pq b16), (17, pq b17)]
       let En : List Ent := [cl b3 (e4 d) 110, cl b4 (pt x1 y1 c1 b1) 53, cl b5 (pt x2 y2 c2 b2) 53, cl b6 pt0 53, cl b7 (e4 u1) 36, cl b8 (e4 u2) 36, cl b9 (e4 u3) 36, cl b10 (e4 v1) 36, cl b11 (e4 v2) 36, cl b12 (e4 v3) 36, cl b13 (e4 a) 36, cl b14 (e4 xx) 36, cl b15 (e4 yy) 36, cl b16 (e4 bq) 36, cl b17 (e4 ee) 36]
       let Zr : Array Value := #[.int .u64 0, .int .u64 0, .int .u64 0, .int .u64 0]
       refine drg En [0, 1, 3, 4] 6 qi qq (by kernel_rfl) (by kernel_rfl) (.refl _) (fun T g => ?_)
       have H0 : ∀ (f gg b18 b19 : Nat), El (F) f → El (G) gg → T 0 #[tt,tt,tt,tt,tt,tt,tt,tt,tt,tt] ⟨(18, pq b18) :: (19, pq b19) :: Sl, En ++ [cl b18 (e4 f) 36, cl b19 (e4 gg) 36], []⟩ := by
        intro f gg b18 b19 hf hgg
        refine g.fin _ _ _ (by kernel_rfl) ?_
        exact ⟨(f, gg, b18, b19), ⟨hf, hgg⟩, ⟨rfl, rfl, rfl, rfl, rfl, rfl, rfl, rfl, rfl, rfl, rfl, rfl, rfl, rfl, rfl, rfl, rfl, trivial⟩, .refl _, rfl⟩
       have H1 : ∀ (f gg b18 b19 : Nat), El (F) f → El (G) gg → T 1 #[tt,tt,tt,tt,tt,tt,tt,tt,tt,ff] ⟨(55, .agg (e4 gg)) :: (18, pq b18) :: (19, pq b19) :: Sl, En ++ [cl b18 (e4 f) 36, cl b19 Zr 36], []⟩ := by
        intro f gg b18 b19 hf hgg
        refine g.one _ _ _ 9 (by kernel_rfl) (qc _) ?_
        refine sN 16 rfl (by rw [qd]; rfl) (Qe _) ?_ (by kernel_rfl)
        refine ⟨qc _, ?_⟩
        exact g.go (H0 f gg b18 b19 hf hgg) (qc _) ⟨rfl, rfl, rfl, rfl, rfl, rfl, rfl, rfl, rfl, rfl, rfl, rfl, rfl, rfl, rfl, rfl, rfl, trivial⟩ ⟨_, .refl _, .refl _⟩ rfl
       have H2 : ∀ (f gg b18 b19 : Nat), El (F) f → El (G) gg → T 2 #[tt,tt,tt,tt,tt,tt,tt,tt,ff,ff] ⟨(52, .agg (e4 f)) :: (55, .agg (e4 gg)) :: (18, pq b18) :: (19, pq b19) :: Sl, En ++ [cl b18 Zr 36, cl b19 Zr 36], []⟩ := by
        intro f gg b18 b19 hf hgg
        refine g.one _ _ _ 8 (by kernel_rfl) (qc _) ?_
        refine sN 15 rfl (by rw [qd]; rfl) (Qe _) ?_ (by kernel_rfl)
        refine ⟨qc _, ?_⟩
        exact g.go (H1 f gg b18 b19 hf hgg) (qc _) ⟨rfl, rfl, rfl, rfl, rfl, rfl, rfl, rfl, rfl, rfl, rfl, rfl, rfl, rfl, rfl, rfl, rfl, rfl, trivial⟩ ⟨_, .refl _, .refl _⟩ rfl
       have H3 : ∀ (f gg b18 : Nat), El (F) f → El (G) gg → T 3 #[tt,tt,tt,tt,tt,tt,tt,ff,ff,ff] ⟨(52, .agg (e4 f)) :: (55, .agg (e4 gg)) :: (18, pq b18) :: Sl, En ++ [cl b18 Zr 36], []⟩ := by
        intro f gg b18 hf hgg
        refine g.one _ _ _ 7 (by kernel_rfl) (qc _) ?_
        intro b19
        refine ⟨qc _, ?_⟩
        exact g.go (H2 f gg b18 b19 hf hgg) (qc _) ⟨rfl, rfl, rfl, rfl, rfl, rfl, rfl, rfl, rfl, rfl, rfl, rfl, rfl, rfl, rfl, rfl, rfl, rfl, rfl, trivial⟩ ⟨_, .refl _, .refl _⟩ rfl
       have H4 : ∀ (f gg b19 : Nat), El (F) f → El (G) gg → T 3 #[tt,tt,tt,tt,tt,tt,ff,tt,ff,ff] ⟨(52, .agg (e4 f)) :: (55, .agg (e4 gg)) :: (19, pq b19) :: Sl, En ++ [cl b19 Zr 36], []⟩ := by
        intro f gg b19 hf hgg
        refine g.one _ _ _ 6 (by kernel_rfl) (qc _) ?_
        intro b18
        refine ⟨qc _, ?_⟩
        exact g.go (H2 f gg b18 b19 hf hgg) (qc _) ⟨rfl, rfl, rfl, rfl, rfl, rfl, rfl, rfl, rfl, rfl, rfl, rfl, rfl, rfl, rfl, rfl, rfl, rfl, rfl, trivial⟩ ⟨_, qB [_, _, _, _, _, _, _, _, _, _, _, _, _, _, _] _ [_], .refl _⟩ rfl
       have H5 : ∀ (f b18 b19 : Nat), El (F) f → T 3 #[tt,tt,tt,tt,tt,ff,tt,tt,ff,ff] ⟨(52, .agg (e4 f)) :: (53, .agg (e4 bq)) :: (54, .agg (e4 ee)) :: (18, pq b18) :: (19, pq b19) :: Sl, En ++ [cl b18 Zr 36, cl b19 Zr 36], []⟩ := by
        intro f b18 b19 hf
        refine g.one _ _ _ 5 (by kernel_rfl) (qc _) ?_
        refine ce (fun w _ => QR hbq hee hG w) (fun gg hgg => ?_)
        refine ⟨qc _, ?_⟩
        exact g.go (H2 f gg b18 b19 hf hgg) (qc _) ⟨rfl, rfl, rfl, rfl, rfl, rfl, rfl, rfl, rfl, rfl, rfl, rfl, rfl, rfl, rfl, rfl, rfl, rfl, rfl, trivial⟩ ⟨_, .refl _, .refl _⟩ rfl
       have H6 : ∀ (f gg : Nat), El (F) f → El (G) gg → T 4 #[tt,tt,tt,tt,tt,tt,ff,ff,ff,ff] ⟨(52, .agg (e4 f)) :: (55, .agg (e4 gg)) :: Sl, En, []⟩ := by
        intro f gg hf hgg
        refine g.two _ _ _ 6 7 (by kernel_rfl) (qc _) ?_ ?_
        · intro b18
          refine ⟨qc _, ?_⟩
          exact g.go (H3 f gg b18 hf hgg) (qc _) ⟨rfl, rfl, rfl, rfl, rfl, rfl, rfl, rfl, rfl, rfl, rfl, rfl, rfl, rfl, rfl, rfl, rfl, rfl, trivial⟩ ⟨_, .refl _, .refl _⟩ rfl
        · intro b19
          refine ⟨qc _, ?_⟩
          exact g.go (H4 f gg b19 hf hgg) (qc _) ⟨rfl, rfl, rfl, rfl, rfl, rfl, rfl, rfl, rfl, rfl, rfl, rfl, rfl, rfl, rfl, rfl, rfl, rfl, trivial⟩ ⟨_, .refl _, .refl _⟩ rfl
       have H7 : ∀ (f b18 : Nat), El (F) f → T 4 #[tt,tt,tt,tt,tt,ff,tt,ff,ff,ff] ⟨(52, .agg (e4 f)) :: (53, .agg (e4 bq)) :: (54, .agg (e4 ee)) :: (18, pq b18) :: Sl, En ++ [cl b18 Zr 36], []⟩ := by
        intro f b18 hf
        refine g.two _ _ _ 5 7 (by kernel_rfl) (qc _) ?_ ?_
        · refine ce (fun w _ => QR hbq hee hG w) (fun gg hgg => ?_)
          refine ⟨qc _, ?_⟩
          exact g.go (H3 f gg b18 hf hgg) (qc _) ⟨rfl, rfl, rfl, rfl, rfl, rfl, rfl, rfl, rfl, rfl, rfl, rfl, rfl, rfl, rfl, rfl, rfl, rfl, trivial⟩ ⟨_, .refl _, .refl _⟩ rfl
        · intro b19
          refine ⟨qc _, ?_⟩
          exact g.go (H5 f b18 b19 hf) (qc _) ⟨rfl, rfl, rfl, rfl, rfl, rfl, rfl, rfl, rfl, rfl, rfl, rfl, rfl, rfl, rfl, rfl, rfl, rfl, rfl, rfl, trivial⟩ ⟨_, .refl _, .refl _⟩ rfl
       have H8 : ∀ (f b19 : Nat), El (F) f → T 4 #[tt,tt,tt,tt,tt,ff,ff,tt,ff,ff] ⟨(52, .agg (e4 f)) :: (53, .agg (e4 bq)) :: (54, .agg (e4 ee)) :: (19, pq b19) :: Sl, En ++ [cl b19 Zr 36], []⟩ := by
        intro f b19 hf
        refine g.two _ _ _ 5 6 (by kernel_rfl) (qc _) ?_ ?_
        · refine ce (fun w _ => QR hbq hee hG w) (fun gg hgg => ?_)
          refine ⟨qc _, ?_⟩
          exact g.go (H4 f gg b19 hf hgg) (qc _) ⟨rfl, rfl, rfl, rfl, rfl, rfl, rfl, rfl, rfl, rfl, rfl, rfl, rfl, rfl, rfl, rfl, rfl, rfl, trivial⟩ ⟨_, .refl _, .refl _⟩ rfl
        · intro b18
          refine ⟨qc _, ?_⟩
          exact g.go (H5 f b18 b19 hf) (qc _) ⟨rfl, rfl, rfl, rfl, rfl, rfl, rfl, rfl, rfl, rfl, rfl, rfl, rfl, rfl, rfl, rfl, rfl, rfl, rfl, rfl, trivial⟩ ⟨_, qB [_, _, _, _, _, _, _, _, _, _, _, _, _, _, _] _ [_], .refl _⟩ rfl
       have H9 : ∀ (b18 b19 : Nat), T 4 #[tt,tt,ff,tt,tt,ff,tt,tt,ff,ff] ⟨(50, .agg (e4 bq)) :: (51, .agg (e4 ee)) :: (53, .agg (e4 bq)) :: (54, .agg (e4 ee)) :: (18, pq b18) :: (19, pq b19) :: Sl, En ++ [cl b18 Zr 36, cl b19 Zr 36], []⟩ := by
        intro b18 b19
        refine g.one _ _ _ 2 (by kernel_rfl) (qc _) ?_
        refine ce (fun w _ => Q5 hbq hee hF w) (fun f hf => ?_)
        refine ⟨qc _, ?_⟩
        exact g.go (H5 f b18 b19 hf) (qc _) ⟨rfl, rfl, rfl, rfl, rfl, rfl, rfl, rfl, rfl, rfl, rfl, rfl, rfl, rfl, rfl, rfl, rfl, rfl, rfl, rfl, trivial⟩ ⟨_, .refl _, .refl _⟩ rfl
       have H10 : ∀ (f : Nat), El (F) f → T 5 #[tt,tt,tt,tt,tt,ff,ff,ff,ff,ff] ⟨(52, .agg (e4 f)) :: (53, .agg (e4 bq)) :: (54, .agg (e4 ee)) :: Sl, En, []⟩ := by
        intro f hf
        refine g.three _ _ _ 5 6 7 (by kernel_rfl) (qc _) ?_ ?_ ?_
        · refine ce (fun w _ => QR hbq hee hG w) (fun gg hgg => ?_)
          refine ⟨qc _, ?_⟩
          exact g.go (H6 f gg hf hgg) (qc _) ⟨rfl, rfl, rfl, rfl, rfl, rfl, rfl, rfl, rfl, rfl, rfl, rfl, rfl, rfl, rfl, rfl, rfl, trivial⟩ ⟨_, .refl _, .refl _⟩ rfl
        · intro b18
          refine ⟨qc _, ?_⟩
          exact g.go (H7 f b18 hf) (qc _) ⟨rfl, rfl, rfl, rfl, rfl, rfl, rfl, rfl, rfl, rfl, rfl, rfl, rfl, rfl, rfl, rfl, rfl, rfl, rfl, trivial⟩ ⟨_, .refl _, .refl _⟩ rfl
        · intro b19
          refine ⟨qc _, ?_⟩
          exact g.go (H8 f b19 hf) (qc _) ⟨rfl, rfl, rfl, rfl, rfl, rfl, rfl, rfl, rfl, rfl, rfl, rfl, rfl, rfl, rfl, rfl, rfl, rfl, rfl, trivial⟩ ⟨_, .refl _, .refl _⟩ rfl
       have H11 : ∀ (b18 : Nat), T 5 #[tt,tt,ff,tt,tt,ff,tt,ff,ff,ff] ⟨(50, .agg (e4 bq)) :: (51, .agg (e4 ee)) :: (53, .agg (e4 bq)) :: (54, .agg (e4 ee)) :: (18, pq b18) :: Sl, En ++ [cl b18 Zr 36], []⟩ := by
        intro b18
        refine g.two _ _ _ 2 7 (by kernel_rfl) (qc _) ?_ ?_
        · refine ce (fun w _ => Q5 hbq hee hF w) (fun f hf => ?_)
          refine ⟨qc _, ?_⟩
          exact g.go (H7 f b18 hf) (qc _) ⟨rfl, rfl, rfl, rfl, rfl, rfl, rfl, rfl, rfl, rfl, rfl, rfl, rfl, rfl, rfl, rfl, rfl, rfl, rfl, trivial⟩ ⟨_, .refl _, .refl _⟩ rfl
        · intro b19
          refine ⟨qc _, ?_⟩
          exact g.go (H9 b18 b19) (qc _) ⟨rfl, rfl, rfl, rfl, rfl, rfl, rfl, rfl, rfl, rfl, rfl, rfl, rfl, rfl, rfl, rfl, rfl, rfl, rfl, rfl, rfl, trivial⟩ ⟨_, .refl _, .refl _⟩ rfl
       have H12 : ∀ (b19 : Nat), T 5 #[tt,tt,ff,tt,tt,ff,ff,tt,ff,ff] ⟨(50, .agg (e4 bq)) :: (51, .agg (e4 ee)) :: (53, .agg (e4 bq)) :: (54, .agg (e4 ee)) :: (19, pq b19) :: Sl, En ++ [cl b19 Zr 36], []⟩ := by
        intro b19
        refine g.two _ _ _ 2 6 (by kernel_rfl) (qc _) ?_ ?_
        · refine ce (fun w _ => Q5 hbq hee hF w) (fun f hf => ?_)
          refine ⟨qc _, ?_⟩
          exact g.go (H8 f b19 hf) (qc _) ⟨rfl, rfl, rfl, rfl, rfl, rfl, rfl, rfl, rfl, rfl, rfl, rfl, rfl, rfl, rfl, rfl, rfl, rfl, rfl, trivial⟩ ⟨_, .refl _, .refl _⟩ rfl
        · intro b18
          refine ⟨qc _, ?_⟩
          exact g.go (H9 b18 b19) (qc _) ⟨rfl, rfl, rfl, rfl, rfl, rfl, rfl, rfl, rfl, rfl, rfl, rfl, rfl, rfl, rfl, rfl, rfl, rfl, rfl, rfl, rfl, trivial⟩ ⟨_, qB [_, _, _, _, _, _, _, _, _, _, _, _, _, _, _] _ [_], .refl _⟩ rfl
       have H : T 6 #[tt,tt,ff,tt,tt,ff,ff,ff,ff,ff] ⟨(50, .agg (e4 bq)) :: (51, .agg (e4 ee)) :: (53, .agg (e4 bq)) :: (54, .agg (e4 ee)) :: Sl, En, []⟩ := by
        refine g.three _ _ _ 2 6 7 (by kernel_rfl) (qc _) ?_ ?_ ?_
        · refine ce (fun w _ => Q5 hbq hee hF w) (fun f hf => ?_)
          refine ⟨qc _, ?_⟩
          exact g.go (H10 f hf) (qc _) ⟨rfl, rfl, rfl, rfl, rfl, rfl, rfl, rfl, rfl, rfl, rfl, rfl, rfl, rfl, rfl, rfl, rfl, rfl, trivial⟩ ⟨_, .refl _, .refl _⟩ rfl
        · intro b18
          refine ⟨qc _, ?_⟩
          exact g.go (H11 b18) (qc _) ⟨rfl, rfl, rfl, rfl, rfl, rfl, rfl, rfl, rfl, rfl, rfl, rfl, rfl, rfl, rfl, rfl, rfl, rfl, rfl, rfl, trivial⟩ ⟨_, .refl _, .refl _⟩ rfl
        · intro b19
          refine ⟨qc _, ?_⟩
          exact g.go (H12 b19) (qc _) ⟨rfl, rfl, rfl, rfl, rfl, rfl, rfl, rfl, rfl, rfl, rfl, rfl, rfl, rfl, rfl, rfl, rfl, rfl, rfl, rfl, trivial⟩ ⟨_, .refl _, .refl _⟩ rfl
       refine ldN 13 rfl (qd _) ?_
       refine ldN 14 rfl (qd _) ?_
       refine ldN 13 rfl (qd _) ?_
       refine ldN 14 rfl (qd _) ?_
       exact g.go H (qc _) ⟨rfl, rfl, rfl, rfl, rfl, rfl, rfl, rfl, rfl, rfl, rfl, rfl, rfl, rfl, rfl, rfl, rfl, rfl, rfl, trivial⟩ ⟨_, .refl _, .refl _⟩ rfl
     · rintro ⟨f, gg, b18, b19⟩ ⟨hf, hgg⟩
       refine cut (α := Nat × Nat × Nat × Nat × Nat × Nat) (fun x => El (S1) x.1 ∧ El (S2) x.2.1 ∧ El (S3) x.2.2.1 ∧ El (S4) x.2.2.2.1 ∧ El (CR) x.2.2.2.2.1) (fun x => ⟨[(20, pq x.2.2.2.2.2), (3, pq b3), (4, pq b4), (5, pq b5), (6, pq b6), (7, pq b7), (8, pq b8), (9, pq b9), (10, pq b10), (11, pq b11), (12, pq b12), (13, pq b13), (14, pq b14), (15, pq b15), (16, pq b16), (17, pq b17), (18, pq b18), (19, pq b19)], [cl b3 (e4 d) 110, cl b4 (pt x1 y1 c1 b1) 53, cl b5 (pt x2 y2 c2 b2) 53, cl b6 pt0 53, cl b7 (e4 u1) 36, cl b8 (e4 u2) 36, cl b9 (e4 u3) 36, cl b10 (e4 v1) 36, cl b11 (e4 v2) 36, cl b12 (e4 v3) 36, cl b13 (e4 a) 36, cl b14 (e4 xx) 36, cl b15 (e4 yy) 36, cl b16 (e4 bq) 36, cl b17 (e4 ee) 36, cl b18 (e4 f) 36, cl b19 (e4 gg) 36, cl x.2.2.2.2.2 (e4 x.2.2.2.2.1) 36], []⟩) ?_ ?_
       · let Sl : Fr := [(3, pq b3), (4, pq b4), (5, pq b5), (6, pq b6), (7, pq b7), (8, pq b8), (9, pq b9), (10, pq b10), (11, pq b11), (12, pq b12), (13, pq b13), (14, pq b14), (15, pq b15), (16, pq b16), (17, pq b17), (18, pq b18), (19, pq b19)]
         let En : List Ent := [cl b3 (e4 d) 110, cl b4 (pt x1 y1 c1 b1) 53, cl b5 (pt x2 y2 c2 b2) 53, cl b6 pt0 53, cl b7 (e4 u1) 36, cl b8 (e4 u2) 36, cl b9 (e4 u3) 36, cl b10 (e4 v1) 36, cl b11 (e4 v2) 36, cl b12 (e4 v3) 36, cl b13 (e4 a) 36, cl b14 (e4 xx) 36, cl b15 (e4 yy) 36, cl b16 (e4 bq) 36, cl b17 (e4 ee) 36, cl b18 (e4 f) 36, cl b19 (e4 gg) 36]
         let Zr : Array Value := #[.int .u64 0, .int .u64 0, .int .u64 0, .int .u64 0]
         refine drg En [0, 1, 3, 4, 7, 9] 7 qi qq (by kernel_rfl) (by kernel_rfl) (.refl _) (fun T g => ?_)
         have H0 : ∀ (s1 s2 s3 s4 cr b20 : Nat), El (S1) s1 → El (S2) s2 → El (S3) s3 → El (S4) s4 → El (CR) cr → T 0 #[tt,tt,tt,tt,tt,tt,tt,tt,tt,tt,tt,tt,tt] ⟨(20, pq b20) :: Sl, En ++ [cl b20 (e4 cr) 36], []⟩ := by
          intro s1 s2 s3 s4 cr b20 hs1 hs2 hs3 hs4 hcr
          refine g.fin _ _ _ (by kernel_rfl) ?_
          exact ⟨(s1, s2, s3, s4, cr, b20), ⟨hs1, hs2, hs3, hs4, hcr⟩, ⟨rfl, rfl, rfl, rfl, rfl, rfl, rfl, rfl, rfl, rfl, rfl, rfl, rfl, rfl, rfl, rfl, rfl, rfl, trivial⟩, .refl _, rfl⟩
         have H1 : ∀ (s1 s2 s3 s4 cr b20 : Nat), El (S1) s1 → El (S2) s2 → El (S3) s3 → El (S4) s4 → El (CR) cr → T 1 #[tt,tt,tt,tt,tt,tt,tt,tt,tt,tt,tt,tt,ff] ⟨(66, .agg (e4 cr)) :: (20, pq b20) :: Sl, En ++ [cl b20 Zr 36], []⟩ := by
          intro s1 s2 s3 s4 cr b20 hs1 hs2 hs3 hs4 hcr
          refine g.one _ _ _ 12 (by kernel_rfl) (qc _) ?_
          refine sN 17 rfl (by rw [qd]; rfl) (Qe _) ?_ (by kernel_rfl)
          refine ⟨qc _, ?_⟩
          exact g.go (H0 s1 s2 s3 s4 cr b20 hs1 hs2 hs3 hs4 hcr) (qc _) ⟨rfl, rfl, rfl, rfl, rfl, rfl, rfl, rfl, rfl, rfl, rfl, rfl, rfl, rfl, rfl, rfl, rfl, rfl, trivial⟩ ⟨_, .refl _, .refl _⟩ rfl
         have H2 : ∀ (s1 s2 s3 s4 cr : Nat), El (S1) s1 → El (S2) s2 → El (S3) s3 → El (S4) s4 → El (CR) cr → T 2 #[tt,tt,tt,tt,tt,tt,tt,tt,tt,tt,tt,ff,ff] ⟨(66, .agg (e4 cr)) :: Sl, En, []⟩ := by
          intro s1 s2 s3 s4 cr hs1 hs2 hs3 hs4 hcr
          refine g.one _ _ _ 11 (by kernel_rfl) (qc _) ?_
          intro b20
          refine ⟨qc _, ?_⟩
          exact g.go (H1 s1 s2 s3 s4 cr b20 hs1 hs2 hs3 hs4 hcr) (qc _) ⟨rfl, rfl, rfl, rfl, rfl, rfl, rfl, rfl, rfl, rfl, rfl, rfl, rfl, rfl, rfl, rfl, rfl, rfl, rfl, trivial⟩ ⟨_, .refl _, .refl _⟩ rfl
         have H3 : ∀ (s1 s2 s3 s4 b20 : Nat), El (S1) s1 → El (S2) s2 → El (S3) s3 → El (S4) s4 → T 2 #[tt,tt,tt,tt,tt,tt,tt,tt,tt,tt,ff,tt,ff] ⟨(64, .agg (e4 s4)) :: (65, .agg (e4 yy)) :: (20, pq b20) :: Sl, En ++ [cl b20 Zr 36], []⟩ := by
          intro s1 s2 s3 s4 b20 hs1 hs2 hs3 hs4
          refine g.one _ _ _ 10 (by kernel_rfl) (qc _) ?_
          refine ce (fun w _ => Q5 hs4 hyy hCR w) (fun cr hcr => ?_)
          refine ⟨qc _, ?_⟩
          exact g.go (H1 s1 s2 s3 s4 cr b20 hs1 hs2 hs3 hs4 hcr) (qc _) ⟨rfl, rfl, rfl, rfl, rfl, rfl, rfl, rfl, rfl, rfl, rfl, rfl, rfl, rfl, rfl, rfl, rfl, rfl, rfl, trivial⟩ ⟨_, .refl _, .refl _⟩ rfl
         have H4 : ∀ (s1 s2 s3 s4 : Nat), El (S1) s1 → El (S2) s2 → El (S3) s3 → El (S4) s4 → T 3 #[tt,tt,tt,tt,tt,tt,tt,tt,tt,tt,ff,ff,ff] ⟨(64, .agg (e4 s4)) :: (65, .agg (e4 yy)) :: Sl, En, []⟩ := by
          intro s1 s2 s3 s4 hs1 hs2 hs3 hs4
          refine g.two _ _ _ 10 11 (by kernel_rfl) (qc _) ?_ ?_
          · refine ce (fun w _ => Q5 hs4 hyy hCR w) (fun cr hcr => ?_)
            refine ⟨qc _, ?_⟩
            exact g.go (H2 s1 s2 s3 s4 cr hs1 hs2 hs3 hs4 hcr) (qc _) ⟨rfl, rfl, rfl, rfl, rfl, rfl, rfl, rfl, rfl, rfl, rfl, rfl, rfl, rfl, rfl, rfl, rfl, rfl, trivial⟩ ⟨_, .refl _, .refl _⟩ rfl
          · intro b20
            refine ⟨qc _, ?_⟩
            exact g.go (H3 s1 s2 s3 s4 b20 hs1 hs2 hs3 hs4) (qc _) ⟨rfl, rfl, rfl, rfl, rfl, rfl, rfl, rfl, rfl, rfl, rfl, rfl, rfl, rfl, rfl, rfl, rfl, rfl, rfl, rfl, trivial⟩ ⟨_, .refl _, .refl _⟩ rfl
         have H5 : ∀ (s1 s2 s3 b20 : Nat), El (S1) s1 → El (S2) s2 → El (S3) s3 → T 3 #[tt,tt,tt,tt,tt,tt,tt,tt,ff,tt,ff,tt,ff] ⟨(62, .agg (e4 s3)) :: (63, .agg (e4 xx)) :: (65, .agg (e4 yy)) :: (20, pq b20) :: Sl, En ++ [cl b20 Zr 36], []⟩ := by
          intro s1 s2 s3 b20 hs1 hs2 hs3
          refine g.one _ _ _ 8 (by kernel_rfl) (qc _) ?_
          refine ce (fun w _ => Q5 hs3 hxx hS4 w) (fun s4 hs4 => ?_)
          refine ⟨qc _, ?_⟩
          exact g.go (H3 s1 s2 s3 s4 b20 hs1 hs2 hs3 hs4) (qc _) ⟨rfl, rfl, rfl, rfl, rfl, rfl, rfl, rfl, rfl, rfl, rfl, rfl, rfl, rfl, rfl, rfl, rfl, rfl, rfl, rfl, trivial⟩ ⟨_, .refl _, .refl _⟩ rfl
         have H6 : ∀ (s1 s2 s3 : Nat), El (S1) s1 → El (S2) s2 → El (S3) s3 → T 4 #[tt,tt,tt,tt,tt,tt,tt,tt,ff,tt,ff,ff,ff] ⟨(62, .agg (e4 s3)) :: (63, .agg (e4 xx)) :: (65, .agg (e4 yy)) :: Sl, En, []⟩ := by
          intro s1 s2 s3 hs1 hs2 hs3
          refine g.two _ _ _ 8 11 (by kernel_rfl) (qc _) ?_ ?_
          · refine ce (fun w _ => Q5 hs3 hxx hS4 w) (fun s4 hs4 => ?_)
            refine ⟨qc _, ?_⟩
            exact g.go (H4 s1 s2 s3 s4 hs1 hs2 hs3 hs4) (qc _) ⟨rfl, rfl, rfl, rfl, rfl, rfl, rfl, rfl, rfl, rfl, rfl, rfl, rfl, rfl, rfl, rfl, rfl, rfl, rfl, trivial⟩ ⟨_, .refl _, .refl _⟩ rfl
          · intro b20
            refine ⟨qc _, ?_⟩
            exact g.go (H5 s1 s2 s3 b20 hs1 hs2 hs3) (qc _) ⟨rfl, rfl, rfl, rfl, rfl, rfl, rfl, rfl, rfl, rfl, rfl, rfl, rfl, rfl, rfl, rfl, rfl, rfl, rfl, rfl, rfl, trivial⟩ ⟨_, .refl _, .refl _⟩ rfl
         have H7 : ∀ (s1 s2 b20 : Nat), El (S1) s1 → El (S2) s2 → T 4 #[tt,tt,tt,tt,tt,tt,ff,tt,ff,tt,ff,tt,ff] ⟨(58, .agg (e4 s1)) :: (61, .agg (e4 s2)) :: (63, .agg (e4 xx)) :: (65, .agg (e4 yy)) :: (20, pq b20) :: Sl, En ++ [cl b20 Zr 36], []⟩ := by
          intro s1 s2 b20 hs1 hs2
          refine g.one _ _ _ 6 (by kernel_rfl) (qc _) ?_
          refine ce (fun w _ => qG hs1 hs2 hS3 w) (fun s3 hs3 => ?_)
          refine ⟨qc _, ?_⟩
          exact g.go (H5 s1 s2 s3 b20 hs1 hs2 hs3) (qc _) ⟨rfl, rfl, rfl, rfl, rfl, rfl, rfl, rfl, rfl, rfl, rfl, rfl, rfl, rfl, rfl, rfl, rfl, rfl, rfl, rfl, rfl, trivial⟩ ⟨_, .refl _, .refl _⟩ rfl
         have H8 : ∀ (s1 s2 : Nat), El (S1) s1 → El (S2) s2 → T 5 #[tt,tt,tt,tt,tt,tt,ff,tt,ff,tt,ff,ff,ff] ⟨(58, .agg (e4 s1)) :: (61, .agg (e4 s2)) :: (63, .agg (e4 xx)) :: (65, .agg (e4 yy)) :: Sl, En, []⟩ := by
          intro s1 s2 hs1 hs2
          refine g.two _ _ _ 6 11 (by kernel_rfl) (qc _) ?_ ?_
          · refine ce (fun w _ => qG hs1 hs2 hS3 w) (fun s3 hs3 => ?_)
            refine ⟨qc _, ?_⟩
            exact g.go (H6 s1 s2 s3 hs1 hs2 hs3) (qc _) ⟨rfl, rfl, rfl, rfl, rfl, rfl, rfl, rfl, rfl, rfl, rfl, rfl, rfl, rfl, rfl, rfl, rfl, rfl, rfl, rfl, trivial⟩ ⟨_, .refl _, .refl _⟩ rfl
          · intro b20
            refine ⟨qc _, ?_⟩
            exact g.go (H7 s1 s2 b20 hs1 hs2) (qc _) ⟨rfl, rfl, rfl, rfl, rfl, rfl, rfl, rfl, rfl, rfl, rfl, rfl, rfl, rfl, rfl, rfl, rfl, rfl, rfl, rfl, rfl, rfl, trivial⟩ ⟨_, .refl _, .refl _⟩ rfl
         have H9 : ∀ (s1 b20 : Nat), El (S1) s1 → T 5 #[tt,tt,tt,tt,tt,ff,ff,tt,ff,tt,ff,tt,ff] ⟨(58, .agg (e4 s1)) :: (59, .agg (e4 v1)) :: (60, .agg (e4 v2)) :: (63, .agg (e4 xx)) :: (65, .agg (e4 yy)) :: (20, pq b20) :: Sl, En ++ [cl b20 Zr 36], []⟩ := by
          intro s1 b20 hs1
          refine g.one _ _ _ 5 (by kernel_rfl) (qc _) ?_
          refine ce (fun w _ => QR hv1 hv2 hS2 w) (fun s2 hs2 => ?_)
          refine ⟨qc _, ?_⟩
          exact g.go (H7 s1 s2 b20 hs1 hs2) (qc _) ⟨rfl, rfl, rfl, rfl, rfl, rfl, rfl, rfl, rfl, rfl, rfl, rfl, rfl, rfl, rfl, rfl, rfl, rfl, rfl, rfl, rfl, rfl, trivial⟩ ⟨_, .refl _, .refl _⟩ rfl
         have H10 : ∀ (s1 : Nat), El (S1) s1 → T 6 #[tt,tt,tt,tt,tt,ff,ff,tt,ff,tt,ff,ff,ff] ⟨(58, .agg (e4 s1)) :: (59, .agg (e4 v1)) :: (60, .agg (e4 v2)) :: (63, .agg (e4 xx)) :: (65, .agg (e4 yy)) :: Sl, En, []⟩ := by
          intro s1 hs1
          refine g.two _ _ _ 5 11 (by kernel_rfl) (qc _) ?_ ?_
          · refine ce (fun w _ => QR hv1 hv2 hS2 w) (fun s2 hs2 => ?_)
            refine ⟨qc _, ?_⟩
            exact g.go (H8 s1 s2 hs1 hs2) (qc _) ⟨rfl, rfl, rfl, rfl, rfl, rfl, rfl, rfl, rfl, rfl, rfl, rfl, rfl, rfl, rfl, rfl, rfl, rfl, rfl, rfl, rfl, trivial⟩ ⟨_, .refl _, .refl _⟩ rfl
          · intro b20
            refine ⟨qc _, ?_⟩
            exact g.go (H9 s1 b20 hs1) (qc _) ⟨rfl, rfl, rfl, rfl, rfl, rfl, rfl, rfl, rfl, rfl, rfl, rfl, rfl, rfl, rfl, rfl, rfl, rfl, rfl, rfl, rfl, rfl, rfl, trivial⟩ ⟨_, .refl _, .refl _⟩ rfl
         have H11 : ∀ (b20 : Nat), T 6 #[tt,tt,ff,tt,tt,ff,ff,tt,ff,tt,ff,tt,ff] ⟨(56, .agg (e4 u1)) :: (57, .agg (e4 u2)) :: (59, .agg (e4 v1)) :: (60, .agg (e4 v2)) :: (63, .agg (e4 xx)) :: (65, .agg (e4 yy)) :: (20, pq b20) :: Sl, En ++ [cl b20 Zr 36], []⟩ := by
          intro b20
          refine g.one _ _ _ 2 (by kernel_rfl) (qc _) ?_
          refine ce (fun w _ => QR hu1 hu2 hS1 w) (fun s1 hs1 => ?_)
          refine ⟨qc _, ?_⟩
          exact g.go (H9 s1 b20 hs1) (qc _) ⟨rfl, rfl, rfl, rfl, rfl, rfl, rfl, rfl, rfl, rfl, rfl, rfl, rfl, rfl, rfl, rfl, rfl, rfl, rfl, rfl, rfl, rfl, rfl, trivial⟩ ⟨_, .refl _, .refl _⟩ rfl
         have H : T 7 #[tt,tt,ff,tt,tt,ff,ff,tt,ff,tt,ff,ff,ff] ⟨(56, .agg (e4 u1)) :: (57, .agg (e4 u2)) :: (59, .agg (e4 v1)) :: (60, .agg (e4 v2)) :: (63, .agg (e4 xx)) :: (65, .agg (e4 yy)) :: Sl, En, []⟩ := by
          refine g.two _ _ _ 2 11 (by kernel_rfl) (qc _) ?_ ?_
          · refine ce (fun w _ => QR hu1 hu2 hS1 w) (fun s1 hs1 => ?_)
            refine ⟨qc _, ?_⟩
            exact g.go (H10 s1 hs1) (qc _) ⟨rfl, rfl, rfl, rfl, rfl, rfl, rfl, rfl, rfl, rfl, rfl, rfl, rfl, rfl, rfl, rfl, rfl, rfl, rfl, rfl, rfl, rfl, trivial⟩ ⟨_, .refl _, .refl _⟩ rfl
          · intro b20
            refine ⟨qc _, ?_⟩
            exact g.go (H11 b20) (qc _) ⟨rfl, rfl, rfl, rfl, rfl, rfl, rfl, rfl, rfl, rfl, rfl, rfl, rfl, rfl, rfl, rfl, rfl, rfl, rfl, rfl, rfl, rfl, rfl, rfl, trivial⟩ ⟨_, .refl _, .refl _⟩ rfl
         refine ldN 4 rfl (qd _) ?_
         refine ldN 5 rfl (qd _) ?_
         refine ldN 7 rfl (qd _) ?_
         refine ldN 8 rfl (qd _) ?_
         refine ldN 11 rfl (qd _) ?_
         refine ldN 12 rfl (qd _) ?_
         exact g.go H (qc _) ⟨rfl, rfl, rfl, rfl, rfl, rfl, rfl, rfl, rfl, rfl, rfl, rfl, rfl, rfl, rfl, rfl, rfl, rfl, rfl, rfl, rfl, rfl, rfl, trivial⟩ ⟨_, .refl _, .refl _⟩ rfl
       · rintro ⟨s1, s2, s3, s4, cr, b20⟩ ⟨hs1, hs2, hs3, hs4, hcr⟩
         have hK : Sub [cl b3 (e4 d) 110, cl b4 (pt x1 y1 c1 b1) 53, cl b5 (pt x2 y2 c2 b2) 53, dead, cl b7 (e4 u1) 36, cl b8 (e4 u2) 36, cl b9 (e4 u3) 36, cl b10 (e4 v1) 36, cl b11 (e4 v2) 36, cl b12 (e4 v3) 36, cl b13 (e4 a) 36, cl b14 (e4 xx) 36, cl b15 (e4 yy) 36, cl b16 (e4 bq) 36, cl b17 (e4 ee) 36, cl b18 (e4 f) 36, cl b19 (e4 gg) 36, cl b20 (e4 cr) 36] [cl b3 (e4 d) 110, cl b4 (pt x1 y1 c1 b1) 53, cl b5 (pt x2 y2 c2 b2) 53, cl b6 pt0 53, cl b7 (e4 u1) 36, cl b8 (e4 u2) 36, cl b9 (e4 u3) 36, cl b10 (e4 v1) 36, cl b11 (e4 v2) 36, cl b12 (e4 v3) 36, cl b13 (e4 a) 36, cl b14 (e4 xx) 36, cl b15 (e4 yy) 36, cl b16 (e4 bq) 36, cl b17 (e4 ee) 36, cl b18 (e4 f) 36, cl b19 (e4 gg) 36, cl b20 (e4 cr) 36] := (.cons (.cons (.cons (.dead (.cons (.cons (.cons (.cons (.cons (.cons (.cons (.cons (.cons (.cons (.cons (.cons (.cons (.cons .nil))))))))))))))))))
         refine drs [cl b3 (e4 d) 110, cl b4 (pt x1 y1 c1 b1) 53, cl b5 (pt x2 y2 c2 b2) 53, dead, cl b7 (e4 u1) 36, cl b8 (e4 u2) 36, cl b9 (e4 u3) 36, cl b10 (e4 v1) 36, cl b11 (e4 v2) 36, cl b12 (e4 v3) 36, cl b13 (e4 a) 36, cl b14 (e4 xx) 36, cl b15 (e4 yy) 36, cl b16 (e4 bq) 36, cl b17 (e4 ee) 36, cl b18 (e4 f) 36, cl b19 (e4 gg) 36, cl b20 (e4 cr) 36] [16] (.t 0 (.t 1 (.t 3 (.t 5 (.t 6 (.t 8 (.t 9 (.t 12 (.t 13 (.n 2 (.n 4 (.n 7 (.n 10 (.n 11 (.n 14 (.n 15 (.n 16 .nil))))))))))))))))) qi qq (by kernel_rfl) hK ?_
         refine ldN 10 rfl (qd _) ?_
         refine ldN 15 rfl (qd _) ?_
         refine ldN 17 rfl (qd _) ?_
         refine ldN 10 rfl (qd _) ?_
         refine ldN 16 rfl (qd _) ?_
         refine ldN 12 rfl (qd _) ?_
         refine ldN 11 rfl (qd _) ?_
         refine ldN 15 rfl (qd _) ?_
         refine ldN 16 rfl (qd _) ?_
         refine ce (fun w _ => qG ha hf hT1 w) (fun t1 ht1 => ?_)
         refine ⟨hK, ?_⟩
         refine ce (fun w _ => qG ht1 hcr hX3 w) (fun x3 hx3 => ?_)
         refine ⟨hK, ?_⟩
         refine ce (fun w _ => qG ha hgg hT2 w) (fun t2 ht2 => ?_)
         refine ⟨hK, ?_⟩
         refine ce (fun w _ => QR hyy hxx hT3 w) (fun t3 ht3 => ?_)
         refine ⟨hK, ?_⟩
         refine ce (fun w _ => qG ht2 ht3 hY3 w) (fun y3 hy3 => ?_)
         refine ⟨hK, ?_⟩
         refine ce (fun w _ => qG hf hgg hZ3 w) (fun z3 hz3 => ?_)
         refine ⟨hK, ?_⟩
         refine ce (fun w _ => el_made hx3 hy3 hz3 w) (fun r hr => ?_)
         refine ⟨hK, ?_⟩
         refine sN 3 rfl (by rw [qs]; rfl) (by rw [Array.all_toList]; exact QK _ _ _ _) ?_ (by kernel_rfl)
         refine ldN 3 rfl (qs _ _ _ _) ?_
         exact ⟨fun w1 hs => ⟨_, _, _, _, hr, rfl, hs.below⟩⟩
end
section
instance : NeZero PP := ⟨by have := QB; omega⟩
def fi (a : Nat) : Fin PP := Fin.ofNat PP a
theorem Zy (a b : Nat) : fi a = fi b ↔ a % PP = b % PP := by
 unfold fi
 constructor
 · intro h; exact congrArg Fin.val h
 · intro h; exact Fin.ext h
theorem Qu (a : Nat) : fi (a % PP) = fi a := (Zy _ _).2 (Nat.mod_mod _ _)
theorem Qi (a b : Nat) : fi (a * b) = fi a * fi b := by
 apply Fin.ext
 show a * b % PP = (a % PP) * (b % PP) % PP
 exact Nat.mul_mod _ _ _
theorem zS (a b : Nat) : fi (a + b) = fi a + fi b := by
 apply Fin.ext
 show (a + b) % PP = ((a % PP) + (b % PP)) % PP
 exact Nat.add_mod _ _ _
theorem zZ : fi 0 = 0 := rfl
theorem zn : fi 1 = 1 := rfl
theorem fi_PP : fi PP = 0 := (Zy PP 0).2 (by rw [Nat.mod_self, Nat.zero_mod])
theorem qbc (b : Nat) : fi (PP - b % PP) = - fi b := by
 have hb : b % PP ≤ PP := Nat.le_of_lt (Nat.mod_lt _ qH)
 have h : fi (PP - b % PP) + fi b = 0 := by
  rw [← Qu b, ← zS, Nat.sub_add_cancel hb, fi_PP]
 grind
theorem QZ (a : Fin PP) : fi a.val = a := Fin.ext (Nat.mod_eq_of_lt a.isLt)
theorem fi_ne (a : Nat) (h : a % PP ≠ 0) : fi a ≠ 0 := by
 rw [← zZ]
 intro h2
 exact h (((Zy _ _).1 h2).trans (Nat.zero_mod _))
theorem fi_ne0 (a : Nat) (h : fi a ≠ 0) : a % PP ≠ 0 := by
 intro h2
 apply h
 rw [← zZ]
 exact (Zy _ _).2 (h2.trans (Nat.zero_mod _).symm)
def qP (a : Fin PP) : Fin PP := fi (pwm a.val (PP - 2))
def fd : Fin PP := fi SL
def fI : Fin PP := fi rti
theorem sl_e : (PP - 1) / 2 < 2 ^ 256 := by decide +kernel
theorem sl_pm : Nm.pm PP 256 SL ((PP - 1) / 2) = PP - 1 := by decide +kernel
theorem chi_SL : chi SL = PP - 1 := by
 unfold chi; rw [qbT _ _ sl_e, sl_pm]
theorem chi_sqr (s : Nat) (h : s % PP ≠ 0) : chi (s * s) = 1 := by rw [chi_mul]; exact chi_sq s h
theorem SL_ne : SL % PP ≠ 0 := by decide +kernel
theorem non_sq (s t : Nat) (h : s * s % PP = SL * (t * t) % PP) : t % PP = 0 := by
 by_cases ht : t % PP = 0
 · exact ht
 · exfalso
   have h1 : (1 : Nat) < PP := by have := QB; omega
   by_cases hs : s % PP = 0
   · rw [Nat.mul_mod, hs, Nat.zero_mul, Nat.zero_mod] at h
     rcases qbx _ _ h.symm with h | h
     · exact SL_ne h
     · rcases qbx _ _ h with h | h <;> exact ht h
   · have e1 := chi_sqr s hs
     have e2 := chi_sqr t ht
     have e3 : chi (SL * (t * t)) = PP - 1 := by
      rw [chi_mul, e2, chi_SL, Nat.mul_one, Nat.mod_eq_of_lt (show PP - 1 < PP by omega)]
     have e4 : chi (s * s) = chi (SL * (t * t)) := by rw [← chi_mod (s * s), h, chi_mod]
     rw [e1, e3] at e4
     have := QB
     omega
theorem fld : Fld PP fd fI qP where
 dom := by
  intro a b h
  rw [← QZ a, ← QZ b, ← Qi, ← zZ] at h
  have h2 := ((Zy _ _).1 h).trans (Nat.zero_mod _)
  rcases qbx _ _ h2 with h3 | h3
  · left; rw [← QZ a, ← zZ]; exact (Zy _ _).2 (h3.trans (Nat.zero_mod _).symm)
  · right; rw [← QZ b, ← zZ]; exact (Zy _ _).2 (h3.trans (Nat.zero_mod _).symm)
 one := by
  rw [← zn]; exact fi_ne 1 (by rw [ZC]; decide)
 two := by
  rw [← zn, ← zS]
  exact fi_ne 2 (by have := QB; rw [Nat.mod_eq_of_lt (by omega)]; decide)
 root := by
  have h : fi (rti * rti) = fi (PP - 1 % PP) := (Zy _ _).2 (by rw [rti_sq, ZC, Nat.mod_eq_of_lt (by have := QB; omega)])
  rw [Qi, qbc, zn] at h
  exact h
 non := by
  intro s t h
  rw [← QZ s, ← QZ t] at h
  unfold fd at h
  rw [← Qi, ← Qi, ← Qi] at h
  have h2 := non_sq _ _ ((Zy _ _).1 h)
  rw [← QZ t, ← zZ]; exact (Zy _ _).2 (h2.trans (Nat.zero_mod _).symm)
 inv := by
  intro a ha
  have h0 : a.val % PP ≠ 0 := fi_ne0 _ (by rw [QZ]; exact ha)
  have h1 := over_undoes 1 a.val h0
  rw [Nat.one_mul] at h1
  unfold qP
  rw [← zn, ← QZ a, QZ a, ← QZ a, QZ a]
  have h2 : fi (a.val * pwm a.val (PP - 2)) = fi 1 := (Zy _ _).2 (by rw [Nat.mul_comm]; rw [Nat.mod_mul_mod] at h1; exact h1)
  rw [Qi, QZ] at h2
  exact h2
def Rep (X Y Z : Nat) (p : Fin PP × Fin PP) : Prop := fi X = p.1 * fi Z ∧ fi Y = p.2 * fi Z ∧ fi Z ≠ 0 ∧ OnP fd p
theorem qbt (X1 Y1 Z1 X2 Y2 Z2 : Nat) (p q : Fin PP × Fin PP) (hp : Rep X1 Y1 Z1 p) (hq : Rep X2 Y2 Z2 q) :
 Rep (ZX SL X1 Y1 Z1 X2 Y2 Z2).1 (ZX SL X1 Y1 Z1 X2 Y2 Z2).2.1 (ZX SL X1 Y1 Z1 X2 Y2 Z2).2.2 (QH qP fd p q) := by
 obtain ⟨x1, y1, z1, o1⟩ := hp
 obtain ⟨x2, y2, z2, o2⟩ := hq
 have ex := fld.sx_eq p.1 p.2 q.1 q.2 o1 o2
 have ey := fld.sy_eq p.1 p.2 q.1 q.2 o1 o2
 have np := fld.plus_ne p.1 p.2 q.1 q.2 o1 o2
 have nm := fld.minus_ne p.1 p.2 q.1 q.2 o1 o2
 have hA : fi Z1 * fi Z2 ≠ 0 := fld.mul_ne z1 z2
 have ho := fld.on_add p q o1 o2
 have eF : fi (((Z1 * Z2 % PP) * (Z1 * Z2 % PP) % PP + (PP - SL * (X1 * X2 % PP) % PP * (Y1 * Y2 % PP) % PP)) % PP) = fi Z1 * fi Z2 * (fi Z1 * fi Z2) * (1 - fd * p.1 * q.1 * p.2 * q.2) := by
  simp only [Qu, qbc, Qi, zS]
  rw [x1, x2, y1, y2]
  show _ + -(fd * _ * _) = _
  grind
 have eG : fi (((Z1 * Z2 % PP) * (Z1 * Z2 % PP) % PP + SL * (X1 * X2 % PP) % PP * (Y1 * Y2 % PP) % PP) % PP) = fi Z1 * fi Z2 * (fi Z1 * fi Z2) * (1 + fd * p.1 * q.1 * p.2 * q.2) := by
  simp only [Qu, Qi, zS]
  rw [x1, x2, y1, y2]
  show _ + fd * _ * _ = _
  grind
 have eC : fi ((((X1 + Y1) % PP * ((X2 + Y2) % PP) % PP + (PP - X1 * X2 % PP)) % PP + (PP - Y1 * Y2 % PP)) % PP) = fi Z1 * fi Z2 * (p.1 * q.2 + q.1 * p.2) := by
  simp only [Qu, qbc, Qi, zS]
  rw [x1, x2, y1, y2]
  grind
 have eD : fi ((Y1 * Y2 % PP + X1 * X2 % PP) % PP) = fi Z1 * fi Z2 * (p.2 * q.2 + p.1 * q.1) := by
  simp only [Qu, Qi, zS]
  rw [x1, x2, y1, y2]
  grind
 unfold Rep QH
 unfold ZX
 refine ⟨?_, ?_, ?_, ho⟩
 · show fi (_ * _ % PP) = sx qP fd p.1 p.2 q.1 q.2 * fi (_ * _ % PP)
   simp only [Qu, Qi] at eF eG eC eD ⊢
   rw [eF, eG, eC, ← ex]
   grind
 · show fi (_ * _ % PP) = sy qP fd p.1 p.2 q.1 q.2 * fi (_ * _ % PP)
   simp only [Qu, Qi] at eF eG eC eD ⊢
   rw [eF, eG, eD, ← ey]
   grind
 · show fi (_ * _ % PP) ≠ 0
   rw [Qu, Qi, eF, eG]
   exact fld.mul_ne (fld.mul_ne (fld.mul_ne hA hA) nm) (fld.mul_ne (fld.mul_ne hA hA) np)
end
section
open Go.RowKit Go.Lib
theorem pplus_any (x1 y1 c1 : Nat) (b1 : Bool) (X1 Y1 Z1 : Nat) (p1 : qag x1 y1 c1 b1 X1 Y1 Z1) (x2 y2 c2 : Nat) (b2 : Bool) (X2 Y2 Z2 : Nat) (p2 : qag x2 y2 c2 b2 X2 Y2 Z2) (w : World) :
 Calls Try.prog 51 #[.agg (pt x1 y1 c1 b1), .agg (pt x2 y2 c2 b2)] w (PtP (ZX SL X1 Y1 Z1 X2 Y2 Z2).1 (ZX SL X1 Y1 Z1 X2 Y2 Z2).2.1 (ZX SL X1 Y1 Z1 X2 Y2 Z2).2.2 w) := by
 have hadd := fun d hd hr w => add_of d SL hd hr x1 y1 c1 b1 X1 Y1 Z1 p1 x2 y2 c2 b2 X2 Y2 Z2 p2 w
 obtain ⟨R, hR⟩ : ∃ R, R = ZX SL X1 Y1 Z1 X2 Y2 Z2 := ⟨_, rfl⟩
 rw [← hR] at hadd ⊢
 clear hR p1 p2
 have Hadd := Lib.hid hadd; clear hadd
 go_enter Try.func51, Try.ntmps51
 repeat ((fail_if_success (with_reducible (show wpList _ _ _ _ _ _))); go_step)
 iterate 3 (refine wpList_step (fun K hK => ?_); go_simp; (try go_bits); refine hK _ _ ?_; clear hK K)
 refine wpList_nil ?_
 have M2 := Lib.hid (((Has.new w  (pt x1 y1 c1 b1) 53).alloc (.cells (pt x2 y2 c2 b2) 53)).alloc (.cells (#[.int .u64 0, .int .u64 0, .int .u64 0, .int .u64 0, .int .u64 0, .int .u64 0, .int .u64 0, .int .u64 0, .int .u64 0, .int .u64 0, .int .u64 0, .int .u64 0, .bool false] : Array Value) 53))
 have M3 := Lib.hid ((Has.new1 w (.cells (pt x1 y1 c1 b1) 53) (pt x2 y2 c2 b2) 53).alloc (.cells (#[.int .u64 0, .int .u64 0, .int .u64 0, .int .u64 0, .int .u64 0, .int .u64 0, .int .u64 0, .int .u64 0, .int .u64 0, .int .u64 0, .int .u64 0, .int .u64 0, .bool false] : Array Value) 53))
 have M4 := Lib.hid (HasN.new2 w (.cells (pt x1 y1 c1 b1) 53) (.cells (pt x2 y2 c2 b2) 53) (#[.int .u64 0, .int .u64 0, .int .u64 0, .int .u64 0, .int .u64 0, .int .u64 0, .int .u64 0, .int .u64 0, .int .u64 0, .int .u64 0, .int .u64 0, .int .u64 0, .bool false] : Array Value) 53 13 (by kernel_rfl))
 have HB := Lib.hid (QD w (.cells (pt x1 y1 c1 b1) 53) (.cells (pt x2 y2 c2 b2) 53) (.cells (#[.int .u64 0, .int .u64 0, .int .u64 0, .int .u64 0, .int .u64 0, .int .u64 0, .int .u64 0, .int .u64 0, .int .u64 0, .int .u64 0, .int .u64 0, .int .u64 0, .bool false] : Array Value) 53))
 obtain ⟨yw1, hwyw1⟩ : ∃ ww, ww = (((w.alloc (.cells (pt x1 y1 c1 b1) 53)).alloc (.cells (pt x2 y2 c2 b2) 53)).alloc (.cells (#[.int .u64 0, .int .u64 0, .int .u64 0, .int .u64 0, .int .u64 0, .int .u64 0, .int .u64 0, .int .u64 0, .int .u64 0, .int .u64 0, .int .u64 0, .int .u64 0, .bool false] : Array Value) 53)) := ⟨_, rfl⟩
 rw [← hwyw1] at M2 M3 M4 HB ⊢
 clear hwyw1
 repeat ((fail_if_success (with_reducible (show wpList _ _ _ _ _ _))); go_step)
 refine wp_region_noPanic ?_
 refine Qm 4 5 #[ff,ff,ff,ff,ff] (by kernel_rfl) rfl rfl ?_
 intro W2 hW2
 rw [← hW2] at M2 M3 M4 HB
 clear hW2
 have M4N := Lib.hid (by first | exact M4.out | exact M4.out.toN (by first | exact qd _ | exact qe _ | exact qf _ | exact qs .. | exact qA ..) : HasN W2 (w.heap.size + 1 + 1) _ _)
 refine qg 1 6 #[ff,tt,ff,ff,ff] rfl rfl rfl (by kernel_rfl) (qj (by rfl) 53 _ rfl (w.heap.size) rfl 53 (pt x1 y1 c1 b1) (fun _ h => M2.out.below h M2.out.lt) Try.underlying53 rfl (by rw [qs]; kernel_rfl)) ((qt W2)) ?_
 (try simp only [sI, sS, sZ])
 refine qg 2 7 #[ff,tt,tt,ff,ff] rfl rfl rfl (by kernel_rfl) (qj (by rfl) 53 _ rfl (w.heap.size + 1) rfl 53 (pt x2 y2 c2 b2) (fun _ h => M3.out.below h M3.out.lt) Try.underlying53 rfl (by rw [qs]; kernel_rfl)) ((qt W2)) ?_
 (try simp only [sI, sS, sZ])
 refine qk (i := 0) (by kernel_rfl) ?_
 refine qE 0 5 #[tt,tt,tt,ff,ff] rfl rfl rfl (by rfl) rfl rfl (by rfl) ent91 (by rfl) (qbN _) ?_
 rintro e wW21 ⟨d, hd, hdr, rfl, hb⟩
 have hkW21 := qh (qt W2) hb
 refine ⟨_, rfl, fun _ => hkW21, ?_⟩
 clear hb
 (try simp only [sI, sS, sZ])
 refine qk (i := 3) (by kernel_rfl) ?_
 refine qE 3 8 #[tt,tt,tt,tt,ff] rfl rfl rfl (by rfl) rfl rfl (by rfl) qdQ (by rfl) (Hadd.out d hd hdr _) ?_
 rintro e wW22 ⟨px, py, pz, pb, hpt, rfl, hb⟩
 have hkW22 := qh hkW21 hb
 refine ⟨_, rfl, fun _ => hkW22, ?_⟩
 clear hb
 (try simp only [sI, sS, sZ])
 refine qk (i := 4) (by kernel_rfl) ?_
 obtain ⟨Zq, hZ, mZ⟩ := M4N.out.below hkW22 M4N.out.lt
 have MZ := Lib.hid mZ; clear mZ
 have HZ := Lib.hid hZ; clear hZ
 refine ZM 4 #[tt,tt,tt,tt,tt] rfl rfl rfl (by rfl) 53 _ _ rfl (w.heap.size + 1 + 1) _ rfl rfl 53 Zq MZ.out (by rw [qs]; kernel_rfl) (HZ.out.trans (qs ..).symm) (QK _ _ _ _) ⟨fun h => (h rfl).elim, ?_⟩
 (try simp only [sI, sS, sZ])
 refine qu (by kernel_rfl) (NoPanic.normal ?_)
 replace M2 := Lib.hid ((M2.out.call hkW22).setRow_other (w.heap.size + 1 + 1) (pt px py pz pb) (by omega))
 replace M3 := Lib.hid ((M3.out.call hkW22).setRow_other (w.heap.size + 1 + 1) (pt px py pz pb) (by omega))
 clear M4 M4N
 have M4 := Lib.hid (MZ.out.setRow (pt px py pz pb)); clear MZ HZ
 replace HB := Lib.hid (below_setRow (qh HB.out hkW22) (w.heap.size + 1 + 1) (pt px py pz pb) (by omega))
 obtain ⟨yw3, hwyw3⟩ : ∃ ww, ww = wW22.setRow (w.heap.size + 1 + 1) (pt px py pz pb) := ⟨_, rfl⟩
 rw [← hwyw3] at M2 M3 M4 HB ⊢
 clear hwyw3
 go_wp2_with fail
 exact bodyPost_ret (v := .agg (pt px py pz pb)) (results_cell_row (t := 53) (by rfl) _ _ (w.heap.size + 1 + 1) _ _ _ rfl M4.out Try.underlying53 rfl (by rw [qs]; kernel_rfl)) rfl ⟨px, py, pz, pb, hpt, rfl, HB.out⟩
def qbY (X : Nat) : Nat := (0 % PP + (PP - X)) % PP
theorem pminus_any (x1 y1 c1 : Nat) (b1 : Bool) (X1 Y1 Z1 : Nat) (p1 : qag x1 y1 c1 b1 X1 Y1 Z1) (x2 y2 c2 : Nat) (b2 : Bool) (X2 Y2 Z2 : Nat) (p2 : qag x2 y2 c2 b2 X2 Y2 Z2) (w : World) :
 Calls Try.prog 53 #[.agg (pt x1 y1 c1 b1), .agg (pt x2 y2 c2 b2)] w (PtP (ZX SL X1 Y1 Z1 (qbY X2) Y2 Z2).1 (ZX SL X1 Y1 Z1 (qbY X2) Y2 Z2).2.1 (ZX SL X1 Y1 Z1 (qbY X2) Y2 Z2).2.2 w) := by
 have hpl := fun w => qbU x2 y2 c2 b2 X2 Y2 Z2 p2 w
 have hplus := fun x y z b h w => pplus_any x1 y1 c1 b1 X1 Y1 Z1 p1 x y z b (qbY X2) Y2 Z2 h w
 have hmi := zE
 have hmd := made_any
 obtain ⟨NX, hNX⟩ : ∃ n, n = qbY X2 := ⟨_, rfl⟩
 rw [← hNX] at hplus ⊢
 have hnx : ∀ m u, u % PP = X2 → m % PP = (0 % PP + (PP - u % PP)) % PP → m % PP = NX := by
  intro m u h1 h2; rw [hNX, h2, h1]; rfl
 obtain ⟨R, hR⟩ : ∃ R, R = ZX SL X1 Y1 Z1 NX Y2 Z2 := ⟨_, rfl⟩
 rw [← hR] at hplus ⊢
 clear hR hNX p1 p2
 have Hpl := Lib.hid hpl; clear hpl
 have Hplus := Lib.hid hplus; clear hplus
 have Hmi := Lib.hid hmi; clear hmi
 have Hmd := Lib.hid hmd; clear hmd
 have Hnx := Lib.hid hnx; clear hnx
 go_enter Try.func53, Try.ntmps53
 repeat ((fail_if_success (with_reducible (show wpList _ _ _ _ _ _))); go_step)
 iterate 3 (refine wpList_step (fun K hK => ?_); go_simp; (try go_bits); refine hK _ _ ?_; clear hK K)
 refine wpList_nil ?_
 have M2 := Lib.hid (((Has.new w  (pt x1 y1 c1 b1) 53).alloc (.cells (pt x2 y2 c2 b2) 53)).alloc (.cells (#[.int .u64 0, .int .u64 0, .int .u64 0, .int .u64 0, .int .u64 0, .int .u64 0, .int .u64 0, .int .u64 0, .int .u64 0, .int .u64 0, .int .u64 0, .int .u64 0, .bool false] : Array Value) 53))
 have M3 := Lib.hid ((Has.new1 w (.cells (pt x1 y1 c1 b1) 53) (pt x2 y2 c2 b2) 53).alloc (.cells (#[.int .u64 0, .int .u64 0, .int .u64 0, .int .u64 0, .int .u64 0, .int .u64 0, .int .u64 0, .int .u64 0, .int .u64 0, .int .u64 0, .int .u64 0, .int .u64 0, .bool false] : Array Value) 53))
 have M4 := Lib.hid (HasN.new2 w (.cells (pt x1 y1 c1 b1) 53) (.cells (pt x2 y2 c2 b2) 53) (#[.int .u64 0, .int .u64 0, .int .u64 0, .int .u64 0, .int .u64 0, .int .u64 0, .int .u64 0, .int .u64 0, .int .u64 0, .int .u64 0, .int .u64 0, .int .u64 0, .bool false] : Array Value) 53 13 (by kernel_rfl))
 have HB := Lib.hid (QD w (.cells (pt x1 y1 c1 b1) 53) (.cells (pt x2 y2 c2 b2) 53) (.cells (#[.int .u64 0, .int .u64 0, .int .u64 0, .int .u64 0, .int .u64 0, .int .u64 0, .int .u64 0, .int .u64 0, .int .u64 0, .int .u64 0, .int .u64 0, .int .u64 0, .bool false] : Array Value) 53))
 obtain ⟨yw1, hwyw1⟩ : ∃ ww, ww = (((w.alloc (.cells (pt x1 y1 c1 b1) 53)).alloc (.cells (pt x2 y2 c2 b2) 53)).alloc (.cells (#[.int .u64 0, .int .u64 0, .int .u64 0, .int .u64 0, .int .u64 0, .int .u64 0, .int .u64 0, .int .u64 0, .int .u64 0, .int .u64 0, .int .u64 0, .int .u64 0, .bool false] : Array Value) 53)) := ⟨_, rfl⟩
 rw [← hwyw1] at M2 M3 M4 HB ⊢
 clear hwyw1
 repeat ((fail_if_success (with_reducible (show wpList _ _ _ _ _ _))); go_step)
 refine qv (by rfl) 53 _ rfl (w.heap.size + 1) rfl 53 (pt x2 y2 c2 b2) M3.out Try.underlying53 rfl (by rw [qs]; kernel_rfl) 9 rfl ?_
 (try simp only [Act.put, sI, sS, sZ])
 refine qm (by rfl) rfl rfl (by rfl) ent90 (by rfl) (Hpl.out _) 10 rfl ?_
 rintro e uw1 ⟨u, s, t, ⟨hu, hs, ht⟩, ⟨hur, hsr, htr⟩, rfl, hb⟩
 replace M2 := Lib.hid (M2.out.call hb)
 replace M3 := Lib.hid (M3.out.call hb)
 replace M4 := Lib.hid (M4.out.call hb)
 replace HB := Lib.hid (qh HB.out hb)
 refine ⟨_, rfl, ?_⟩
 clear hb
 (try simp only [Act.put, sI, sS, sZ])
 iterate 4 (refine wpList_step (fun K hK => ?_); go_simp; (try go_bits); refine hK _ _ ?_; clear hK K)
 refine qJ (by rfl) 36 rfl _ qcj 5 rfl ?_
 intro yw2 hw2
 have hlt3 := M2.out.lt
 have hlt4 := M3.out.lt
 have hlt5 := M4.out.lt
 have hsz := HB.out.size
 replace M2 := Lib.hid (M2.out.alloc (.cells z36 36))
 replace M3 := Lib.hid (M3.out.alloc (.cells z36 36))
 replace M4 := Lib.hid (M4.out.alloc (.cells z36 36))
 have M5 := Lib.hid (HasN.new uw1 z36 36 4 (by kernel_rfl))
 replace HB := Lib.hid (HB.out.alloc hsz (.cells z36 36))
 rw [← hw2] at M2 M3 M4 M5 HB; clear hw2
 (try simp only [Act.put, sI, sS, sZ])
 refine qJ (by rfl) 36 rfl _ qcj 6 rfl ?_
 intro yw6 hw2
 have hlt7 := M2.out.lt
 have hlt8 := M3.out.lt
 have hlt9 := M4.out.lt
 have hlt10 := M5.out.lt
 have hsz := HB.out.size
 replace M2 := Lib.hid (M2.out.alloc (.cells z36 36))
 replace M3 := Lib.hid (M3.out.alloc (.cells z36 36))
 replace M4 := Lib.hid (M4.out.alloc (.cells z36 36))
 replace M5 := Lib.hid (M5.out.alloc (.cells z36 36))
 have M6 := Lib.hid (HasN.new yw2 z36 36 4 (by kernel_rfl))
 replace HB := Lib.hid (HB.out.alloc hsz (.cells z36 36))
 rw [← hw2] at M2 M3 M4 M5 M6 HB; clear hw2
 (try simp only [Act.put, sI, sS, sZ])
 refine qJ (by rfl) 36 rfl _ qcj 7 rfl ?_
 intro yw11 hw2
 have hlt12 := M2.out.lt
 have hlt13 := M3.out.lt
 have hlt14 := M4.out.lt
 have hlt15 := M5.out.lt
 have hlt16 := M6.out.lt
 have hsz := HB.out.size
 replace M2 := Lib.hid (M2.out.alloc (.cells z36 36))
 replace M3 := Lib.hid (M3.out.alloc (.cells z36 36))
 replace M4 := Lib.hid (M4.out.alloc (.cells z36 36))
 replace M5 := Lib.hid (M5.out.alloc (.cells z36 36))
 replace M6 := Lib.hid (M6.out.alloc (.cells z36 36))
 have M7 := Lib.hid (HasN.new yw6 z36 36 4 (by kernel_rfl))
 replace HB := Lib.hid (HB.out.alloc hsz (.cells z36 36))
 rw [← hw2] at M2 M3 M4 M5 M6 M7 HB; clear hw2
 (try simp only [Act.put, sI, sS, sZ])
 first | (obtain ⟨Zq, hZ, mZ⟩ := M5.out) | (obtain ⟨Zq, hZ, mZ⟩ := M5.out.toN (qd ..))
 refine ql (by rfl) 36 _ _ rfl rfl (uw1.heap.size) (e4 u) rfl rfl 36 Zq mZ (by rw [qd]; kernel_rfl) (hZ.trans (qd ..).symm) (qp _ _ _) ?_
 intro yw17 hw2
 replace M2 := Lib.hid (M2.out.setRow_other (uw1.heap.size) (e4 u) (by omega))
 replace M3 := Lib.hid (M3.out.setRow_other (uw1.heap.size) (e4 u) (by omega))
 replace M4 := Lib.hid (M4.out.setRow_other (uw1.heap.size) (e4 u) (by omega))
 replace M6 := Lib.hid (M6.out.setRow_other (uw1.heap.size) (e4 u) (by omega))
 replace M7 := Lib.hid (M7.out.setRow_other (uw1.heap.size) (e4 u) (by omega))
 replace M5 := Lib.hid (mZ.setRow (e4 u))
 replace HB := Lib.hid (below_setRow HB.out (uw1.heap.size) (e4 u) (by omega))
 rw [← hw2] at M2 M3 M4 M6 M7 M5 HB; clear mZ hZ hw2
 first | (obtain ⟨Zq, hZ, mZ⟩ := M6.out) | (obtain ⟨Zq, hZ, mZ⟩ := M6.out.toN (qd ..))
 refine ql (by rfl) 36 _ _ rfl rfl (yw2.heap.size) (e4 s) rfl rfl 36 Zq mZ (by rw [qd]; kernel_rfl) (hZ.trans (qd ..).symm) (qp _ _ _) ?_
 intro yw18 hw2
 replace M2 := Lib.hid (M2.out.setRow_other (yw2.heap.size) (e4 s) (by omega))
 replace M3 := Lib.hid (M3.out.setRow_other (yw2.heap.size) (e4 s) (by omega))
 replace M4 := Lib.hid (M4.out.setRow_other (yw2.heap.size) (e4 s) (by omega))
 replace M5 := Lib.hid (M5.out.setRow_other (yw2.heap.size) (e4 s) (by omega))
 replace M7 := Lib.hid (M7.out.setRow_other (yw2.heap.size) (e4 s) (by omega))
 replace M6 := Lib.hid (mZ.setRow (e4 s))
 replace HB := Lib.hid (below_setRow HB.out (yw2.heap.size) (e4 s) (by omega))
 rw [← hw2] at M2 M3 M4 M5 M7 M6 HB; clear mZ hZ hw2
 first | (obtain ⟨Zq, hZ, mZ⟩ := M7.out) | (obtain ⟨Zq, hZ, mZ⟩ := M7.out.toN (qd ..))
 refine ql (by rfl) 36 _ _ rfl rfl (yw6.heap.size) (e4 t) rfl rfl 36 Zq mZ (by rw [qd]; kernel_rfl) (hZ.trans (qd ..).symm) (qp _ _ _) ?_
 intro yw19 hw2
 replace M2 := Lib.hid (M2.out.setRow_other (yw6.heap.size) (e4 t) (by omega))
 replace M3 := Lib.hid (M3.out.setRow_other (yw6.heap.size) (e4 t) (by omega))
 replace M4 := Lib.hid (M4.out.setRow_other (yw6.heap.size) (e4 t) (by omega))
 replace M5 := Lib.hid (M5.out.setRow_other (yw6.heap.size) (e4 t) (by omega))
 replace M6 := Lib.hid (M6.out.setRow_other (yw6.heap.size) (e4 t) (by omega))
 replace M7 := Lib.hid (mZ.setRow (e4 t))
 replace HB := Lib.hid (below_setRow HB.out (yw6.heap.size) (e4 t) (by omega))
 rw [← hw2] at M2 M3 M4 M5 M6 M7 HB; clear mZ hZ hw2
 refine wpList_nil ?_
 have Hur := Lib.hid hur; clear hur
 have Hsr := Lib.hid hsr; clear hsr
 have Htr := Lib.hid htr; clear htr
 repeat ((fail_if_success (with_reducible (show wpList _ _ _ _ _ _))); go_step)
 refine wp_region_noPanic ?_
 refine Qm 8 9 #[ff,ff,ff,ff,ff,ff,ff,ff,ff] (by kernel_rfl) rfl rfl ?_
 intro W20 hW20
 rw [← hW20] at M2 M3 M4 M5 M6 M7 HB
 clear hW20
 have M4N := Lib.hid (by first | exact M4.out | exact M4.out.toN (by first | exact qd _ | exact qe _ | exact qf _ | exact qs .. | exact qA ..) : HasN W20 (w.heap.size + 1 + 1) _ _)
 refine qg 0 14 #[tt,ff,ff,ff,ff,ff,ff,ff,ff] rfl rfl rfl (by kernel_rfl) (qj (by rfl) 53 _ rfl (w.heap.size) rfl 53 (pt x1 y1 c1 b1) (fun _ h => M2.out.below h M2.out.lt) Try.underlying53 rfl (by rw [qs]; kernel_rfl)) ((qt W20)) ?_
 (try simp only [sI, sS, sZ])
 refine qg 1 15 #[tt,tt,ff,ff,ff,ff,ff,ff,ff] rfl rfl rfl (by kernel_rfl) (QT (by rfl) 36 _ rfl _ (by rfl) (e4 0) (bd36z)) ((qt W20)) ?_
 (try simp only [sI, sS, sZ])
 refine qg 2 16 #[tt,tt,tt,ff,ff,ff,ff,ff,ff] rfl rfl rfl (by kernel_rfl) (qj (by rfl) 36 _ rfl (uw1.heap.size) rfl 36 (e4 u) (fun _ h => M5.out.below h M5.out.lt) Try.underlying36 rfl (by rw [qd]; kernel_rfl)) ((qt W20)) ?_
 (try simp only [sI, sS, sZ])
 refine qg 4 18 #[tt,tt,tt,ff,tt,ff,ff,ff,ff] rfl rfl rfl (by kernel_rfl) (qj (by rfl) 36 _ rfl (yw2.heap.size) rfl 36 (e4 s) (fun _ h => M6.out.below h M6.out.lt) Try.underlying36 rfl (by rw [qd]; kernel_rfl)) ((qt W20)) ?_
 (try simp only [sI, sS, sZ])
 refine qg 5 19 #[tt,tt,tt,ff,tt,tt,ff,ff,ff] rfl rfl rfl (by kernel_rfl) (qj (by rfl) 36 _ rfl (yw6.heap.size) rfl 36 (e4 t) (fun _ h => M7.out.below h M7.out.lt) Try.underlying36 rfl (by rw [qd]; kernel_rfl)) ((qt W20)) ?_
 (try simp only [sI, sS, sZ])
 refine qk (i := 3) (by kernel_rfl) ?_
 refine qE 3 17 #[tt,tt,tt,tt,tt,tt,ff,ff,ff] rfl rfl rfl (by rfl) rfl rfl (by rfl) ent39 (by rfl) (Hmi.out 0 u (by decide) hu _) ?_
 rintro e wW201 ⟨m, hm, hmr, rfl, hb⟩
 have hkW201 := qh (qt W20) hb
 refine ⟨_, rfl, fun _ => hkW201, ?_⟩
 clear hb
 (try simp only [sI, sS, sZ])
 refine qk (i := 6) (by kernel_rfl) ?_
 refine qE 6 20 #[tt,tt,tt,tt,tt,tt,tt,ff,ff] rfl rfl rfl (by rfl) rfl rfl (by rfl) ent93 (by rfl) (Hmd.out m s t hm hs ht _) ?_
 rintro e wW202 ⟨qx, qy, qz, qb, hq, rfl, hb⟩
 have hkW202 := qh hkW201 hb
 rw [Hnx.out m u Hur.out hmr, Hsr.out, Htr.out] at hq
 have Hq := Lib.hid hq; clear hq hmr
 refine ⟨_, rfl, fun _ => hkW202, ?_⟩
 clear hb
 (try simp only [sI, sS, sZ])
 refine qk (i := 7) (by kernel_rfl) ?_
 refine qE 7 21 #[tt,tt,tt,tt,tt,tt,tt,tt,ff] rfl rfl rfl (by rfl) rfl rfl (by rfl) ent51 (by rfl) (Hplus.out qx qy qz qb Hq.out _) ?_
 rintro e wW203 ⟨px, py, pz, pb, hpt, rfl, hb⟩
 have hkW203 := qh hkW202 hb
 refine ⟨_, rfl, fun _ => hkW203, ?_⟩
 clear hb
 (try simp only [sI, sS, sZ])
 refine qk (i := 8) (by kernel_rfl) ?_
 obtain ⟨Zq, hZ, mZ⟩ := M4N.out.below hkW203 M4N.out.lt
 have MZ := Lib.hid mZ; clear mZ
 have HZ := Lib.hid hZ; clear hZ
 refine ZM 8 #[tt,tt,tt,tt,tt,tt,tt,tt,tt] rfl rfl rfl (by rfl) 53 _ _ rfl (w.heap.size + 1 + 1) _ rfl rfl 53 Zq MZ.out (by rw [qs]; kernel_rfl) (HZ.out.trans (qs ..).symm) (QK _ _ _ _) ⟨fun h => (h rfl).elim, ?_⟩
 (try simp only [sI, sS, sZ])
 refine qu (by kernel_rfl) (NoPanic.normal ?_)
 replace M2 := Lib.hid ((M2.out.call hkW203).setRow_other (w.heap.size + 1 + 1) (pt px py pz pb) (by omega))
 replace M3 := Lib.hid ((M3.out.call hkW203).setRow_other (w.heap.size + 1 + 1) (pt px py pz pb) (by omega))
 replace M5 := Lib.hid ((M5.out.call hkW203).setRow_other (w.heap.size + 1 + 1) (pt px py pz pb) (by omega))
 replace M6 := Lib.hid ((M6.out.call hkW203).setRow_other (w.heap.size + 1 + 1) (pt px py pz pb) (by omega))
 replace M7 := Lib.hid ((M7.out.call hkW203).setRow_other (w.heap.size + 1 + 1) (pt px py pz pb) (by omega))
 clear M4 M4N
 have M4 := Lib.hid (MZ.out.setRow (pt px py pz pb)); clear MZ HZ
 replace HB := Lib.hid (below_setRow (qh HB.out hkW203) (w.heap.size + 1 + 1) (pt px py pz pb) (by omega))
 obtain ⟨yw21, hwyw21⟩ : ∃ ww, ww = wW203.setRow (w.heap.size + 1 + 1) (pt px py pz pb) := ⟨_, rfl⟩
 rw [← hwyw21] at M2 M3 M4 M5 M6 M7 HB ⊢
 clear hwyw21
 go_wp2_with fail
 exact bodyPost_ret (v := .agg (pt px py pz pb)) (results_cell_row (t := 53) (by rfl) _ _ (w.heap.size + 1 + 1) _ _ _ rfl M4.out Try.underlying53 rfl (by rw [qs]; kernel_rfl)) rfl ⟨px, py, pz, pb, hpt, rfl, HB.out⟩
end
section
open Go.RowKit Go.Lib
theorem and_128 (a : Nat) (h : a < 256) : bits .and .u8 (a : Int) 128 = ((a / 128 * 128 : Nat) : Int) := by
 have : (List.range 256).all (fun a => bits .and .u8 (a : Int) 128 == ((a / 128 * 128 : Nat) : Int)) = true := by decide +kernel
 simpa using List.all_eq_true.1 this a (by simpa using h)
theorem andn_128 (a : Nat) (h : a < 256) : bits .andNot .u8 (a : Int) 128 = ((a % 128 : Nat) : Int) := by
 have : (List.range 256).all (fun a => bits .andNot .u8 (a : Int) 128 == ((a % 128 : Nat) : Int)) = true := by decide +kernel
 simpa using List.all_eq_true.1 this a (by simpa using h)
theorem dg31_any (n : Nat) (h : n < 115792089237316195423570985008687907853269984665640564039457584007913129639936) : ∃ c : Nat, dg 256 n 31 = (c : Int) ∧ c < 256 ∧ c / 128 = n / 57896044618658097711785492504343953926634992332820282019728792003956564819968 ∧ c = n / 256 ^ 31 % 256 := by
 refine ⟨n / 256 ^ 31 % 256, rfl, Nat.mod_lt _ (by decide), ?_, rfl⟩
 rw [show (256 : Nat) ^ 31 = 452312848583266388373324160190187140051835877600158453279131187530910662656 by decide +kernel]
 omega
theorem qdK (n c : Nat) (hc : c = n / 256 ^ 31 % 256) (x : Int) (hx : x = ((c % 128 : Nat) : Int)) : row .u8 32 (upd (dg 256 n) 31 x) = k32 (n % 57896044618658097711785492504343953926634992332820282019728792003956564819968) := by
 refine Qb _ _ _ _ fun i hi => ?_
 have e31 : (256 : Nat) ^ 31 = 452312848583266388373324160190187140051835877600158453279131187530910662656 := by decide +kernel
 by_cases e : i = 31
 · subst e
   rw [qw, hx, hc]
   unfold dg
   rw [e31]
   omega
 · rw [qD _ _ _ _ e]
   unfold dg
   have e1 : 57896044618658097711785492504343953926634992332820282019728792003956564819968 = 256 ^ i * (256 * (128 * 256 ^ (30 - i))) := by
    rw [show 256 ^ i * (256 * (128 * 256 ^ (30 - i))) = 128 * (256 ^ i * 256 ^ (30 - i) * 256) by ac_rfl, ← Nat.pow_add, show i + (30 - i) = 30 by omega]
   rw [e1, Nat.mod_mul, Nat.add_mul_div_left _ _ (Nat.pow_pos (by omega)), Nat.mod_mul, Nat.div_eq_of_lt (Nat.mod_lt n (Nat.pow_pos (by omega) : 0 < 256 ^ i)), Nat.zero_add, Nat.add_mul_mod_self_left, Nat.mod_mod]
def cof (n : Nat) : Bool × Nat × Nat := if n % 57896044618658097711785492504343953926634992332820282019728792003956564819968 < PP then bes (cx (n % 57896044618658097711785492504343953926634992332820282019728792003956564819968)) (decide (n / 57896044618658097711785492504343953926634992332820282019728792003956564819968 = 0)) (n % 57896044618658097711785492504343953926634992332820282019728792003956564819968) else (false, 0, 1)
theorem qbI (n : Nat) (h : n % 57896044618658097711785492504343953926634992332820282019728792003956564819968 < PP) : cof n = bes (cx (n % 57896044618658097711785492504343953926634992332820282019728792003956564819968)) (decide (n / 57896044618658097711785492504343953926634992332820282019728792003956564819968 = 0)) (n % 57896044618658097711785492504343953926634992332820282019728792003956564819968) := by unfold cof; rw [if_pos h]
theorem cof_no (n : Nat) (h : ¬ n % 57896044618658097711785492504343953926634992332820282019728792003956564819968 < PP) : cof n = (false, 0, 1) := by unfold cof; rw [if_neg h]
theorem even_bit (c q : Nat) (h : c / 128 = q) : (((c / 128 * 128 : Nat) : Int) == 0) = decide (q = 0) := by
 rw [← h]
 by_cases h0 : c / 128 = 0
 · rw [h0]; rfl
 · rw [decide_eq_false h0]
   exact beq_eq_false_iff_ne.2 (by omega)
theorem m255_lt (n : Nat) : n % 57896044618658097711785492504343953926634992332820282019728792003956564819968 < 115792089237316195423570985008687907853269984665640564039457584007913129639936 := by omega
theorem m255_m (n : Nat) : n % 57896044618658097711785492504343953926634992332820282019728792003956564819968 % 57896044618658097711785492504343953926634992332820282019728792003956564819968 = n % 57896044618658097711785492504343953926634992332820282019728792003956564819968 := Nat.mod_mod _ _
theorem pof_any (n : Nat) (hn : n < 115792089237316195423570985008687907853269984665640564039457584007913129639936) (w : World) : Calls Try.prog 47 #[.agg (k32 n)] w (BeP (cof n) w) := by
 obtain ⟨c, hc, hcl, hcq, hcd⟩ := dg31_any n hn
 have hand := and_128 c hcl
 have handn := andn_128 c hcl
 have hclr := qdK n c hcd ((c % 128 : Nat) : Int) rfl
 have hyes := qbI n
 have hno := cof_no n
 obtain ⟨ev, hev⟩ : ∃ b, b = decide (n / 57896044618658097711785492504343953926634992332820282019728792003956564819968 = 0) := ⟨_, rfl⟩
 have hbit := even_bit c _ hcq
 rw [← hev] at hyes hbit
 have hl0 := m255_lt n
 have hmm := m255_m n
 obtain ⟨n0, hn0⟩ : ∃ m, m = n % 57896044618658097711785492504343953926634992332820282019728792003956564819968 := ⟨_, rfl⟩
 rw [← hn0] at hclr hyes hno hl0 hmm
 have hfo := fun w => fof_a n0 n0 hl0 hmm.symm w
 have hkey := fun w => key_any n0 hl0 w
 have hbe := fun w => qdj n0 ev hl0 w
 obtain ⟨c1, hc1⟩ : ∃ c1 : Nat, c1 = c / 128 * 128 := ⟨_, rfl⟩
 obtain ⟨c2, hc2⟩ : ∃ c2 : Nat, c2 = c % 128 := ⟨_, rfl⟩
 rw [← hc1] at hand hbit
 rw [← hc2] at handn hclr
 obtain ⟨R, hR⟩ : ∃ R, R = cof n := ⟨_, rfl⟩
 rw [← hR] at hyes hno ⊢
 clear hR hc1 hc2 hn0 hmm hev hcq hcd
 have Hclr := Lib.hid hclr; clear hclr
 have Hyes := Lib.hid hyes; clear hyes
 have Hno := Lib.hid hno; clear hno
 have Hfo := Lib.hid hfo; clear hfo
 have Hkey := Lib.hid hkey; clear hkey
 have Hbe := Lib.hid hbe; clear hbe
 have Hc := Lib.hid hc; clear hc
 have Hl0 := Lib.hid hl0; clear hl0
 go_enter Try.func47, Try.ntmps47
 repeat ((fail_if_success (with_reducible (show wpList _ _ _ _ _ _))); go_step)
 iterate 3 (refine wpList_step (fun K hK => ?_); go_simp; (try go_bits); refine hK _ _ ?_; clear hK K)
 refine wpList_nil ?_
 have M1 := Lib.hid ((Has.new w  (k32 n) 24).alloc (.cells (#[.int .u64 0, .int .u64 0, .int .u64 0, .int .u64 0, .int .u64 0, .int .u64 0, .int .u64 0, .int .u64 0, .int .u64 0, .int .u64 0, .int .u64 0, .int .u64 0, .bool false] : Array Value) 53))
 have M2 := Lib.hid (HasN.new1 w (.cells (k32 n) 24) (#[.int .u64 0, .int .u64 0, .int .u64 0, .int .u64 0, .int .u64 0, .int .u64 0, .int .u64 0, .int .u64 0, .int .u64 0, .int .u64 0, .int .u64 0, .int .u64 0, .bool false] : Array Value) 53 13 (by kernel_rfl))
 have HB := Lib.hid (Qx w (.cells (k32 n) 24) (.cells (#[.int .u64 0, .int .u64 0, .int .u64 0, .int .u64 0, .int .u64 0, .int .u64 0, .int .u64 0, .int .u64 0, .int .u64 0, .int .u64 0, .int .u64 0, .int .u64 0, .bool false] : Array Value) 53))
 obtain ⟨yw1, hwyw1⟩ : ∃ ww, ww = ((w.alloc (.cells (k32 n) 24)).alloc (.cells (#[.int .u64 0, .int .u64 0, .int .u64 0, .int .u64 0, .int .u64 0, .int .u64 0, .int .u64 0, .int .u64 0, .int .u64 0, .int .u64 0, .int .u64 0, .int .u64 0, .bool false] : Array Value) 53)) := ⟨_, rfl⟩
 rw [← hwyw1] at M1 M2 HB ⊢
 clear hwyw1
 have h1 := M1.out.cell 31 (by omega)
 rw [Hc.out] at h1
 have hfz := M1.out.frozen 31
 repeat ((fail_if_success (with_reducible (show wpList _ _ _ _ _ _))); go_step)
 iterate 5 (refine wpList_step (fun K hK => ?_); go_simp; (try go_bits); refine hK _ _ ?_; clear hK K)
 refine wpList_nil ?_
 repeat ((fail_if_success (with_reducible (show wpList _ _ _ _ _ _))); go_step)
 iterate 5 (refine wpList_step (fun K hK => ?_); go_simp; (try go_bits); refine hK _ _ ?_; clear hK K)
 refine wpList_nil ?_
 clear h1 hfz
 have kq := M1.out.set (31) ((c2 : Int)); rw [Hclr.out] at kq; clear M1; have M1 := Lib.hid kq; clear kq
 have kq := M2.out.other ⟨w.heap.size, 31, none⟩ (.int .u8 ((c2 : Int))) (by simp <;> omega); clear M2; have M2 := Lib.hid kq; clear kq
 replace HB := Lib.hid (HB.out.setCell (p := ⟨w.heap.size, 31, none⟩) (show w.heap.size ≤ w.heap.size by omega) (.int .u8 ((c2 : Int))))
 obtain ⟨yw2, hwyw2⟩ : ∃ ww, ww = yw1.setCell ⟨w.heap.size, 31, none⟩ (.int .u8 ((c2 : Int))) := ⟨_, rfl⟩
 rw [← hwyw2] at M1 M2 HB ⊢
 clear hwyw2
 clear hand handn hbit hcl
 repeat ((fail_if_success (with_reducible (show wpList _ _ _ _ _ _))); go_step)
 refine qv (by rfl) 24 _ rfl (w.heap.size) rfl 24 (k32 n0) M1.out Try.underlying24 rfl (by rw [qf]; kernel_rfl) 14 rfl ?_
 (try simp only [Act.put, sI, sS, sZ])
 refine qm (by rfl) rfl rfl (by rfl) ent30 (by rfl) (Hfo.out _) 15 rfl ?_
 rintro e uw1 ⟨rfl, hb⟩
 replace M1 := Lib.hid (M1.out.call hb)
 replace M2 := Lib.hid (M2.out.call hb)
 replace HB := Lib.hid (qh HB.out hb)
 refine ⟨_, rfl, ?_⟩
 clear hb
 (try simp only [Act.put, sI, sS, sZ])
 refine qJ (by rfl) 36 rfl _ qcj 5 rfl ?_
 intro yw3 hw2
 have hlt4 := M1.out.lt
 have hlt5 := M2.out.lt
 have hsz := HB.out.size
 replace M1 := Lib.hid (M1.out.alloc (.cells z36 36))
 replace M2 := Lib.hid (M2.out.alloc (.cells z36 36))
 have M5 := Lib.hid (HasN.new uw1 z36 36 4 (by kernel_rfl))
 replace HB := Lib.hid (HB.out.alloc hsz (.cells z36 36))
 rw [← hw2] at M1 M2 M5 HB; clear hw2
 (try simp only [Act.put, sI, sS, sZ])
 first | (obtain ⟨Zq, hZ, mZ⟩ := M5.out) | (obtain ⟨Zq, hZ, mZ⟩ := M5.out.toN (qd ..))
 refine ql (by rfl) 36 _ _ rfl rfl (uw1.heap.size) (e4 n0) rfl rfl 36 Zq mZ (by rw [qd]; kernel_rfl) (hZ.trans (qd ..).symm) (qp _ _ _) ?_
 intro yw6 hw2
 replace M1 := Lib.hid (M1.out.setRow_other (uw1.heap.size) (e4 n0) (by omega))
 replace M2 := Lib.hid (M2.out.setRow_other (uw1.heap.size) (e4 n0) (by omega))
 replace M5 := Lib.hid (mZ.setRow (e4 n0))
 replace HB := Lib.hid (below_setRow HB.out (uw1.heap.size) (e4 n0) (by omega))
 rw [← hw2] at M1 M2 M5 HB; clear mZ hZ hw2
 refine wpList_nil ?_
 repeat ((fail_if_success (with_reducible (show wpList _ _ _ _ _ _))); go_step)
 by_cases hlt : n0 < PP
 · have hm := Nat.mod_eq_of_lt hlt
   have hk2 := Hkey.out
   rw [hm] at hk2
   have heq := fun w => k32_same n0 Hl0.out w
   have hb2 := Hbe.out
   rw [hm] at hb2
   have hR := Hyes.out hlt
   rw [← hR] at hb2
   clear hm hR
   have Hk2 := Lib.hid hk2; clear hk2
   have Hb2 := Lib.hid hb2; clear hb2
   refine wp_region_noPanic ?_
   refine Qm 99 4 #[false, false, false, false] (by kernel_rfl) rfl rfl ?_
   intro W7 hW7
   rw [← hW7] at M1 M2 M5 HB
   clear hW7
   refine qg 0 16 #[true, false, false, false] rfl rfl rfl (by kernel_rfl) (qj (by rfl) 36 _ rfl (uw1.heap.size) rfl 36 (e4 n0) (fun _ h => M5.out.below h M5.out.lt) Try.underlying36 rfl (by rw [qd]; kernel_rfl)) ((qt W7)) ?_
   (try simp only [sI, sS, sZ])
   refine qg 2 18 #[true, false, true, false] rfl rfl rfl (by kernel_rfl) (qj (by rfl) 24 _ rfl (w.heap.size) rfl 24 (k32 n0) (fun _ h => M1.out.below h M1.out.lt) Try.underlying24 rfl (by rw [qf]; kernel_rfl)) ((qt W7)) ?_
   (try simp only [sI, sS, sZ])
   refine qk (i := 1) (by kernel_rfl) ?_
   refine qE 1 17 #[true, true, true, false] rfl rfl rfl (by rfl) rfl rfl (by rfl) ent73 (by rfl) (Hk2.out _) ?_
   rintro e wW71 ⟨rfl, hb⟩
   have hkW71 := qh (qt W7) hb
   refine ⟨_, rfl, fun _ => hkW71, ?_⟩
   clear hb
   (try simp only [sI, sS, sZ])
   refine qg 3 19 #[true, true, true, true] (v := ?uv1) rfl rfl rfl (by kernel_rfl) (Or.inl ⟨by rfl, ?uy1⟩) (hkW71) ?urest1
   case uy1 => (intro _ _; go_simp; try with_reducible rfl)
   (try simp only [sI, sS, sZ])
   refine qu (by kernel_rfl) (NoPanic.normal ?_)
   replace M1 := Lib.hid (M1.out.call hkW71)
   replace M2 := Lib.hid (M2.out.call hkW71)
   replace M5 := Lib.hid (M5.out.call hkW71)
   replace HB := Lib.hid (qh HB.out hkW71)
   clear heq
   repeat ((fail_if_success (with_reducible (show wpList _ _ _ _ _ _))); go_step)
   refine qv (by rfl) 36 _ rfl (uw1.heap.size) rfl 36 (e4 n0) M5.out Try.underlying36 rfl (by rw [qd]; kernel_rfl) 21 rfl ?_
   (try simp only [Act.put, sI, sS, sZ])
   (refine wpList_step (fun K hK => ?_); go_simp; (try go_bits); refine hK _ _ ?_; clear hK K)
   refine qm (by rfl) rfl rfl (by rfl) ent87 (by rfl) (Hb2.out _) 23 rfl ?_
   rintro e uw2 ⟨px, py, pz, pb, hpt, rfl, hb⟩
   replace M1 := Lib.hid (M1.out.call hb)
   replace M2 := Lib.hid (M2.out.call hb)
   replace M5 := Lib.hid (M5.out.call hb)
   replace HB := Lib.hid (qh HB.out hb)
   refine ⟨_, rfl, ?_⟩
   clear hb
   (try simp only [Act.put, sI, sS, sZ])
   iterate 2 (refine wpList_step (fun K hK => ?_); go_simp; (try go_bits); refine hK _ _ ?_; clear hK K)
   first | (obtain ⟨Zq, hZ, mZ⟩ := M2.out) | (obtain ⟨Zq, hZ, mZ⟩ := M2.out.toN (qs ..))
   refine ql (by rfl) 53 _ _ rfl rfl (w.heap.size + 1) (pt px py pz pb) rfl rfl 53 Zq mZ (by rw [qs]; kernel_rfl) (hZ.trans (qs ..).symm) (QK _ _ _ _) ?_
   intro yw8 hw2
   replace M1 := Lib.hid (M1.out.setRow_other (w.heap.size + 1) (pt px py pz pb) (by omega))
   replace M5 := Lib.hid (M5.out.setRow_other (w.heap.size + 1) (pt px py pz pb) (by omega))
   replace M2 := Lib.hid (mZ.setRow (pt px py pz pb))
   replace HB := Lib.hid (below_setRow HB.out (w.heap.size + 1) (pt px py pz pb) (by omega))
   rw [← hw2] at M1 M5 M2 HB; clear mZ hZ hw2
   (refine wpList_step (fun K hK => ?_); go_simp; (try go_bits); refine hK _ _ ?_; clear hK K)
   refine wpList_nil ?_
   go_wp2_with fail
   exact bodyPost_ret (v := .tuple #[.agg (pt px py pz pb), .bool R.1]) (QV (fn := Try.f47) (p := 2) (t2 := 3) (ty := 53) (t := 53) (by rfl) _ _ (w.heap.size + 1) _ _ _ rfl M2.out Try.underlying53 rfl (by rw [qs]; kernel_rfl)) rfl ⟨px, py, pz, pb, hpt, rfl, HB.out⟩
 · have hne : ¬ n0 % PP = n0 := by
    have := Nat.mod_lt n0 qH
    omega
   have heq := fun w => k32_eq (n0 % PP) n0 (qbz n0) Hl0.out w
   rw [decide_eq_false hne] at heq
   obtain ⟨r, hr⟩ : ∃ r, r = n0 % PP := ⟨_, rfl⟩
   have hk2 := Hkey.out
   rw [← hr] at hk2 heq
   have hR := Hno.out hlt
   clear hr hne
   have Hk2 := Lib.hid hk2; clear hk2
   have HR := Lib.hid hR; clear hR
   refine wp_region_noPanic ?_
   refine Qm 99 4 #[false, false, false, false] (by kernel_rfl) rfl rfl ?_
   intro W7 hW7
   rw [← hW7] at M1 M2 M5 HB
   clear hW7
   refine qg 0 16 #[true, false, false, false] rfl rfl rfl (by kernel_rfl) (qj (by rfl) 36 _ rfl (uw1.heap.size) rfl 36 (e4 n0) (fun _ h => M5.out.below h M5.out.lt) Try.underlying36 rfl (by rw [qd]; kernel_rfl)) ((qt W7)) ?_
   (try simp only [sI, sS, sZ])
   refine qg 2 18 #[true, false, true, false] rfl rfl rfl (by kernel_rfl) (qj (by rfl) 24 _ rfl (w.heap.size) rfl 24 (k32 n0) (fun _ h => M1.out.below h M1.out.lt) Try.underlying24 rfl (by rw [qf]; kernel_rfl)) ((qt W7)) ?_
   (try simp only [sI, sS, sZ])
   refine qk (i := 1) (by kernel_rfl) ?_
   refine qE 1 17 #[true, true, true, false] rfl rfl rfl (by rfl) rfl rfl (by rfl) ent73 (by rfl) (Hk2.out _) ?_
   rintro e wW71 ⟨rfl, hb⟩
   have hkW71 := qh (qt W7) hb
   refine ⟨_, rfl, fun _ => hkW71, ?_⟩
   clear hb
   (try simp only [sI, sS, sZ])
   refine qg 3 19 #[true, true, true, true] (v := ?uv2) rfl rfl rfl (by kernel_rfl) (Or.inl ⟨by rfl, ?uy2⟩) (hkW71) ?urest2
   case uy2 => (intro _ _; go_simp; try with_reducible rfl)
   (try simp only [sI, sS, sZ])
   refine qu (by kernel_rfl) (NoPanic.normal ?_)
   replace M1 := Lib.hid (M1.out.call hkW71)
   replace M2 := Lib.hid (M2.out.call hkW71)
   replace M5 := Lib.hid (M5.out.call hkW71)
   replace HB := Lib.hid (qh HB.out hkW71)
   clear heq
   repeat ((fail_if_success (with_reducible (show wpList _ _ _ _ _ _))); go_step)
   refine Qt (by rfl) 53 _ rfl _ (by rfl) (pt 0 0 0 false) (bd53z) 20 rfl ?_
   (try simp only [Act.put, sI, sS, sZ])
   first | (obtain ⟨Zq, hZ, mZ⟩ := M2.out) | (obtain ⟨Zq, hZ, mZ⟩ := M2.out.toN (qs ..))
   refine ql (by rfl) 53 _ _ rfl rfl (w.heap.size + 1) (pt 0 0 0 false) rfl rfl 53 Zq mZ (by rw [qs]; kernel_rfl) (hZ.trans (qs ..).symm) (QK _ _ _ _) ?_
   intro yw8 hw2
   replace M1 := Lib.hid (M1.out.setRow_other (w.heap.size + 1) (pt 0 0 0 false) (by omega))
   replace M5 := Lib.hid (M5.out.setRow_other (w.heap.size + 1) (pt 0 0 0 false) (by omega))
   replace M2 := Lib.hid (mZ.setRow (pt 0 0 0 false))
   replace HB := Lib.hid (below_setRow HB.out (w.heap.size + 1) (pt 0 0 0 false) (by omega))
   rw [← hw2] at M1 M5 M2 HB; clear mZ hZ hw2
   (refine wpList_step (fun K hK => ?_); go_simp; (try go_bits); refine hK _ _ ?_; clear hK K)
   refine wpList_nil ?_
   go_wp2_with fail
   exact bodyPost_ret (v := .tuple #[.agg (pt 0 0 0 false), .bool false]) (QV (fn := Try.f47) (p := 2) (t2 := 3) (ty := 53) (t := 53) (by rfl) _ _ (w.heap.size + 1) _ _ _ rfl M2.out Try.underlying53 rfl (by rw [qs]; kernel_rfl)) rfl ⟨0, 0, 0, false, by rw [HR.out]; exact ⟨⟨by decide, by decide, by decide⟩, .inr ⟨rfl, by rw [Nat.zero_mod], by rw [ZC], rfl⟩⟩, by rw [HR.out], HB.out⟩
end
section
open Go.RowKit Go.Lib
def GX : Nat := 15112221349535400772501151409588531511454012693041857206046113283949847762202
def GY : Nat := 46316835694926478169428394003475163141307993866256225615783033603165251855960
theorem GX_lt : GX < PP := by decide +kernel
theorem gy_pm : 4 * Nm.pm PP 256 5 (PP - 2) % PP = GY := by decide +kernel
theorem gx_pm : (GY * GY % PP + (PP - 1)) % PP * Nm.pm PP 256 ((SL * (GY * GY % PP) % PP + 1) % PP) (PP - 2) % PP = GX * GX % PP := by decide +kernel
theorem gy_val : 4 * pwm 5 (PP - 2) % PP = GY := by rw [qbT _ _ pp2_lt, gy_pm]
theorem cx_pm (Y r : Nat) (h : (Y * Y % PP + (PP - 1)) % PP * Nm.pm PP 256 ((SL * (Y * Y % PP) % PP + 1) % PP) (PP - 2) % PP = r) : cx Y = r := by
 unfold cx; rw [qbT _ _ pp2_lt, h]
theorem root_even (r : Nat) (hr : r < PP) (he : r % 2 = 0) : rt3 (r * r % PP) = r := by
 rcases rt3_root r with h | h
 · rw [h, Nat.mod_eq_of_lt hr]
 · have h1 := rt3_even (r * r % PP)
   have h2 := qbO (r * r % PP)
   have h3 := PP_odd
   by_cases hh : rt3 (r * r % PP) + r < PP
   · rw [Nat.mod_eq_of_lt hh] at h; omega
   · have h4 : (rt3 (r * r % PP) + r) = PP + (rt3 (r * r % PP) + r - PP) := by omega
     rw [h4, Nat.add_mod_left, Nat.mod_eq_of_lt (by omega)] at h
     omega
theorem gx_even : GX % 2 = 0 := by decide +kernel
theorem gen_bes : bes (cx GY) true GY = (true, GX, GY) := by
 rw [cx_pm GY _ gx_pm, qaB _ _ (rtok_sq GX), root_even GX GX_lt gx_even]
theorem gen_any (w : World) : Calls Try.prog 58 #[] w (PtP GX GY 1 w) := by
 have h4 := fun w => Z8 4 (by decide) w
 have h5 := fun w => Z8 5 (by decide) w
 have hov := fun w => qbv 4 5 (by decide) (by decide) w
 rw [gy_val] at hov
 have hbe : ∀ m, m < 115792089237316195423570985008687907853269984665640564039457584007913129639936 → m % PP = GY → ∀ w, Calls Try.prog 87 #[.agg (e4 m), .bool true] w fun e w' => ∃ (x y z1 : Nat) (b : Bool), qag x y z1 b GX GY 1 ∧ e = .returned (.tuple #[.agg (pt x y z1 b), .bool true]) ∧ Below w.heap.size w w' := by
  intro m hm hr w
  have := qdj m true hm w
  rw [hr, gen_bes] at this
  refine this.mono ?_
  rintro e w' ⟨x, y, z1, b, h1, h2, h3⟩
  rw [ZC] at h1
  exact ⟨x, y, z1, b, h1, h2, h3⟩
 have H4 := Lib.hid h4; clear h4
 have H5 := Lib.hid h5; clear h5
 have Hov := Lib.hid hov; clear hov
 have Hbe := Lib.hid hbe; clear hbe
 go_enter Try.func58, Try.ntmps58
 repeat ((fail_if_success (with_reducible (show wpList _ _ _ _ _ _))); go_step)
 (refine wpList_step (fun K hK => ?_); go_simp; (try go_bits); refine hK _ _ ?_; clear hK K)
 refine wpList_nil ?_
 have M0 := Lib.hid (HasN.new w  (#[.int .u64 0, .int .u64 0, .int .u64 0, .int .u64 0, .int .u64 0, .int .u64 0, .int .u64 0, .int .u64 0, .int .u64 0, .int .u64 0, .int .u64 0, .int .u64 0, .bool false] : Array Value) 53 13 (by kernel_rfl))
 have HB := Lib.hid (Qc w (.cells (#[.int .u64 0, .int .u64 0, .int .u64 0, .int .u64 0, .int .u64 0, .int .u64 0, .int .u64 0, .int .u64 0, .int .u64 0, .int .u64 0, .int .u64 0, .int .u64 0, .bool false] : Array Value) 53))
 obtain ⟨yw1, hwyw1⟩ : ∃ ww, ww = (w.alloc (.cells (#[.int .u64 0, .int .u64 0, .int .u64 0, .int .u64 0, .int .u64 0, .int .u64 0, .int .u64 0, .int .u64 0, .int .u64 0, .int .u64 0, .int .u64 0, .int .u64 0, .bool false] : Array Value) 53)) := ⟨_, rfl⟩
 rw [← hwyw1] at M0 HB ⊢
 clear hwyw1
 repeat ((fail_if_success (with_reducible (show wpList _ _ _ _ _ _))); go_step)
 refine qm (by rfl) rfl rfl (by rfl) qdS (by rfl) (H4.out _) 4 rfl ?_
 rintro e uw1 ⟨rfl, hb⟩
 replace M0 := Lib.hid (M0.out.call hb)
 replace HB := Lib.hid (qh HB.out hb)
 refine ⟨_, rfl, ?_⟩
 clear hb
 (try simp only [Act.put, sI, sS, sZ])
 refine qm (by rfl) rfl rfl (by rfl) qdS (by rfl) (H5.out _) 5 rfl ?_
 rintro e uw2 ⟨rfl, hb⟩
 replace M0 := Lib.hid (M0.out.call hb)
 replace HB := Lib.hid (qh HB.out hb)
 refine ⟨_, rfl, ?_⟩
 clear hb
 (try simp only [Act.put, sI, sS, sZ])
 refine qm (by rfl) rfl rfl (by rfl) ent42 (by rfl) (Hov.out _) 6 rfl ?_
 rintro e uw3 ⟨m, hm, hmr, rfl, hb⟩
 replace M0 := Lib.hid (M0.out.call hb)
 replace HB := Lib.hid (qh HB.out hb)
 refine ⟨_, rfl, ?_⟩
 clear hb
 (try simp only [Act.put, sI, sS, sZ])
 refine qm (by rfl) rfl rfl (by rfl) ent87 (by rfl) (Hbe.out m hm hmr _) 7 rfl ?_
 rintro e uw4 ⟨px, py, pz, pb, hpt, rfl, hb⟩
 replace M0 := Lib.hid (M0.out.call hb)
 replace HB := Lib.hid (qh HB.out hb)
 refine ⟨_, rfl, ?_⟩
 clear hb
 (try simp only [Act.put, sI, sS, sZ])
 iterate 3 (refine wpList_step (fun K hK => ?_); go_simp; (try go_bits); refine hK _ _ ?_; clear hK K)
 refine qJ (by rfl) 53 rfl _ al53 1 rfl ?_
 intro yw2 hw2
 have hlt3 := M0.out.lt
 have hsz := HB.out.size
 replace M0 := Lib.hid (M0.out.alloc (.cells z53 53))
 have M1 := Lib.hid (HasN.new uw4 z53 53 13 (by kernel_rfl))
 replace HB := Lib.hid (HB.out.alloc hsz (.cells z53 53))
 rw [← hw2] at M0 M1 HB; clear hw2
 (try simp only [Act.put, sI, sS, sZ])
 first | (obtain ⟨Zq, hZ, mZ⟩ := M1.out) | (obtain ⟨Zq, hZ, mZ⟩ := M1.out.toN (qs ..))
 refine ql (by rfl) 53 _ _ rfl rfl (uw4.heap.size) (pt px py pz pb) rfl rfl 53 Zq mZ (by rw [qs]; kernel_rfl) (hZ.trans (qs ..).symm) (QK _ _ _ _) ?_
 intro yw4 hw2
 replace M0 := Lib.hid (M0.out.setRow_other (uw4.heap.size) (pt px py pz pb) (by omega))
 replace M1 := Lib.hid (mZ.setRow (pt px py pz pb))
 replace HB := Lib.hid (below_setRow HB.out (uw4.heap.size) (pt px py pz pb) (by omega))
 rw [← hw2] at M0 M1 HB; clear mZ hZ hw2
 (refine wpList_step (fun K hK => ?_); go_simp; (try go_bits); refine hK _ _ ?_; clear hK K)
 refine wpList_nil ?_
 repeat ((fail_if_success (with_reducible (show wpList _ _ _ _ _ _))); go_step)
 refine qv (by rfl) 53 _ rfl (uw4.heap.size) rfl 53 (pt px py pz pb) M1.out Try.underlying53 rfl (by rw [qs]; kernel_rfl) 10 rfl ?_
 (try simp only [Act.put, sI, sS, sZ])
 first | (obtain ⟨Zq, hZ, mZ⟩ := M0.out) | (obtain ⟨Zq, hZ, mZ⟩ := M0.out.toN (qs ..))
 refine ql (by rfl) 53 _ _ rfl rfl (w.heap.size) (pt px py pz pb) rfl rfl 53 Zq mZ (by rw [qs]; kernel_rfl) (hZ.trans (qs ..).symm) (QK _ _ _ _) ?_
 intro yw5 hw2
 replace M1 := Lib.hid (M1.out.setRow_other (w.heap.size) (pt px py pz pb) (by omega))
 replace M0 := Lib.hid (mZ.setRow (pt px py pz pb))
 replace HB := Lib.hid (below_setRow HB.out (w.heap.size) (pt px py pz pb) (by omega))
 rw [← hw2] at M1 M0 HB; clear mZ hZ hw2
 refine wpList_nil ?_
 go_wp2_with fail
 exact bodyPost_ret (v := .agg (pt px py pz pb)) (results_cell_row (t := 53) (by rfl) _ _ (w.heap.size) _ _ _ rfl M0.out Try.underlying53 rfl (by rw [qs]; kernel_rfl)) rfl ⟨px, py, pz, pb, hpt, rfl, HB.out⟩
theorem cx_1 : cx 1 = 0 := cx_pm 1 0 (by decide +kernel)
end
section
theorem fi_to (a : Nat) (p : Fin PP) (h : fi a = p) : a % PP = p.val := congrArg Fin.val h
theorem finv_fi (Z : Nat) : qP (fi Z) = fi (pwm Z (PP - 2)) := by
 unfold qP
 show fi (pwm (Z % PP) (PP - 2)) = _
 rw [ZU]
theorem quot_rep (X Z : Nat) (x : Fin PP) (h : fi X = x * fi Z) (hz : fi Z ≠ 0) : X * pwm Z (PP - 2) % PP = x.val := by
 apply fi_to
 rw [Qi, ← finv_fi, h]
 have := fld.inv _ hz
 grind
def Z0 (p : Fin PP × Fin PP) : Nat := p.2.val + p.1.val % 2 * 57896044618658097711785492504343953926634992332820282019728792003956564819968
theorem qc4 (X Y Z : Nat) (p : Fin PP × Fin PP) (h : Rep X Y Z p) : qbZ X Y Z = Z0 p := by
 obtain ⟨hx, hy, hz, _⟩ := h
 unfold qbZ Z0
 rw [quot_rep X Z _ hx hz, quot_rep Y Z _ hy hz]
theorem Fld.y_ne {n : Nat} [NeZero n] {d i : Fin n} {inv : Fin n → Fin n} (F : Fld n d i inv) (y : Fin n) : d * (y * y) + 1 ≠ 0 := by
 intro h
 have hr := F.root
 have h1 : i * i = d * (y * y) := by grind
 have h2 := F.non _ _ h1
 have h3 : (0 : Fin n) = 1 := by grind
 exact F.one h3.symm
theorem cx_fi (Y : Nat) : fi (cx Y) * (fd * (fi Y * fi Y) + 1) = fi Y * fi Y - 1 := by
 have hn := fld.y_ne (fi Y)
 have hq : fi ((SL * (Y * Y % PP) % PP + 1) % PP) = fd * (fi Y * fi Y) + 1 := by
  simp only [Qu, zS, Qi, zn]; rfl
 have hm : fi ((Y * Y % PP + (PP - 1)) % PP) = fi Y * fi Y - 1 := by
  have e : PP - 1 = PP - 1 % PP := by rw [ZC]
  rw [e]
  simp only [Qu, zS, qbc, Qi, zn]
  grind
 unfold cx
 rw [Qu, Qi, hm, ← finv_fi, hq]
 have := fld.inv _ hn
 grind
theorem cx_lt (Y : Nat) : cx Y < PP := Nat.mod_lt _ qH
theorem on_of (X Y : Nat) (h : X * X % PP = cx Y) : OnP fd (fi X, fi Y) := by
 have h1 := cx_fi Y
 rw [← h, Qu, Qi] at h1
 show fi Y * fi Y - fi X * fi X = 1 + fd * fi X * fi X * fi Y * fi Y
 grind
theorem sq_of (p : Fin PP × Fin PP) (h : OnP fd p) : p.1.val * p.1.val % PP = cx p.2.val := by
 have h1 := cx_fi p.2.val
 rw [QZ] at h1
 have ho : p.2 * p.2 - p.1 * p.1 = 1 + fd * p.1 * p.1 * p.2 * p.2 := h
 have h2 : fi (p.1.val * p.1.val) = fi (cx p.2.val) := by
  rw [Qi, QZ]
  refine fld.cancel _ _ _ (fld.y_ne p.2) ?_
  rw [h1]
  grind
 have h3 := (Zy _ _).1 h2
 rw [h3, Nat.mod_eq_of_lt (cx_lt _)]
theorem cof_keyP (p : Fin PP × Fin PP) (h : OnP fd p) : cof (Z0 p) = (true, p.1.val, p.2.val) := by
 have hs := sq_of p h
 have hx := p.1.isLt
 have hy := p.2.isLt
 obtain ⟨x, ex⟩ : ∃ x, x = p.1.val := ⟨_, rfl⟩
 obtain ⟨y, ey⟩ : ∃ y, y = p.2.val := ⟨_, rfl⟩
 unfold Z0
 rw [← ex, ← ey] at hs ⊢
 rw [← ex] at hx
 rw [← ey] at hy
 have hp := PP_255
 have hb : x % 2 < 2 := Nat.mod_lt _ (by omega)
 have e1 : (y + x % 2 * 57896044618658097711785492504343953926634992332820282019728792003956564819968) % 57896044618658097711785492504343953926634992332820282019728792003956564819968 = y := by omega
 have e2 : (y + x % 2 * 57896044618658097711785492504343953926634992332820282019728792003956564819968) / 57896044618658097711785492504343953926634992332820282019728792003956564819968 = x % 2 := by omega
 rw [qbI _ (by rw [e1]; exact hy), e1, e2]
 have hok : Qy (cx y) = true := by rw [← hs]; exact rtok_sq x
 have hr := rt3_root x
 rw [hs, Nat.mod_eq_of_lt hx] at hr
 have he := rt3_even (cx y)
 have hl := qbO (cx y)
 have ho := PP_odd
 obtain ⟨r, er⟩ : ∃ r, r = rt3 (cx y) := ⟨_, rfl⟩
 rw [← er] at hr he hl
 have hr2 : r = x ∨ r + x = PP ∨ r + x = 0 := by
  rcases hr with hr | hr
  · exact .inl hr
  · by_cases hh : r + x < PP
    · rw [Nat.mod_eq_of_lt hh] at hr; exact .inr (.inr hr)
    · have e : r + x = PP + (r + x - PP) := by omega
      rw [e, Nat.add_mod_left, Nat.mod_eq_of_lt (by omega)] at hr
      exact .inr (.inl (by omega))
 rcases Nat.mod_two_eq_zero_or_one x with hx2 | hx2
 · rw [hx2, decide_eq_true rfl, qaB _ _ hok, ← er]
   have : r = x := by omega
   rw [this]
 · rw [hx2, decide_eq_false (by decide), qcu _ _ hok (by rw [← er]; omega), ← er, Nat.zero_mod, Nat.zero_add]
   have : PP - r = x := by omega
   rw [this, Nat.mod_eq_of_lt hx]
theorem rep_of (X Y : Nat) (h : X * X % PP = cx Y) : Rep X Y 1 (fi X, fi Y) := by
 refine ⟨?_, ?_, ?_, on_of X Y h⟩
 · rw [zn]; show fi X = fi X * 1; grind
 · rw [zn]; show fi Y = fi Y * 1; grind
 · rw [zn]; exact fld.one
theorem cof_rep (n : Nat) : Rep (cof n).2.1 (cof n).2.2 1 (fi (cof n).2.1, fi (cof n).2.2) := by
 apply rep_of
 have h0 : 0 * 0 % PP = cx 1 := by rw [cx_1, Nat.zero_mul, Nat.zero_mod]
 by_cases hp : n % 57896044618658097711785492504343953926634992332820282019728792003956564819968 < PP
 · rw [qbI n hp]
   cases hok : Qy (cx (n % 57896044618658097711785492504343953926634992332820282019728792003956564819968)) with
   | false => rw [bes_no1 _ _ _ hok]; exact h0
   | true =>
    have hsq := rt3_sq _ hok
    cases hev : decide (n / 57896044618658097711785492504343953926634992332820282019728792003956564819968 = 0) with
    | true => rw [qaB _ _ hok]; exact hsq
    | false =>
     by_cases hz : rt3 (cx (n % 57896044618658097711785492504343953926634992332820282019728792003956564819968)) = 0
     · rw [bes_no2 _ _ hz]; exact h0
     · rw [qcu _ _ hok hz]
       show (0 % PP + (PP - rt3 _)) % PP * ((0 % PP + (PP - rt3 _)) % PP) % PP = cx _
       rw [Nat.zero_mod, Nat.zero_add, ← Nat.mul_mod, neg_sq _ (qbO _)]
       exact hsq
 · rw [cof_no n hp]; exact h0
theorem neg_rep (X Y Z : Nat) (p : Fin PP × Fin PP) (hp : Rep X Y Z p) (hX : X < PP) : Rep (qbY X) Y Z (-p.1, p.2) := by
 obtain ⟨x1, y1, z1, o1⟩ := hp
 refine ⟨?_, y1, z1, on_neg p o1⟩
 unfold qbY
 rw [Nat.zero_mod, Nat.zero_add, Qu]
 have h := qbc X
 rw [Nat.mod_eq_of_lt hX] at h
 rw [h, x1]
 show -(p.1 * fi Z) = -p.1 * fi Z
 grind
theorem qcv : Rep 0 1 1 (0, 1) := by
 refine ⟨?_, ?_, ?_, qbw⟩
 · rw [zZ, zn]; grind
 · rw [zn]; grind
 · rw [zn]; exact fld.one
def qat (g : Nat × Nat × Nat) : Nat → Nat → Nat × Nat × Nat
 | 0, _ => (0, 1, 1)
 | f + 1, e =>
  let h := qat g f (e / 2)
  let h2 := ZX SL h.1 h.2.1 h.2.2 h.1 h.2.1 h.2.2
  if e % 2 = 1 then ZX SL h2.1 h2.2.1 h2.2.2 g.1 g.2.1 g.2.2 else h2
theorem pmul_rep (g : Nat × Nat × Nat) (p : Fin PP × Fin PP) (hp : Rep g.1 g.2.1 g.2.2 p) : ∀ f e, e < 2 ^ f → Rep (qat g f e).1 (qat g f e).2.1 (qat g f e).2.2 (qX qP fd p e) := by
 have ho : OnP fd p := hp.2.2.2
 intro f
 induction f with
 | zero =>
  intro e he
  obtain rfl : e = 0 := by rw [Nat.pow_zero] at he; omega
  exact qcv
 | succ f ih =>
  intro e he
  have h1 := ih (e / 2) (by rw [Nat.pow_succ] at he; omega)
  have h2 := qbt _ _ _ _ _ _ _ _ h1 h1
  rw [← fld.mul_add p ho] at h2
  unfold qat
  rcases Nat.mod_two_eq_zero_or_one e with hb | hb
  · rw [if_neg (by rw [hb]; decide)]
    rw [show e / 2 + e / 2 = e by omega] at h2
    exact h2
  · rw [if_pos hb]
    have h3 := qbt _ _ _ _ _ _ _ _ h2 hp
    have h4 : QH qP fd (qX qP fd p (e / 2 + e / 2)) p = qX qP fd p e := by
     have h5 : e = e / 2 + e / 2 + 1 := by omega
     calc QH qP fd (qX qP fd p (e / 2 + e / 2)) p = qX qP fd p (e / 2 + e / 2 + 1) := rfl
      _ = qX qP fd p e := by rw [← h5]
    rw [h4] at h3
    exact h3
def gG : Fin PP × Fin PP := (fi GX, fi GY)
theorem gen_sq : GX * GX % PP = cx GY := (cx_pm GY _ gx_pm).symm
theorem qbC : Rep GX GY 1 gG := rep_of GX GY gen_sq
def LL : Nat := 7237005577332262213973186563042994240857116359379907606001950938285454250989
theorem order_val : (qat (GX, GY, 1) 253 LL).1 % PP = 0 ∧ (qat (GX, GY, 1) 253 LL).2.1 % PP = (qat (GX, GY, 1) 253 LL).2.2 % PP := by decide +kernel
end
section
open Go.RowKit Go.Lib
theorem bd24s : Try.prog.built 24 [(0, .int .u8 163), (1, .int .u8 120), (2, .int .u8 89), (3, .int .u8 19), (4, .int .u8 202), (5, .int .u8 77), (6, .int .u8 235), (7, .int .u8 117), (8, .int .u8 171), (9, .int .u8 216), (10, .int .u8 65), (11, .int .u8 65), (12, .int .u8 77), (13, .int .u8 10), (14, .int .u8 112), (15, .int .u8 0), (16, .int .u8 152), (17, .int .u8 232), (18, .int .u8 121), (19, .int .u8 119), (20, .int .u8 121), (21, .int .u8 64), (22, .int .u8 199), (23, .int .u8 140), (24, .int .u8 115), (25, .int .u8 254), (26, .int .u8 111), (27, .int .u8 43), (28, .int .u8 238), (29, .int .u8 108), (30, .int .u8 3), (31, .int .u8 82)] = some (k32 SL) := by kernel_rfl
theorem SL_255 : SL % 2 ^ 255 % PP = SL := by decide +kernel
theorem qa7 (w : World) : Calls Try.prog 89 #[] w fun e w' => e = .returned (.agg (r22 SL)) ∧ Below w.heap.size w w' := by
 have hof := fun w => qck SL w
 rw [SL_255] at hof
 have Hof := Lib.hid hof; clear hof
 go_enter Try.func89, Try.ntmps89
 repeat ((fail_if_success (with_reducible (show wpList _ _ _ _ _ _))); go_step)
 (refine wpList_step (fun K hK => ?_); go_simp; (try go_bits); refine hK _ _ ?_; clear hK K)
 refine wpList_nil ?_
 have M0 := Lib.hid (HasN.new w  (#[.int .i64 0, .int .i64 0, .int .i64 0, .int .i64 0, .int .i64 0, .int .i64 0, .int .i64 0, .int .i64 0, .int .i64 0, .int .i64 0, .int .i64 0, .int .i64 0, .int .i64 0, .int .i64 0, .int .i64 0, .int .i64 0, .int .i64 0, .int .i64 0, .int .i64 0, .int .i64 0, .int .i64 0, .int .i64 0] : Array Value) 40 22 (by kernel_rfl))
 have HB := Lib.hid (Qc w (.cells (#[.int .i64 0, .int .i64 0, .int .i64 0, .int .i64 0, .int .i64 0, .int .i64 0, .int .i64 0, .int .i64 0, .int .i64 0, .int .i64 0, .int .i64 0, .int .i64 0, .int .i64 0, .int .i64 0, .int .i64 0, .int .i64 0, .int .i64 0, .int .i64 0, .int .i64 0, .int .i64 0, .int .i64 0, .int .i64 0] : Array Value) 40))
 obtain ⟨yw1, hwyw1⟩ : ∃ ww, ww = (w.alloc (.cells (#[.int .i64 0, .int .i64 0, .int .i64 0, .int .i64 0, .int .i64 0, .int .i64 0, .int .i64 0, .int .i64 0, .int .i64 0, .int .i64 0, .int .i64 0, .int .i64 0, .int .i64 0, .int .i64 0, .int .i64 0, .int .i64 0, .int .i64 0, .int .i64 0, .int .i64 0, .int .i64 0, .int .i64 0, .int .i64 0] : Array Value) 40)) := ⟨_, rfl⟩
 rw [← hwyw1] at M0 HB ⊢
 clear hwyw1
 repeat ((fail_if_success (with_reducible (show wpList _ _ _ _ _ _))); go_step)
 refine Qt (by rfl) 24 _ rfl _ (by rfl) (k32 SL) (bd24s) 1 rfl ?_
 (try simp only [Act.put, sI, sS, sZ])
 refine qm (by rfl) rfl rfl (by rfl) ent33 (by rfl) (Hof.out _) 2 rfl ?_
 rintro e uw1 ⟨rfl, hb⟩
 replace M0 := Lib.hid (M0.out.call hb)
 replace HB := Lib.hid (qh HB.out hb)
 refine ⟨_, rfl, ?_⟩
 clear hb
 (try simp only [Act.put, sI, sS, sZ])
 first | (obtain ⟨Zq, hZ, mZ⟩ := M0.out) | (obtain ⟨Zq, hZ, mZ⟩ := M0.out.toN (qe ..))
 refine ql (by rfl) 40 _ _ rfl rfl (w.heap.size) (r22 SL) rfl rfl 40 Zq mZ (by rw [qe]; kernel_rfl) (hZ.trans (qe ..).symm) (qp _ _ _) ?_
 intro yw2 hw2
 replace M0 := Lib.hid (mZ.setRow (r22 SL))
 replace HB := Lib.hid (below_setRow HB.out (w.heap.size) (r22 SL) (by omega))
 rw [← hw2] at M0 HB; clear mZ hZ hw2
 refine wpList_nil ?_
 go_wp2_with fail
 exact bodyPost_ret (v := .agg (r22 SL)) (results_cell_row (t := 40) (by rfl) _ _ (w.heap.size) _ _ _ rfl M0.out Try.underlying40 rfl (by rw [qe]; kernel_rfl)) rfl ⟨rfl, HB.out⟩
theorem Zx (w : World) : Calls Try.prog 88 #[] w fun e w' => e = .returned (.agg (rp 0 1 1 0)) ∧ Below w.heap.size w w' := by
 have hint := fun w => ZS 1 (by decide) w
 rw [ZC] at hint
 have Hint := Lib.hid hint; clear hint
 go_enter Try.func88, Try.ntmps88
 repeat ((fail_if_success (with_reducible (show wpList _ _ _ _ _ _))); go_step)
 have HB := Lib.hid (Below.refl w.heap.size w)
 refine qJ (by rfl) 57 rfl _ al57 0 rfl ?_
 intro yw1 hw2
 have hsz := HB.out.size
 have M0 := Lib.hid (HasN.new w Try.zeroCells57 57 88 (by kernel_rfl))
 replace HB := Lib.hid (HB.out.alloc hsz (.cells Try.zeroCells57 57))
 rw [← hw2] at M0 HB; clear hw2
 (try simp only [Act.put, sI, sS, sZ])
 refine wpList_nil ?_
 repeat ((fail_if_success (with_reducible (show wpList _ _ _ _ _ _))); go_step)
 refine qm (by rfl) rfl rfl (by rfl) ent35 (by rfl) (Hint.out _) 2 rfl ?_
 rintro e uw1 ⟨rfl, hb⟩
 replace M0 := Lib.hid (M0.out.call hb)
 replace HB := Lib.hid (qh HB.out hb)
 refine ⟨_, rfl, ?_⟩
 clear hb
 (try simp only [Act.put, sI, sS, sZ])
 refine qJ (by rfl) 40 rfl _ qbd 1 rfl ?_
 intro yw2 hw2
 have hlt3 := M0.out.lt
 have hsz := HB.out.size
 replace M0 := Lib.hid (M0.out.alloc (.cells z40 40))
 have M1 := Lib.hid (HasN.new uw1 z40 40 22 (by kernel_rfl))
 replace HB := Lib.hid (HB.out.alloc hsz (.cells z40 40))
 rw [← hw2] at M0 M1 HB; clear hw2
 (try simp only [Act.put, sI, sS, sZ])
 first | (obtain ⟨Zq, hZ, mZ⟩ := M1.out) | (obtain ⟨Zq, hZ, mZ⟩ := M1.out.toN (qe ..))
 refine ql (by rfl) 40 _ _ rfl rfl (uw1.heap.size) (r22 1) rfl rfl 40 Zq mZ (by rw [qe]; kernel_rfl) (hZ.trans (qe ..).symm) (qp _ _ _) ?_
 intro yw4 hw2
 replace M0 := Lib.hid (M0.out.setRow_other (uw1.heap.size) (r22 1) (by omega))
 replace M1 := Lib.hid (mZ.setRow (r22 1))
 replace HB := Lib.hid (below_setRow HB.out (uw1.heap.size) (r22 1) (by omega))
 rw [← hw2] at M0 M1 HB; clear mZ hZ hw2
 refine wpList_nil ?_
 repeat ((fail_if_success (with_reducible (show wpList _ _ _ _ _ _))); go_step)
 refine qv (by rfl) 40 _ rfl (uw1.heap.size) rfl 40 (r22 1) M1.out Try.underlying40 rfl (by rw [qe]; kernel_rfl) 3 rfl ?_
 (try simp only [Act.put, sI, sS, sZ])
 refine qv (by rfl) 40 _ rfl (uw1.heap.size) rfl 40 (r22 1) M1.out Try.underlying40 rfl (by rw [qe]; kernel_rfl) 4 rfl ?_
 (try simp only [Act.put, sI, sS, sZ])
 refine Qt (by rfl) 57 _ rfl _ (by rfl) (rp 0 1 1 0) (bd57o 1 1) 5 rfl ?_
 (try simp only [Act.put, sI, sS, sZ])
 first | (obtain ⟨Zq, hZ, mZ⟩ := M0.out) | (obtain ⟨Zq, hZ, mZ⟩ := M0.out.toN (qA ..))
 refine ql (by rfl) 57 _ _ rfl rfl (w.heap.size) (rp 0 1 1 0) rfl rfl 57 Zq mZ (by rw [qA]; kernel_rfl) (hZ.trans (qA ..).symm) (QF _ _ _ _) ?_
 intro yw5 hw2
 replace M1 := Lib.hid (M1.out.setRow_other (w.heap.size) (rp 0 1 1 0) (by omega))
 replace M0 := Lib.hid (mZ.setRow (rp 0 1 1 0))
 replace HB := Lib.hid (below_setRow HB.out (w.heap.size) (rp 0 1 1 0) (by omega))
 rw [← hw2] at M1 M0 HB; clear mZ hZ hw2
 refine wpList_nil ?_
 go_wp2_with fail
 exact bodyPost_ret (v := .agg (rp 0 1 1 0)) (results_cell_row (t := 57) (by rfl) _ _ (w.heap.size) _ _ _ rfl M0.out Try.underlying57 rfl (by rw [qA]; kernel_rfl)) rfl ⟨rfl, HB.out⟩
end
section
open Go.RowKit Go.Lib
def qcN (X1 Y1 Z1 T1 X2 Y2 Z2 T2 : Nat) : Nat × Nat × Nat × Nat :=
 let A := X1 * X2 % PP
 let B := Y1 * Y2 % PP
 let C0 := T1 * T2 % PP
 let C := SL * C0 % PP
 let D := Z1 * Z2 % PP
 let E1 := X1 * Y2 % PP
 let E2 := Y1 * X2 % PP
 let E := (E1 + E2) % PP
 let F := (D + (PP - C)) % PP
 let G := (D + C) % PP
 let H := (B + A) % PP
 (E * F % PP, G * H % PP, F * G % PP, E * H % PP)
theorem radd_def (X1 Y1 Z1 T1 X2 Y2 Z2 T2 A Bq C0 Cq Dq E1 E2 E F G Hq X3 Y3 Z3 T3 : Nat) (hA : A = X1 * X2 % PP) (hBq : Bq = Y1 * Y2 % PP) (hC0 : C0 = T1 * T2 % PP) (hCq : Cq = SL * C0 % PP) (hDq : Dq = Z1 * Z2 % PP) (hE1 : E1 = X1 * Y2 % PP) (hE2 : E2 = Y1 * X2 % PP) (hE : E = (E1 + E2) % PP) (hF : F = (Dq + (PP - Cq)) % PP) (hG : G = (Dq + Cq) % PP) (hHq : Hq = (Bq + A) % PP) (hX3 : X3 = E * F % PP) (hY3 : Y3 = G * Hq % PP) (hZ3 : Z3 = F * G % PP) (hT3 : T3 = E * Hq % PP) : qcN X1 Y1 Z1 T1 X2 Y2 Z2 T2 = (X3, Y3, Z3, T3) := by
 unfold qcN
 rw [hX3, hY3, hZ3, hT3, hF, hG, hE, hE1, hE2, hHq, hCq, hC0, hDq, hA, hBq]
theorem rpplus_any (X1 Y1 Z1 T1 X2 Y2 Z2 T2 : Nat) (x1 : X1 < PP) (y1 : Y1 < PP) (z1 : Z1 < PP) (t1 : T1 < PP) (x2 : X2 < PP) (y2 : Y2 < PP) (z2 : Z2 < PP) (t2 : T2 < PP) (w : World) :
 Calls Try.prog 52 #[.agg (rp X1 Y1 Z1 T1), .agg (rp X2 Y2 Z2 T2)] w fun e w' => e = .returned (.agg (rp (qcN X1 Y1 Z1 T1 X2 Y2 Z2 T2).1 (qcN X1 Y1 Z1 T1 X2 Y2 Z2 T2).2.1 (qcN X1 Y1 Z1 T1 X2 Y2 Z2 T2).2.2.1 (qcN X1 Y1 Z1 T1 X2 Y2 Z2 T2).2.2.2)) ∧ Below w.heap.size w w' := by
 obtain ⟨A, hA⟩ : ∃ v, v = X1 * X2 % PP := ⟨_, rfl⟩
 have lA : A < PP := by rw [hA]; exact Nat.mod_lt _ qH
 obtain ⟨Bq, hBq⟩ : ∃ v, v = Y1 * Y2 % PP := ⟨_, rfl⟩
 have lBq : Bq < PP := by rw [hBq]; exact Nat.mod_lt _ qH
 obtain ⟨C0, hC0⟩ : ∃ v, v = T1 * T2 % PP := ⟨_, rfl⟩
 have lC0 : C0 < PP := by rw [hC0]; exact Nat.mod_lt _ qH
 obtain ⟨Cq, hCq⟩ : ∃ v, v = SL * C0 % PP := ⟨_, rfl⟩
 have lCq : Cq < PP := by rw [hCq]; exact Nat.mod_lt _ qH
 obtain ⟨Dq, hDq⟩ : ∃ v, v = Z1 * Z2 % PP := ⟨_, rfl⟩
 have lDq : Dq < PP := by rw [hDq]; exact Nat.mod_lt _ qH
 obtain ⟨E1, hE1⟩ : ∃ v, v = X1 * Y2 % PP := ⟨_, rfl⟩
 have lE1 : E1 < PP := by rw [hE1]; exact Nat.mod_lt _ qH
 obtain ⟨E2, hE2⟩ : ∃ v, v = Y1 * X2 % PP := ⟨_, rfl⟩
 have lE2 : E2 < PP := by rw [hE2]; exact Nat.mod_lt _ qH
 obtain ⟨E, hE⟩ : ∃ v, v = (E1 + E2) % PP := ⟨_, rfl⟩
 have lE : E < PP := by rw [hE]; exact Nat.mod_lt _ qH
 obtain ⟨F, hF⟩ : ∃ v, v = (Dq + (PP - Cq)) % PP := ⟨_, rfl⟩
 have lF : F < PP := by rw [hF]; exact Nat.mod_lt _ qH
 obtain ⟨G, hG⟩ : ∃ v, v = (Dq + Cq) % PP := ⟨_, rfl⟩
 have lG : G < PP := by rw [hG]; exact Nat.mod_lt _ qH
 obtain ⟨Hq, hHq⟩ : ∃ v, v = (Bq + A) % PP := ⟨_, rfl⟩
 have lHq : Hq < PP := by rw [hHq]; exact Nat.mod_lt _ qH
 obtain ⟨X3, hX3⟩ : ∃ v, v = E * F % PP := ⟨_, rfl⟩
 have lX3 : X3 < PP := by rw [hX3]; exact Nat.mod_lt _ qH
 obtain ⟨Y3, hY3⟩ : ∃ v, v = G * Hq % PP := ⟨_, rfl⟩
 have lY3 : Y3 < PP := by rw [hY3]; exact Nat.mod_lt _ qH
 obtain ⟨Z3, hZ3⟩ : ∃ v, v = F * G % PP := ⟨_, rfl⟩
 have lZ3 : Z3 < PP := by rw [hZ3]; exact Nat.mod_lt _ qH
 obtain ⟨T3, hT3⟩ : ∃ v, v = E * Hq % PP := ⟨_, rfl⟩
 have lT3 : T3 < PP := by rw [hT3]; exact Nat.mod_lt _ qH
 have hpd := radd_def X1 Y1 Z1 T1 X2 Y2 Z2 T2 A Bq C0 Cq Dq E1 E2 E F G Hq X3 Y3 Z3 T3 hA hBq hC0 hCq hDq hE1 hE2 hE hF hG hHq hX3 hY3 hZ3 hT3
 rw [hpd]
 have kA := fun w => qO X1 X2 x1 x2 w
 rw [← hA] at kA
 have kB := fun w => qO Y1 Y2 y1 y2 w
 rw [← hBq] at kB
 have kC0 := fun w => qO T1 T2 t1 t2 w
 rw [← hC0] at kC0
 have kC := fun w => qO SL C0 SL_lt lC0 w
 rw [← hCq] at kC
 have kD := fun w => qO Z1 Z2 z1 z2 w
 rw [← hDq] at kD
 have kE1 := fun w => qO X1 Y2 x1 y2 w
 rw [← hE1] at kE1
 have kE2 := fun w => qO Y1 X2 y1 x2 w
 rw [← hE2] at kE2
 have kE := fun w => ZI E1 E2 (zb _ lE1) (zb _ lE2) w
 rw [← hE] at kE
 have kF := fun w => Zh Dq Cq lDq lCq w
 rw [← hF] at kF
 have kG := fun w => ZI Dq Cq (zb _ lDq) (zb _ lCq) w
 rw [← hG] at kG
 have kH := fun w => ZI Bq A (zb _ lBq) (zb _ lA) w
 rw [← hHq] at kH
 have kX := fun w => qO E F lE lF w
 rw [← hX3] at kX
 have kY := fun w => qO G Hq lG lHq w
 rw [← hY3] at kY
 have kZ := fun w => qO F G lF lG w
 rw [← hZ3] at kZ
 have kT := fun w => qO E Hq lE lHq w
 rw [← hT3] at kT
 clear hpd hA lA hBq lBq hC0 lC0 hCq lCq hDq lDq hE1 lE1 hE2 lE2 hE lE hF lF hG lG hHq lHq hX3 lX3 hY3 lY3 hZ3 lZ3 hT3 lT3 x1 y1 z1 t1 x2 y2 z2 t2
 have KA := Lib.hid kA; clear kA
 have KB := Lib.hid kB; clear kB
 have KC0 := Lib.hid kC0; clear kC0
 have KC := Lib.hid kC; clear kC
 have KD := Lib.hid kD; clear kD
 have KE1 := Lib.hid kE1; clear kE1
 have KE2 := Lib.hid kE2; clear kE2
 have KE := Lib.hid kE; clear kE
 have KF := Lib.hid kF; clear kF
 have KG := Lib.hid kG; clear kG
 have KH := Lib.hid kH; clear kH
 have KX := Lib.hid kX; clear kX
 have KY := Lib.hid kY; clear kY
 have KZ := Lib.hid kZ; clear kZ
 have KT := Lib.hid kT; clear kT
 go_enter Try.func52, Try.ntmps52
 repeat ((fail_if_success (with_reducible (show wpList _ _ _ _ _ _))); go_step)
 iterate 3 (refine wpList_step (fun K hK => ?_); go_simp; (try go_bits); refine hK _ _ ?_; clear hK K)
 refine wpList_nil ?_
 have M2 := Lib.hid (((Has.new w  (rp X1 Y1 Z1 T1) 57).alloc (.cells (rp X2 Y2 Z2 T2) 57)).alloc (.cells Try.zeroCells57 57))
 have M3 := Lib.hid ((Has.new1 w (.cells (rp X1 Y1 Z1 T1) 57) (rp X2 Y2 Z2 T2) 57).alloc (.cells Try.zeroCells57 57))
 have M4 := Lib.hid (HasN.new2 w (.cells (rp X1 Y1 Z1 T1) 57) (.cells (rp X2 Y2 Z2 T2) 57) Try.zeroCells57 57 88 (by kernel_rfl))
 have HB := Lib.hid (QD w (.cells (rp X1 Y1 Z1 T1) 57) (.cells (rp X2 Y2 Z2 T2) 57) (.cells Try.zeroCells57 57))
 obtain ⟨yw1, hwyw1⟩ : ∃ ww, ww = (((w.alloc (.cells (rp X1 Y1 Z1 T1) 57)).alloc (.cells (rp X2 Y2 Z2 T2) 57)).alloc (.cells Try.zeroCells57 57)) := ⟨_, rfl⟩
 rw [← hwyw1] at M2 M3 M4 HB ⊢
 clear hwyw1
 repeat ((fail_if_success (with_reducible (show wpList _ _ _ _ _ _))); go_step)
 (refine wpList_step (fun K hK => ?_); go_simp; (try go_bits); refine hK _ _ ?_; clear hK K)
 refine qW (by rfl) 40 _ rfl (w.heap.size) 0 rfl (Qa X1) (r22 X1) rfl (rp_x M2.out) _ Try.underlying40 rfl (by rw [qM]; kernel_rfl) 14 rfl ?_
 (try simp only [Act.put, sI, sS, sZ])
 (refine wpList_step (fun K hK => ?_); go_simp; (try go_bits); refine hK _ _ ?_; clear hK K)
 refine qW (by rfl) 40 _ rfl (w.heap.size + 1) 0 rfl (Qa X2) (r22 X2) rfl (rp_x M3.out) _ Try.underlying40 rfl (by rw [qM]; kernel_rfl) 16 rfl ?_
 (try simp only [Act.put, sI, sS, sZ])
 refine qm (by rfl) rfl rfl (by rfl) zy (by rfl) (KA.out _) 17 rfl ?_
 rintro e uw1 ⟨rfl, hb⟩
 replace M2 := Lib.hid (M2.out.call hb)
 replace M3 := Lib.hid (M3.out.call hb)
 replace M4 := Lib.hid (M4.out.call hb)
 replace HB := Lib.hid (qh HB.out hb)
 refine ⟨_, rfl, ?_⟩
 clear hb
 (try simp only [Act.put, sI, sS, sZ])
 refine qJ (by rfl) 40 rfl _ qbd 5 rfl ?_
 intro yw2 hw2
 have hlt3 := M2.out.lt
 have hlt4 := M3.out.lt
 have hlt5 := M4.out.lt
 have hsz := HB.out.size
 replace M2 := Lib.hid (M2.out.alloc (.cells z40 40))
 replace M3 := Lib.hid (M3.out.alloc (.cells z40 40))
 replace M4 := Lib.hid (M4.out.alloc (.cells z40 40))
 have M5 := Lib.hid (HasN.new uw1 z40 40 22 (by kernel_rfl))
 replace HB := Lib.hid (HB.out.alloc hsz (.cells z40 40))
 rw [← hw2] at M2 M3 M4 M5 HB; clear hw2
 (try simp only [Act.put, sI, sS, sZ])
 first | (obtain ⟨Zq, hZ, mZ⟩ := M5.out) | (obtain ⟨Zq, hZ, mZ⟩ := M5.out.toN (qe ..))
 refine ql (by rfl) 40 _ _ rfl rfl (uw1.heap.size) (r22 A) rfl rfl 40 Zq mZ (by rw [qe]; kernel_rfl) (hZ.trans (qe ..).symm) (qp _ _ _) ?_
 intro yw6 hw2
 replace M2 := Lib.hid (M2.out.setRow_other (uw1.heap.size) (r22 A) (by omega))
 replace M3 := Lib.hid (M3.out.setRow_other (uw1.heap.size) (r22 A) (by omega))
 replace M4 := Lib.hid (M4.out.setRow_other (uw1.heap.size) (r22 A) (by omega))
 replace M5 := Lib.hid (mZ.setRow (r22 A))
 replace HB := Lib.hid (below_setRow HB.out (uw1.heap.size) (r22 A) (by omega))
 rw [← hw2] at M2 M3 M4 M5 HB; clear mZ hZ hw2
 refine wpList_nil ?_
 repeat ((fail_if_success (with_reducible (show wpList _ _ _ _ _ _))); go_step)
 (refine wpList_step (fun K hK => ?_); go_simp; (try go_bits); refine hK _ _ ?_; clear hK K)
 refine qW (by rfl) 40 _ rfl (w.heap.size) 22 rfl (Qa Y1) (r22 Y1) rfl (rp_y M2.out) _ Try.underlying40 rfl (by rw [qM]; kernel_rfl) 19 rfl ?_
 (try simp only [Act.put, sI, sS, sZ])
 (refine wpList_step (fun K hK => ?_); go_simp; (try go_bits); refine hK _ _ ?_; clear hK K)
 refine qW (by rfl) 40 _ rfl (w.heap.size + 1) 22 rfl (Qa Y2) (r22 Y2) rfl (rp_y M3.out) _ Try.underlying40 rfl (by rw [qM]; kernel_rfl) 21 rfl ?_
 (try simp only [Act.put, sI, sS, sZ])
 refine qm (by rfl) rfl rfl (by rfl) zy (by rfl) (KB.out _) 22 rfl ?_
 rintro e uw2 ⟨rfl, hb⟩
 replace M2 := Lib.hid (M2.out.call hb)
 replace M3 := Lib.hid (M3.out.call hb)
 replace M4 := Lib.hid (M4.out.call hb)
 replace M5 := Lib.hid (M5.out.call hb)
 replace HB := Lib.hid (qh HB.out hb)
 refine ⟨_, rfl, ?_⟩
 clear hb
 (try simp only [Act.put, sI, sS, sZ])
 refine qJ (by rfl) 40 rfl _ qbd 6 rfl ?_
 intro yw7 hw2
 have hlt8 := M2.out.lt
 have hlt9 := M3.out.lt
 have hlt10 := M4.out.lt
 have hlt11 := M5.out.lt
 have hsz := HB.out.size
 replace M2 := Lib.hid (M2.out.alloc (.cells z40 40))
 replace M3 := Lib.hid (M3.out.alloc (.cells z40 40))
 replace M4 := Lib.hid (M4.out.alloc (.cells z40 40))
 replace M5 := Lib.hid (M5.out.alloc (.cells z40 40))
 have M6 := Lib.hid (HasN.new uw2 z40 40 22 (by kernel_rfl))
 replace HB := Lib.hid (HB.out.alloc hsz (.cells z40 40))
 rw [← hw2] at M2 M3 M4 M5 M6 HB; clear hw2
 (try simp only [Act.put, sI, sS, sZ])
 first | (obtain ⟨Zq, hZ, mZ⟩ := M6.out) | (obtain ⟨Zq, hZ, mZ⟩ := M6.out.toN (qe ..))
 refine ql (by rfl) 40 _ _ rfl rfl (uw2.heap.size) (r22 Bq) rfl rfl 40 Zq mZ (by rw [qe]; kernel_rfl) (hZ.trans (qe ..).symm) (qp _ _ _) ?_
 intro yw12 hw2
 replace M2 := Lib.hid (M2.out.setRow_other (uw2.heap.size) (r22 Bq) (by omega))
 replace M3 := Lib.hid (M3.out.setRow_other (uw2.heap.size) (r22 Bq) (by omega))
 replace M4 := Lib.hid (M4.out.setRow_other (uw2.heap.size) (r22 Bq) (by omega))
 replace M5 := Lib.hid (M5.out.setRow_other (uw2.heap.size) (r22 Bq) (by omega))
 replace M6 := Lib.hid (mZ.setRow (r22 Bq))
 replace HB := Lib.hid (below_setRow HB.out (uw2.heap.size) (r22 Bq) (by omega))
 rw [← hw2] at M2 M3 M4 M5 M6 HB; clear mZ hZ hw2
 refine wpList_nil ?_
 repeat ((fail_if_success (with_reducible (show wpList _ _ _ _ _ _))); go_step)
 refine Zb (α := Nat) (fun W0 x w' => W0.heap.size ≤ x ∧ Has w' x (r22 Cq) 40 ∧ Below W0.heap.size W0 w') (fun ac x => ((((((((ac.put (some 23) (.agg (r22 SL))).put (some 24) (.pointer (some ⟨w.heap.size, 66, none⟩))).put (some 25) (.agg (r22 T1))).put (some 26) (.pointer (some ⟨w.heap.size + 1, 66, none⟩))).put (some 27) (.agg (r22 T2))).put (some 28) (.agg (r22 C0))).put (some 29) (.agg (r22 Cq))).put (some 7) (.pointer (some ⟨x, 0, none⟩)))) ?_ ?_
 · intro Q' hQ'
   refine wp_region_noPanic ?_
   refine Qm 99 9 #[ff,ff,ff,ff,ff,ff,ff,ff,ff] (by kernel_rfl) rfl rfl ?_
   intro W13 hW13
   rw [← hW13] at hQ'
   simp only [Act.put, List.setIfInBounds_toArray, List.set_cons_succ, List.set_cons_zero] at hQ'
   have HQ := Lib.hid hQ'; clear hQ'
   rw [← hW13] at M2 M3 M4 M5 M6 HB
   clear hW13
   refine qg 1 24 #[ff,tt,ff,ff,ff,ff,ff,ff,ff] (v := ?uv1) rfl rfl rfl (by kernel_rfl) (Or.inl ⟨by rfl, ?uy1⟩) ((qt W13)) ?urest1
   case uy1 => (intro _ _; go_simp; try with_reducible rfl)
   (try simp only [sI, sS, sZ])
   refine qg 2 25 #[ff,tt,tt,ff,ff,ff,ff,ff,ff] rfl rfl rfl (by kernel_rfl) (qS (by rfl) 40 _ rfl (w.heap.size) 66 rfl (Qa T1) (r22 T1) rfl (fun _ h => Qv (rp_t M2.out) h M2.out.lt) _ Try.underlying40 rfl (by rw [qM]; kernel_rfl)) ((qt W13)) ?_
   (try simp only [sI, sS, sZ])
   refine qg 3 26 #[ff,tt,tt,tt,ff,ff,ff,ff,ff] (v := ?uv2) rfl rfl rfl (by kernel_rfl) (Or.inl ⟨by rfl, ?uy2⟩) ((qt W13)) ?urest2
   case uy2 => (intro _ _; go_simp; try with_reducible rfl)
   (try simp only [sI, sS, sZ])
   refine qg 4 27 #[ff,tt,tt,tt,tt,ff,ff,ff,ff] rfl rfl rfl (by kernel_rfl) (qS (by rfl) 40 _ rfl (w.heap.size + 1) 66 rfl (Qa T2) (r22 T2) rfl (fun _ h => Qv (rp_t M3.out) h M3.out.lt) _ Try.underlying40 rfl (by rw [qM]; kernel_rfl)) ((qt W13)) ?_
   (try simp only [sI, sS, sZ])
   refine zw (i := 0) (j := 7) (by kernel_rfl) ?_ ?_
   refine qE 0 23 #[tt,tt,tt,tt,tt,ff,ff,ff,ff] rfl rfl rfl (by rfl) rfl rfl (by rfl) ent89 (by rfl) (qa7 _) ?_
   rintro e wW131 ⟨rfl, hb⟩
   have hkW131 := qh (qt W13) hb
   refine ⟨_, rfl, fun _ => hkW131, ?_⟩
   clear hb
   (try simp only [sI, sS, sZ])
   refine zw (i := 5) (j := 7) (by kernel_rfl) ?_ ?_
   refine qE 5 28 #[tt,tt,tt,tt,tt,tt,ff,ff,ff] rfl rfl rfl (by rfl) rfl rfl (by rfl) zy (by rfl) (KC0.out _) ?_
   rintro e wW132 ⟨rfl, hb⟩
   have hkW132 := qh hkW131 hb
   refine ⟨_, rfl, fun _ => hkW132, ?_⟩
   clear hb
   (try simp only [sI, sS, sZ])
   refine zw (i := 6) (j := 7) (by kernel_rfl) ?_ ?_
   refine qE 6 29 #[tt,tt,tt,tt,tt,tt,tt,ff,ff] rfl rfl rfl (by rfl) rfl rfl (by rfl) zy (by rfl) (KC.out _) ?_
   rintro e wW133 ⟨rfl, hb⟩
   have hkW133 := qh hkW132 hb
   refine ⟨_, rfl, fun _ => hkW133, ?_⟩
   clear hb
   (try simp only [sI, sS, sZ])
   refine qk (i := 7) (by kernel_rfl) ?_
   refine QO 7 7 #[tt,tt,tt,tt,tt,tt,tt,tt,ff] rfl rfl rfl (by rfl) 40 rfl _ qbd ?_
   intro wW134 hw2
   have hkW134 := (hkW133).alloc (hkW133).size (.cells z40 40)
   rw [← hw2] at hkW134
   have MA7 := Lib.hid (HasN.new (wW133) z40 40 22 (by kernel_rfl))
   rw [← hw2] at MA7
   have HA7 := Lib.hid (show W13.heap.size ≤ _ from (hkW133).size)
   clear hw2
   refine ⟨fun _ => hkW134, ?_⟩
   (try simp only [sI, sS, sZ])
   refine qk (i := 8) (by kernel_rfl) ?_
   obtain ⟨Zq, hZ, mZ⟩ := MA7.out
   refine qZ 8 #[tt,tt,tt,tt,tt,tt,tt,tt,tt] rfl rfl rfl (by rfl) 40 _ _ rfl _ _ rfl rfl 40 Zq mZ (by rw [qe]; kernel_rfl) (hZ.trans (qe ..).symm) (qp _ _ _) ?_
   intro wW135 hw2
   have hkW135 := below_setRow (hkW134) _ (r22 Cq) HA7.out
   rw [← hw2] at hkW135
   clear MA7
   have MA7 := Lib.hid (mZ.setRow (r22 Cq))
   rw [← hw2] at MA7; clear mZ hZ hw2
   refine ⟨fun _ => hkW135, ?_⟩
   (try simp only [sI, sS, sZ])
   exact qu (by kernel_rfl) (NoPanic.normal (HQ.out (_) _ ⟨HA7.out, MA7.out, (hkW135)⟩))
   refine QO 7 7 #[tt,tt,tt,tt,tt,tt,ff,tt,ff] rfl rfl rfl (by rfl) 40 rfl _ qbd ?_
   intro wW133 hw2
   have hkW133 := (hkW132).alloc (hkW132).size (.cells z40 40)
   rw [← hw2] at hkW133
   have MA7 := Lib.hid (HasN.new (wW132) z40 40 22 (by kernel_rfl))
   rw [← hw2] at MA7
   have HA7 := Lib.hid (show W13.heap.size ≤ _ from (hkW132).size)
   clear hw2
   refine ⟨fun _ => hkW133, ?_⟩
   (try simp only [sI, sS, sZ])
   refine qk (i := 6) (by kernel_rfl) ?_
   refine qE 6 29 #[tt,tt,tt,tt,tt,tt,tt,tt,ff] rfl rfl rfl (by rfl) rfl rfl (by rfl) zy (by rfl) (KC.out _) ?_
   rintro e wW134 ⟨rfl, hb⟩
   have hkW134 := qh hkW133 hb
   replace MA7 := Lib.hid (MA7.out.call hb)
   refine ⟨_, rfl, fun _ => hkW134, ?_⟩
   clear hb
   (try simp only [sI, sS, sZ])
   refine qk (i := 8) (by kernel_rfl) ?_
   obtain ⟨Zq, hZ, mZ⟩ := MA7.out
   refine qZ 8 #[tt,tt,tt,tt,tt,tt,tt,tt,tt] rfl rfl rfl (by rfl) 40 _ _ rfl _ _ rfl rfl 40 Zq mZ (by rw [qe]; kernel_rfl) (hZ.trans (qe ..).symm) (qp _ _ _) ?_
   intro wW135 hw2
   have hkW135 := below_setRow (hkW134) _ (r22 Cq) HA7.out
   rw [← hw2] at hkW135
   clear MA7
   have MA7 := Lib.hid (mZ.setRow (r22 Cq))
   rw [← hw2] at MA7; clear mZ hZ hw2
   refine ⟨fun _ => hkW135, ?_⟩
   (try simp only [sI, sS, sZ])
   exact qu (by kernel_rfl) (NoPanic.normal (HQ.out (_) _ ⟨HA7.out, MA7.out, (hkW135)⟩))
   refine QO 7 7 #[tt,tt,tt,tt,tt,ff,ff,tt,ff] rfl rfl rfl (by rfl) 40 rfl _ qbd ?_
   intro wW132 hw2
   have hkW132 := (hkW131).alloc (hkW131).size (.cells z40 40)
   rw [← hw2] at hkW132
   have MA7 := Lib.hid (HasN.new (wW131) z40 40 22 (by kernel_rfl))
   rw [← hw2] at MA7
   have HA7 := Lib.hid (show W13.heap.size ≤ _ from (hkW131).size)
   clear hw2
   refine ⟨fun _ => hkW132, ?_⟩
   (try simp only [sI, sS, sZ])
   refine qk (i := 5) (by kernel_rfl) ?_
   refine qE 5 28 #[tt,tt,tt,tt,tt,tt,ff,tt,ff] rfl rfl rfl (by rfl) rfl rfl (by rfl) zy (by rfl) (KC0.out _) ?_
   rintro e wW133 ⟨rfl, hb⟩
   have hkW133 := qh hkW132 hb
   replace MA7 := Lib.hid (MA7.out.call hb)
   refine ⟨_, rfl, fun _ => hkW133, ?_⟩
   clear hb
   (try simp only [sI, sS, sZ])
   refine qk (i := 6) (by kernel_rfl) ?_
   refine qE 6 29 #[tt,tt,tt,tt,tt,tt,tt,tt,ff] rfl rfl rfl (by rfl) rfl rfl (by rfl) zy (by rfl) (KC.out _) ?_
   rintro e wW134 ⟨rfl, hb⟩
   have hkW134 := qh hkW133 hb
   replace MA7 := Lib.hid (MA7.out.call hb)
   refine ⟨_, rfl, fun _ => hkW134, ?_⟩
   clear hb
   (try simp only [sI, sS, sZ])
   refine qk (i := 8) (by kernel_rfl) ?_
   obtain ⟨Zq, hZ, mZ⟩ := MA7.out
   refine qZ 8 #[tt,tt,tt,tt,tt,tt,tt,tt,tt] rfl rfl rfl (by rfl) 40 _ _ rfl _ _ rfl rfl 40 Zq mZ (by rw [qe]; kernel_rfl) (hZ.trans (qe ..).symm) (qp _ _ _) ?_
   intro wW135 hw2
   have hkW135 := below_setRow (hkW134) _ (r22 Cq) HA7.out
   rw [← hw2] at hkW135
   clear MA7
   have MA7 := Lib.hid (mZ.setRow (r22 Cq))
   rw [← hw2] at MA7; clear mZ hZ hw2
   refine ⟨fun _ => hkW135, ?_⟩
   (try simp only [sI, sS, sZ])
   exact qu (by kernel_rfl) (NoPanic.normal (HQ.out (_) _ ⟨HA7.out, MA7.out, (hkW135)⟩))
   refine QO 7 7 #[ff,tt,tt,tt,tt,ff,ff,tt,ff] rfl rfl rfl (by rfl) 40 rfl _ qbd ?_
   intro wW131 hw2
   have hkW131 := ((qt W13)).alloc ((qt W13)).size (.cells z40 40)
   rw [← hw2] at hkW131
   have MA7 := Lib.hid (HasN.new (W13.drew) z40 40 22 (by kernel_rfl))
   rw [← hw2] at MA7
   have HA7 := Lib.hid (show W13.heap.size ≤ _ from ((qt W13)).size)
   clear hw2
   refine ⟨fun _ => hkW131, ?_⟩
   (try simp only [sI, sS, sZ])
   refine qk (i := 0) (by kernel_rfl) ?_
   refine qE 0 23 #[tt,tt,tt,tt,tt,ff,ff,tt,ff] rfl rfl rfl (by rfl) rfl rfl (by rfl) ent89 (by rfl) (qa7 _) ?_
   rintro e wW132 ⟨rfl, hb⟩
   have hkW132 := qh hkW131 hb
   replace MA7 := Lib.hid (MA7.out.call hb)
   refine ⟨_, rfl, fun _ => hkW132, ?_⟩
   clear hb
   (try simp only [sI, sS, sZ])
   refine qk (i := 5) (by kernel_rfl) ?_
   refine qE 5 28 #[tt,tt,tt,tt,tt,tt,ff,tt,ff] rfl rfl rfl (by rfl) rfl rfl (by rfl) zy (by rfl) (KC0.out _) ?_
   rintro e wW133 ⟨rfl, hb⟩
   have hkW133 := qh hkW132 hb
   replace MA7 := Lib.hid (MA7.out.call hb)
   refine ⟨_, rfl, fun _ => hkW133, ?_⟩
   clear hb
   (try simp only [sI, sS, sZ])
   refine qk (i := 6) (by kernel_rfl) ?_
   refine qE 6 29 #[tt,tt,tt,tt,tt,tt,tt,tt,ff] rfl rfl rfl (by rfl) rfl rfl (by rfl) zy (by rfl) (KC.out _) ?_
   rintro e wW134 ⟨rfl, hb⟩
   have hkW134 := qh hkW133 hb
   replace MA7 := Lib.hid (MA7.out.call hb)
   refine ⟨_, rfl, fun _ => hkW134, ?_⟩
   clear hb
   (try simp only [sI, sS, sZ])
   refine qk (i := 8) (by kernel_rfl) ?_
   obtain ⟨Zq, hZ, mZ⟩ := MA7.out
   refine qZ 8 #[tt,tt,tt,tt,tt,tt,tt,tt,tt] rfl rfl rfl (by rfl) 40 _ _ rfl _ _ rfl rfl 40 Zq mZ (by rw [qe]; kernel_rfl) (hZ.trans (qe ..).symm) (qp _ _ _) ?_
   intro wW135 hw2
   have hkW135 := below_setRow (hkW134) _ (r22 Cq) HA7.out
   rw [← hw2] at hkW135
   clear MA7
   have MA7 := Lib.hid (mZ.setRow (r22 Cq))
   rw [← hw2] at MA7; clear mZ hZ hw2
   refine ⟨fun _ => hkW135, ?_⟩
   (try simp only [sI, sS, sZ])
   exact qu (by kernel_rfl) (NoPanic.normal (HQ.out (_) _ ⟨HA7.out, MA7.out, (hkW135)⟩))
 · rintro W13 B7 vw13 hW13 ⟨hBq0, mBq0, hbw⟩
   simp only [Act.put, List.setIfInBounds_toArray, List.set_cons_succ, List.set_cons_zero] at  hBq0  mBq0 ⊢
   rw [← hW13] at M2 M3 M4 M5 M6 HB
   clear hW13
   have hltM2_13 := M2.out.lt
   have hltM3_13 := M3.out.lt
   have hltM4_13 := M4.out.lt
   have hltM5_13 := M5.out.lt
   have hltM6_13 := M6.out.lt
   replace M2 := Lib.hid (M2.out.call hbw)
   replace M3 := Lib.hid (M3.out.call hbw)
   replace M4 := Lib.hid (M4.out.call hbw)
   replace M5 := Lib.hid (M5.out.call hbw)
   replace M6 := Lib.hid (M6.out.call hbw)
   replace HB := Lib.hid (qh HB.out hbw)
   have M7 := Lib.hid mBq0; clear mBq0
   clear hbw
   repeat ((fail_if_success (with_reducible (show wpList _ _ _ _ _ _))); go_step)
   (refine wpList_step (fun K hK => ?_); go_simp; (try go_bits); refine hK _ _ ?_; clear hK K)
   refine qW (by rfl) 40 _ rfl (w.heap.size) 44 rfl (Qa Z1) (r22 Z1) rfl (rp_z M2.out) _ Try.underlying40 rfl (by rw [qM]; kernel_rfl) 31 rfl ?_
   (try simp only [Act.put, sI, sS, sZ])
   (refine wpList_step (fun K hK => ?_); go_simp; (try go_bits); refine hK _ _ ?_; clear hK K)
   refine qW (by rfl) 40 _ rfl (w.heap.size + 1) 44 rfl (Qa Z2) (r22 Z2) rfl (rp_z M3.out) _ Try.underlying40 rfl (by rw [qM]; kernel_rfl) 33 rfl ?_
   (try simp only [Act.put, sI, sS, sZ])
   refine qm (by rfl) rfl rfl (by rfl) zy (by rfl) (KD.out _) 34 rfl ?_
   rintro e uw3 ⟨rfl, hb⟩
   replace M2 := Lib.hid (M2.out.call hb)
   replace M3 := Lib.hid (M3.out.call hb)
   replace M4 := Lib.hid (M4.out.call hb)
   replace M5 := Lib.hid (M5.out.call hb)
   replace M6 := Lib.hid (M6.out.call hb)
   replace M7 := Lib.hid (M7.out.call hb)
   replace HB := Lib.hid (qh HB.out hb)
   refine ⟨_, rfl, ?_⟩
   clear hb
   (try simp only [Act.put, sI, sS, sZ])
   refine qJ (by rfl) 40 rfl _ qbd 8 rfl ?_
   intro yw14 hw2
   have hlt15 := M2.out.lt
   have hlt16 := M3.out.lt
   have hlt17 := M4.out.lt
   have hlt18 := M5.out.lt
   have hlt19 := M6.out.lt
   have hlt20 := M7.out.lt
   have hsz := HB.out.size
   replace M2 := Lib.hid (M2.out.alloc (.cells z40 40))
   replace M3 := Lib.hid (M3.out.alloc (.cells z40 40))
   replace M4 := Lib.hid (M4.out.alloc (.cells z40 40))
   replace M5 := Lib.hid (M5.out.alloc (.cells z40 40))
   replace M6 := Lib.hid (M6.out.alloc (.cells z40 40))
   replace M7 := Lib.hid (M7.out.alloc (.cells z40 40))
   have M8 := Lib.hid (HasN.new uw3 z40 40 22 (by kernel_rfl))
   replace HB := Lib.hid (HB.out.alloc hsz (.cells z40 40))
   rw [← hw2] at M2 M3 M4 M5 M6 M7 M8 HB; clear hw2
   (try simp only [Act.put, sI, sS, sZ])
   first | (obtain ⟨Zq, hZ, mZ⟩ := M8.out) | (obtain ⟨Zq, hZ, mZ⟩ := M8.out.toN (qe ..))
   refine ql (by rfl) 40 _ _ rfl rfl (uw3.heap.size) (r22 Dq) rfl rfl 40 Zq mZ (by rw [qe]; kernel_rfl) (hZ.trans (qe ..).symm) (qp _ _ _) ?_
   intro yw21 hw2
   replace M2 := Lib.hid (M2.out.setRow_other (uw3.heap.size) (r22 Dq) (by omega))
   replace M3 := Lib.hid (M3.out.setRow_other (uw3.heap.size) (r22 Dq) (by omega))
   replace M4 := Lib.hid (M4.out.setRow_other (uw3.heap.size) (r22 Dq) (by omega))
   replace M5 := Lib.hid (M5.out.setRow_other (uw3.heap.size) (r22 Dq) (by omega))
   replace M6 := Lib.hid (M6.out.setRow_other (uw3.heap.size) (r22 Dq) (by omega))
   replace M7 := Lib.hid (M7.out.setRow_other (uw3.heap.size) (r22 Dq) (by omega))
   replace M8 := Lib.hid (mZ.setRow (r22 Dq))
   replace HB := Lib.hid (below_setRow HB.out (uw3.heap.size) (r22 Dq) (by omega))
   rw [← hw2] at M2 M3 M4 M5 M6 M7 M8 HB; clear mZ hZ hw2
   refine wpList_nil ?_
   repeat ((fail_if_success (with_reducible (show wpList _ _ _ _ _ _))); go_step)
   refine Zb (α := Nat) (fun W0 x w' => W0.heap.size ≤ x ∧ Has w' x (r22 E) 40 ∧ Below W0.heap.size W0 w') (fun ac x => ((((((((((((ac.put (some 35) (.pointer (some ⟨w.heap.size, 0, none⟩))).put (some 36) (.agg (r22 X1))).put (some 37) (.pointer (some ⟨w.heap.size + 1, 22, none⟩))).put (some 38) (.agg (r22 Y2))).put (some 39) (.agg (r22 E1))).put (some 40) (.pointer (some ⟨w.heap.size, 22, none⟩))).put (some 41) (.agg (r22 Y1))).put (some 42) (.pointer (some ⟨w.heap.size + 1, 0, none⟩))).put (some 43) (.agg (r22 X2))).put (some 44) (.agg (r22 E2))).put (some 45) (.agg (r22 E))).put (some 9) (.pointer (some ⟨x, 0, none⟩)))) ?_ ?_
   · intro Q' hQ'
     refine wp_region_noPanic ?_
     refine Qm 99 13 #[ff,ff,ff,ff,ff,ff,ff,ff,ff,ff,ff,ff,ff] (by kernel_rfl) rfl rfl ?_
     intro W22 hW22
     rw [← hW22] at hQ'
     simp only [Act.put, List.setIfInBounds_toArray, List.set_cons_succ, List.set_cons_zero] at hQ'
     have HQ := Lib.hid hQ'; clear hQ'
     rw [← hW22] at M2 M3 M4 M5 M6 M7 M8 HB
     clear hW22
     refine qg 0 35 #[tt,ff,ff,ff,ff,ff,ff,ff,ff,ff,ff,ff,ff] (v := ?uv3) rfl rfl rfl (by kernel_rfl) (Or.inl ⟨by rfl, ?uy3⟩) ((qt W22)) ?urest3
     case uy3 => (intro _ _; go_simp; try with_reducible rfl)
     (try simp only [sI, sS, sZ])
     refine qg 1 36 #[tt,tt,ff,ff,ff,ff,ff,ff,ff,ff,ff,ff,ff] rfl rfl rfl (by kernel_rfl) (qS (by rfl) 40 _ rfl (w.heap.size) 0 rfl (Qa X1) (r22 X1) rfl (fun _ h => Qv (rp_x M2.out) h M2.out.lt) _ Try.underlying40 rfl (by rw [qM]; kernel_rfl)) ((qt W22)) ?_
     (try simp only [sI, sS, sZ])
     refine qg 2 37 #[tt,tt,tt,ff,ff,ff,ff,ff,ff,ff,ff,ff,ff] (v := ?uv4) rfl rfl rfl (by kernel_rfl) (Or.inl ⟨by rfl, ?uy4⟩) ((qt W22)) ?urest4
     case uy4 => (intro _ _; go_simp; try with_reducible rfl)
     (try simp only [sI, sS, sZ])
     refine qg 3 38 #[tt,tt,tt,tt,ff,ff,ff,ff,ff,ff,ff,ff,ff] rfl rfl rfl (by kernel_rfl) (qS (by rfl) 40 _ rfl (w.heap.size + 1) 22 rfl (Qa Y2) (r22 Y2) rfl (fun _ h => Qv (rp_y M3.out) h M3.out.lt) _ Try.underlying40 rfl (by rw [qM]; kernel_rfl)) ((qt W22)) ?_
     (try simp only [sI, sS, sZ])
     refine qg 5 40 #[tt,tt,tt,tt,ff,tt,ff,ff,ff,ff,ff,ff,ff] (v := ?uv5) rfl rfl rfl (by kernel_rfl) (Or.inl ⟨by rfl, ?uy5⟩) ((qt W22)) ?urest5
     case uy5 => (intro _ _; go_simp; try with_reducible rfl)
     (try simp only [sI, sS, sZ])
     refine qg 6 41 #[tt,tt,tt,tt,ff,tt,tt,ff,ff,ff,ff,ff,ff] rfl rfl rfl (by kernel_rfl) (qS (by rfl) 40 _ rfl (w.heap.size) 22 rfl (Qa Y1) (r22 Y1) rfl (fun _ h => Qv (rp_y M2.out) h M2.out.lt) _ Try.underlying40 rfl (by rw [qM]; kernel_rfl)) ((qt W22)) ?_
     (try simp only [sI, sS, sZ])
     refine qg 7 42 #[tt,tt,tt,tt,ff,tt,tt,tt,ff,ff,ff,ff,ff] (v := ?uv6) rfl rfl rfl (by kernel_rfl) (Or.inl ⟨by rfl, ?uy6⟩) ((qt W22)) ?urest6
     case uy6 => (intro _ _; go_simp; try with_reducible rfl)
     (try simp only [sI, sS, sZ])
     refine qg 8 43 #[tt,tt,tt,tt,ff,tt,tt,tt,tt,ff,ff,ff,ff] rfl rfl rfl (by kernel_rfl) (qS (by rfl) 40 _ rfl (w.heap.size + 1) 0 rfl (Qa X2) (r22 X2) rfl (fun _ h => Qv (rp_x M3.out) h M3.out.lt) _ Try.underlying40 rfl (by rw [qM]; kernel_rfl)) ((qt W22)) ?_
     (try simp only [sI, sS, sZ])
     refine zw (i := 4) (j := 11) (by kernel_rfl) ?_ ?_
     refine qE 4 39 #[tt,tt,tt,tt,tt,tt,tt,tt,tt,ff,ff,ff,ff] rfl rfl rfl (by rfl) rfl rfl (by rfl) zy (by rfl) (KE1.out _) ?_
     rintro e wW221 ⟨rfl, hb⟩
     have hkW221 := qh (qt W22) hb
     refine ⟨_, rfl, fun _ => hkW221, ?_⟩
     clear hb
     (try simp only [sI, sS, sZ])
     refine zw (i := 9) (j := 11) (by kernel_rfl) ?_ ?_
     refine qE 9 44 #[tt,tt,tt,tt,tt,tt,tt,tt,tt,tt,ff,ff,ff] rfl rfl rfl (by rfl) rfl rfl (by rfl) zy (by rfl) (KE2.out _) ?_
     rintro e wW222 ⟨rfl, hb⟩
     have hkW222 := qh hkW221 hb
     refine ⟨_, rfl, fun _ => hkW222, ?_⟩
     clear hb
     (try simp only [sI, sS, sZ])
     refine zw (i := 10) (j := 11) (by kernel_rfl) ?_ ?_
     refine qE 10 45 #[tt,tt,tt,tt,tt,tt,tt,tt,tt,tt,tt,ff,ff] rfl rfl rfl (by rfl) rfl rfl (by rfl) qdR (by rfl) (KE.out _) ?_
     rintro e wW223 ⟨rfl, hb⟩
     have hkW223 := qh hkW222 hb
     refine ⟨_, rfl, fun _ => hkW223, ?_⟩
     clear hb
     (try simp only [sI, sS, sZ])
     refine qk (i := 11) (by kernel_rfl) ?_
     refine QO 11 9 #[tt,tt,tt,tt,tt,tt,tt,tt,tt,tt,tt,tt,ff] rfl rfl rfl (by rfl) 40 rfl _ qbd ?_
     intro wW224 hw2
     have hkW224 := (hkW223).alloc (hkW223).size (.cells z40 40)
     rw [← hw2] at hkW224
     have MA11 := Lib.hid (HasN.new (wW223) z40 40 22 (by kernel_rfl))
     rw [← hw2] at MA11
     have HA11 := Lib.hid (show W22.heap.size ≤ _ from (hkW223).size)
     clear hw2
     refine ⟨fun _ => hkW224, ?_⟩
     (try simp only [sI, sS, sZ])
     refine qk (i := 12) (by kernel_rfl) ?_
     obtain ⟨Zq, hZ, mZ⟩ := MA11.out
     refine qZ 12 #[tt,tt,tt,tt,tt,tt,tt,tt,tt,tt,tt,tt,tt] rfl rfl rfl (by rfl) 40 _ _ rfl _ _ rfl rfl 40 Zq mZ (by rw [qe]; kernel_rfl) (hZ.trans (qe ..).symm) (qp _ _ _) ?_
     intro wW225 hw2
     have hkW225 := below_setRow (hkW224) _ (r22 E) HA11.out
     rw [← hw2] at hkW225
     clear MA11
     have MA11 := Lib.hid (mZ.setRow (r22 E))
     rw [← hw2] at MA11; clear mZ hZ hw2
     refine ⟨fun _ => hkW225, ?_⟩
     (try simp only [sI, sS, sZ])
     exact qu (by kernel_rfl) (NoPanic.normal (HQ.out (_) _ ⟨HA11.out, MA11.out, (hkW225)⟩))
     refine QO 11 9 #[tt,tt,tt,tt,tt,tt,tt,tt,tt,tt,ff,tt,ff] rfl rfl rfl (by rfl) 40 rfl _ qbd ?_
     intro wW223 hw2
     have hkW223 := (hkW222).alloc (hkW222).size (.cells z40 40)
     rw [← hw2] at hkW223
     have MA11 := Lib.hid (HasN.new (wW222) z40 40 22 (by kernel_rfl))
     rw [← hw2] at MA11
     have HA11 := Lib.hid (show W22.heap.size ≤ _ from (hkW222).size)
     clear hw2
     refine ⟨fun _ => hkW223, ?_⟩
     (try simp only [sI, sS, sZ])
     refine qk (i := 10) (by kernel_rfl) ?_
     refine qE 10 45 #[tt,tt,tt,tt,tt,tt,tt,tt,tt,tt,tt,tt,ff] rfl rfl rfl (by rfl) rfl rfl (by rfl) qdR (by rfl) (KE.out _) ?_
     rintro e wW224 ⟨rfl, hb⟩
     have hkW224 := qh hkW223 hb
     replace MA11 := Lib.hid (MA11.out.call hb)
     refine ⟨_, rfl, fun _ => hkW224, ?_⟩
     clear hb
     (try simp only [sI, sS, sZ])
     refine qk (i := 12) (by kernel_rfl) ?_
     obtain ⟨Zq, hZ, mZ⟩ := MA11.out
     refine qZ 12 #[tt,tt,tt,tt,tt,tt,tt,tt,tt,tt,tt,tt,tt] rfl rfl rfl (by rfl) 40 _ _ rfl _ _ rfl rfl 40 Zq mZ (by rw [qe]; kernel_rfl) (hZ.trans (qe ..).symm) (qp _ _ _) ?_
     intro wW225 hw2
     have hkW225 := below_setRow (hkW224) _ (r22 E) HA11.out
     rw [← hw2] at hkW225
     clear MA11
     have MA11 := Lib.hid (mZ.setRow (r22 E))
     rw [← hw2] at MA11; clear mZ hZ hw2
     refine ⟨fun _ => hkW225, ?_⟩
     (try simp only [sI, sS, sZ])
     exact qu (by kernel_rfl) (NoPanic.normal (HQ.out (_) _ ⟨HA11.out, MA11.out, (hkW225)⟩))
     refine QO 11 9 #[tt,tt,tt,tt,tt,tt,tt,tt,tt,ff,ff,tt,ff] rfl rfl rfl (by rfl) 40 rfl _ qbd ?_
     intro wW222 hw2
     have hkW222 := (hkW221).alloc (hkW221).size (.cells z40 40)
     rw [← hw2] at hkW222
     have MA11 := Lib.hid (HasN.new (wW221) z40 40 22 (by kernel_rfl))
     rw [← hw2] at MA11
     have HA11 := Lib.hid (show W22.heap.size ≤ _ from (hkW221).size)
     clear hw2
     refine ⟨fun _ => hkW222, ?_⟩
     (try simp only [sI, sS, sZ])
     refine qk (i := 9) (by kernel_rfl) ?_
     refine qE 9 44 #[tt,tt,tt,tt,tt,tt,tt,tt,tt,tt,ff,tt,ff] rfl rfl rfl (by rfl) rfl rfl (by rfl) zy (by rfl) (KE2.out _) ?_
     rintro e wW223 ⟨rfl, hb⟩
     have hkW223 := qh hkW222 hb
     replace MA11 := Lib.hid (MA11.out.call hb)
     refine ⟨_, rfl, fun _ => hkW223, ?_⟩
     clear hb
     (try simp only [sI, sS, sZ])
     refine qk (i := 10) (by kernel_rfl) ?_
     refine qE 10 45 #[tt,tt,tt,tt,tt,tt,tt,tt,tt,tt,tt,tt,ff] rfl rfl rfl (by rfl) rfl rfl (by rfl) qdR (by rfl) (KE.out _) ?_
     rintro e wW224 ⟨rfl, hb⟩
     have hkW224 := qh hkW223 hb
     replace MA11 := Lib.hid (MA11.out.call hb)
     refine ⟨_, rfl, fun _ => hkW224, ?_⟩
     clear hb
     (try simp only [sI, sS, sZ])
     refine qk (i := 12) (by kernel_rfl) ?_
     obtain ⟨Zq, hZ, mZ⟩ := MA11.out
     refine qZ 12 #[tt,tt,tt,tt,tt,tt,tt,tt,tt,tt,tt,tt,tt] rfl rfl rfl (by rfl) 40 _ _ rfl _ _ rfl rfl 40 Zq mZ (by rw [qe]; kernel_rfl) (hZ.trans (qe ..).symm) (qp _ _ _) ?_
     intro wW225 hw2
     have hkW225 := below_setRow (hkW224) _ (r22 E) HA11.out
     rw [← hw2] at hkW225
     clear MA11
     have MA11 := Lib.hid (mZ.setRow (r22 E))
     rw [← hw2] at MA11; clear mZ hZ hw2
     refine ⟨fun _ => hkW225, ?_⟩
     (try simp only [sI, sS, sZ])
     exact qu (by kernel_rfl) (NoPanic.normal (HQ.out (_) _ ⟨HA11.out, MA11.out, (hkW225)⟩))
     refine QO 11 9 #[tt,tt,tt,tt,ff,tt,tt,tt,tt,ff,ff,tt,ff] rfl rfl rfl (by rfl) 40 rfl _ qbd ?_
     intro wW221 hw2
     have hkW221 := ((qt W22)).alloc ((qt W22)).size (.cells z40 40)
     rw [← hw2] at hkW221
     have MA11 := Lib.hid (HasN.new (W22.drew) z40 40 22 (by kernel_rfl))
     rw [← hw2] at MA11
     have HA11 := Lib.hid (show W22.heap.size ≤ _ from ((qt W22)).size)
     clear hw2
     refine ⟨fun _ => hkW221, ?_⟩
     (try simp only [sI, sS, sZ])
     refine qk (i := 4) (by kernel_rfl) ?_
     refine qE 4 39 #[tt,tt,tt,tt,tt,tt,tt,tt,tt,ff,ff,tt,ff] rfl rfl rfl (by rfl) rfl rfl (by rfl) zy (by rfl) (KE1.out _) ?_
     rintro e wW222 ⟨rfl, hb⟩
     have hkW222 := qh hkW221 hb
     replace MA11 := Lib.hid (MA11.out.call hb)
     refine ⟨_, rfl, fun _ => hkW222, ?_⟩
     clear hb
     (try simp only [sI, sS, sZ])
     refine qk (i := 9) (by kernel_rfl) ?_
     refine qE 9 44 #[tt,tt,tt,tt,tt,tt,tt,tt,tt,tt,ff,tt,ff] rfl rfl rfl (by rfl) rfl rfl (by rfl) zy (by rfl) (KE2.out _) ?_
     rintro e wW223 ⟨rfl, hb⟩
     have hkW223 := qh hkW222 hb
     replace MA11 := Lib.hid (MA11.out.call hb)
     refine ⟨_, rfl, fun _ => hkW223, ?_⟩
     clear hb
     (try simp only [sI, sS, sZ])
     refine qk (i := 10) (by kernel_rfl) ?_
     refine qE 10 45 #[tt,tt,tt,tt,tt,tt,tt,tt,tt,tt,tt,tt,ff] rfl rfl rfl (by rfl) rfl rfl (by rfl) qdR (by rfl) (KE.out _) ?_
     rintro e wW224 ⟨rfl, hb⟩
     have hkW224 := qh hkW223 hb
     replace MA11 := Lib.hid (MA11.out.call hb)
     refine ⟨_, rfl, fun _ => hkW224, ?_⟩
     clear hb
     (try simp only [sI, sS, sZ])
     refine qk (i := 12) (by kernel_rfl) ?_
     obtain ⟨Zq, hZ, mZ⟩ := MA11.out
     refine qZ 12 #[tt,tt,tt,tt,tt,tt,tt,tt,tt,tt,tt,tt,tt] rfl rfl rfl (by rfl) 40 _ _ rfl _ _ rfl rfl 40 Zq mZ (by rw [qe]; kernel_rfl) (hZ.trans (qe ..).symm) (qp _ _ _) ?_
     intro wW225 hw2
     have hkW225 := below_setRow (hkW224) _ (r22 E) HA11.out
     rw [← hw2] at hkW225
     clear MA11
     have MA11 := Lib.hid (mZ.setRow (r22 E))
     rw [← hw2] at MA11; clear mZ hZ hw2
     refine ⟨fun _ => hkW225, ?_⟩
     (try simp only [sI, sS, sZ])
     exact qu (by kernel_rfl) (NoPanic.normal (HQ.out (_) _ ⟨HA11.out, MA11.out, (hkW225)⟩))
   · rintro W22 B9 vw22 hW22 ⟨hBq0, mBq0, hbw⟩
     simp only [Act.put, List.setIfInBounds_toArray, List.set_cons_succ, List.set_cons_zero] at  hBq0  mBq0 ⊢
     rw [← hW22] at M2 M3 M4 M5 M6 M7 M8 HB
     clear hW22
     have hltM2_22 := M2.out.lt
     have hltM3_22 := M3.out.lt
     have hltM4_22 := M4.out.lt
     have hltM5_22 := M5.out.lt
     have hltM6_22 := M6.out.lt
     have hltM7_22 := M7.out.lt
     have hltM8_22 := M8.out.lt
     replace M2 := Lib.hid (M2.out.call hbw)
     replace M3 := Lib.hid (M3.out.call hbw)
     replace M4 := Lib.hid (M4.out.call hbw)
     replace M5 := Lib.hid (M5.out.call hbw)
     replace M6 := Lib.hid (M6.out.call hbw)
     replace M7 := Lib.hid (M7.out.call hbw)
     replace M8 := Lib.hid (M8.out.call hbw)
     replace HB := Lib.hid (qh HB.out hbw)
     have M9 := Lib.hid mBq0; clear mBq0
     clear hbw
     clear M2 M3
     repeat ((fail_if_success (with_reducible (show wpList _ _ _ _ _ _))); go_step)
     refine qv (by rfl) 40 _ rfl (uw3.heap.size) rfl 40 (r22 Dq) M8.out Try.underlying40 rfl (by rw [qe]; kernel_rfl) 46 rfl ?_
     (try simp only [Act.put, sI, sS, sZ])
     refine qv (by rfl) 40 _ rfl (B7) rfl 40 (r22 Cq) M7.out Try.underlying40 rfl (by rw [qe]; kernel_rfl) 47 rfl ?_
     (try simp only [Act.put, sI, sS, sZ])
     refine qm (by rfl) rfl rfl (by rfl) ent40 (by rfl) (KF.out _) 48 rfl ?_
     rintro e uw4 ⟨rfl, hb⟩
     replace M4 := Lib.hid (M4.out.call hb)
     replace M5 := Lib.hid (M5.out.call hb)
     replace M6 := Lib.hid (M6.out.call hb)
     replace M7 := Lib.hid (M7.out.call hb)
     replace M8 := Lib.hid (M8.out.call hb)
     replace M9 := Lib.hid (M9.out.call hb)
     replace HB := Lib.hid (qh HB.out hb)
     refine ⟨_, rfl, ?_⟩
     clear hb
     (try simp only [Act.put, sI, sS, sZ])
     refine qJ (by rfl) 40 rfl _ qbd 10 rfl ?_
     intro yw23 hw2
     have hlt24 := M4.out.lt
     have hlt25 := M5.out.lt
     have hlt26 := M6.out.lt
     have hlt27 := M7.out.lt
     have hlt28 := M8.out.lt
     have hlt29 := M9.out.lt
     have hsz := HB.out.size
     replace M4 := Lib.hid (M4.out.alloc (.cells z40 40))
     replace M5 := Lib.hid (M5.out.alloc (.cells z40 40))
     replace M6 := Lib.hid (M6.out.alloc (.cells z40 40))
     replace M7 := Lib.hid (M7.out.alloc (.cells z40 40))
     replace M8 := Lib.hid (M8.out.alloc (.cells z40 40))
     replace M9 := Lib.hid (M9.out.alloc (.cells z40 40))
     have M10 := Lib.hid (HasN.new uw4 z40 40 22 (by kernel_rfl))
     replace HB := Lib.hid (HB.out.alloc hsz (.cells z40 40))
     rw [← hw2] at M4 M5 M6 M7 M8 M9 M10 HB; clear hw2
     (try simp only [Act.put, sI, sS, sZ])
     first | (obtain ⟨Zq, hZ, mZ⟩ := M10.out) | (obtain ⟨Zq, hZ, mZ⟩ := M10.out.toN (qe ..))
     refine ql (by rfl) 40 _ _ rfl rfl (uw4.heap.size) (r22 F) rfl rfl 40 Zq mZ (by rw [qe]; kernel_rfl) (hZ.trans (qe ..).symm) (qp _ _ _) ?_
     intro yw30 hw2
     replace M4 := Lib.hid (M4.out.setRow_other (uw4.heap.size) (r22 F) (by omega))
     replace M5 := Lib.hid (M5.out.setRow_other (uw4.heap.size) (r22 F) (by omega))
     replace M6 := Lib.hid (M6.out.setRow_other (uw4.heap.size) (r22 F) (by omega))
     replace M7 := Lib.hid (M7.out.setRow_other (uw4.heap.size) (r22 F) (by omega))
     replace M8 := Lib.hid (M8.out.setRow_other (uw4.heap.size) (r22 F) (by omega))
     replace M9 := Lib.hid (M9.out.setRow_other (uw4.heap.size) (r22 F) (by omega))
     replace M10 := Lib.hid (mZ.setRow (r22 F))
     replace HB := Lib.hid (below_setRow HB.out (uw4.heap.size) (r22 F) (by omega))
     rw [← hw2] at M4 M5 M6 M7 M8 M9 M10 HB; clear mZ hZ hw2
     refine wpList_nil ?_
     repeat ((fail_if_success (with_reducible (show wpList _ _ _ _ _ _))); go_step)
     refine qv (by rfl) 40 _ rfl (uw3.heap.size) rfl 40 (r22 Dq) M8.out Try.underlying40 rfl (by rw [qe]; kernel_rfl) 49 rfl ?_
     (try simp only [Act.put, sI, sS, sZ])
     refine qv (by rfl) 40 _ rfl (B7) rfl 40 (r22 Cq) M7.out Try.underlying40 rfl (by rw [qe]; kernel_rfl) 50 rfl ?_
     (try simp only [Act.put, sI, sS, sZ])
     refine qm (by rfl) rfl rfl (by rfl) qdR (by rfl) (KG.out _) 51 rfl ?_
     rintro e uw5 ⟨rfl, hb⟩
     replace M4 := Lib.hid (M4.out.call hb)
     replace M5 := Lib.hid (M5.out.call hb)
     replace M6 := Lib.hid (M6.out.call hb)
     replace M7 := Lib.hid (M7.out.call hb)
     replace M8 := Lib.hid (M8.out.call hb)
     replace M9 := Lib.hid (M9.out.call hb)
     replace M10 := Lib.hid (M10.out.call hb)
     replace HB := Lib.hid (qh HB.out hb)
     refine ⟨_, rfl, ?_⟩
     clear hb
     (try simp only [Act.put, sI, sS, sZ])
     refine qJ (by rfl) 40 rfl _ qbd 11 rfl ?_
     intro yw31 hw2
     have hlt32 := M4.out.lt
     have hlt33 := M5.out.lt
     have hlt34 := M6.out.lt
     have hlt35 := M7.out.lt
     have hlt36 := M8.out.lt
     have hlt37 := M9.out.lt
     have hlt38 := M10.out.lt
     have hsz := HB.out.size
     replace M4 := Lib.hid (M4.out.alloc (.cells z40 40))
     replace M5 := Lib.hid (M5.out.alloc (.cells z40 40))
     replace M6 := Lib.hid (M6.out.alloc (.cells z40 40))
     replace M7 := Lib.hid (M7.out.alloc (.cells z40 40))
     replace M8 := Lib.hid (M8.out.alloc (.cells z40 40))
     replace M9 := Lib.hid (M9.out.alloc (.cells z40 40))
     replace M10 := Lib.hid (M10.out.alloc (.cells z40 40))
     have M11 := Lib.hid (HasN.new uw5 z40 40 22 (by kernel_rfl))
     replace HB := Lib.hid (HB.out.alloc hsz (.cells z40 40))
     rw [← hw2] at M4 M5 M6 M7 M8 M9 M10 M11 HB; clear hw2
     (try simp only [Act.put, sI, sS, sZ])
     first | (obtain ⟨Zq, hZ, mZ⟩ := M11.out) | (obtain ⟨Zq, hZ, mZ⟩ := M11.out.toN (qe ..))
     refine ql (by rfl) 40 _ _ rfl rfl (uw5.heap.size) (r22 G) rfl rfl 40 Zq mZ (by rw [qe]; kernel_rfl) (hZ.trans (qe ..).symm) (qp _ _ _) ?_
     intro yw39 hw2
     replace M4 := Lib.hid (M4.out.setRow_other (uw5.heap.size) (r22 G) (by omega))
     replace M5 := Lib.hid (M5.out.setRow_other (uw5.heap.size) (r22 G) (by omega))
     replace M6 := Lib.hid (M6.out.setRow_other (uw5.heap.size) (r22 G) (by omega))
     replace M7 := Lib.hid (M7.out.setRow_other (uw5.heap.size) (r22 G) (by omega))
     replace M8 := Lib.hid (M8.out.setRow_other (uw5.heap.size) (r22 G) (by omega))
     replace M9 := Lib.hid (M9.out.setRow_other (uw5.heap.size) (r22 G) (by omega))
     replace M10 := Lib.hid (M10.out.setRow_other (uw5.heap.size) (r22 G) (by omega))
     replace M11 := Lib.hid (mZ.setRow (r22 G))
     replace HB := Lib.hid (below_setRow HB.out (uw5.heap.size) (r22 G) (by omega))
     rw [← hw2] at M4 M5 M6 M7 M8 M9 M10 M11 HB; clear mZ hZ hw2
     refine wpList_nil ?_
     repeat ((fail_if_success (with_reducible (show wpList _ _ _ _ _ _))); go_step)
     refine qv (by rfl) 40 _ rfl (uw2.heap.size) rfl 40 (r22 Bq) M6.out Try.underlying40 rfl (by rw [qe]; kernel_rfl) 52 rfl ?_
     (try simp only [Act.put, sI, sS, sZ])
     refine qv (by rfl) 40 _ rfl (uw1.heap.size) rfl 40 (r22 A) M5.out Try.underlying40 rfl (by rw [qe]; kernel_rfl) 53 rfl ?_
     (try simp only [Act.put, sI, sS, sZ])
     refine qm (by rfl) rfl rfl (by rfl) qdR (by rfl) (KH.out _) 54 rfl ?_
     rintro e uw6 ⟨rfl, hb⟩
     replace M4 := Lib.hid (M4.out.call hb)
     replace M5 := Lib.hid (M5.out.call hb)
     replace M6 := Lib.hid (M6.out.call hb)
     replace M7 := Lib.hid (M7.out.call hb)
     replace M8 := Lib.hid (M8.out.call hb)
     replace M9 := Lib.hid (M9.out.call hb)
     replace M10 := Lib.hid (M10.out.call hb)
     replace M11 := Lib.hid (M11.out.call hb)
     replace HB := Lib.hid (qh HB.out hb)
     refine ⟨_, rfl, ?_⟩
     clear hb
     (try simp only [Act.put, sI, sS, sZ])
     refine qJ (by rfl) 40 rfl _ qbd 12 rfl ?_
     intro yw40 hw2
     have hlt41 := M4.out.lt
     have hlt42 := M5.out.lt
     have hlt43 := M6.out.lt
     have hlt44 := M7.out.lt
     have hlt45 := M8.out.lt
     have hlt46 := M9.out.lt
     have hlt47 := M10.out.lt
     have hlt48 := M11.out.lt
     have hsz := HB.out.size
     replace M4 := Lib.hid (M4.out.alloc (.cells z40 40))
     replace M5 := Lib.hid (M5.out.alloc (.cells z40 40))
     replace M6 := Lib.hid (M6.out.alloc (.cells z40 40))
     replace M7 := Lib.hid (M7.out.alloc (.cells z40 40))
     replace M8 := Lib.hid (M8.out.alloc (.cells z40 40))
     replace M9 := Lib.hid (M9.out.alloc (.cells z40 40))
     replace M10 := Lib.hid (M10.out.alloc (.cells z40 40))
     replace M11 := Lib.hid (M11.out.alloc (.cells z40 40))
     have M12 := Lib.hid (HasN.new uw6 z40 40 22 (by kernel_rfl))
     replace HB := Lib.hid (HB.out.alloc hsz (.cells z40 40))
     rw [← hw2] at M4 M5 M6 M7 M8 M9 M10 M11 M12 HB; clear hw2
     (try simp only [Act.put, sI, sS, sZ])
     first | (obtain ⟨Zq, hZ, mZ⟩ := M12.out) | (obtain ⟨Zq, hZ, mZ⟩ := M12.out.toN (qe ..))
     refine ql (by rfl) 40 _ _ rfl rfl (uw6.heap.size) (r22 Hq) rfl rfl 40 Zq mZ (by rw [qe]; kernel_rfl) (hZ.trans (qe ..).symm) (qp _ _ _) ?_
     intro yw49 hw2
     replace M4 := Lib.hid (M4.out.setRow_other (uw6.heap.size) (r22 Hq) (by omega))
     replace M5 := Lib.hid (M5.out.setRow_other (uw6.heap.size) (r22 Hq) (by omega))
     replace M6 := Lib.hid (M6.out.setRow_other (uw6.heap.size) (r22 Hq) (by omega))
     replace M7 := Lib.hid (M7.out.setRow_other (uw6.heap.size) (r22 Hq) (by omega))
     replace M8 := Lib.hid (M8.out.setRow_other (uw6.heap.size) (r22 Hq) (by omega))
     replace M9 := Lib.hid (M9.out.setRow_other (uw6.heap.size) (r22 Hq) (by omega))
     replace M10 := Lib.hid (M10.out.setRow_other (uw6.heap.size) (r22 Hq) (by omega))
     replace M11 := Lib.hid (M11.out.setRow_other (uw6.heap.size) (r22 Hq) (by omega))
     replace M12 := Lib.hid (mZ.setRow (r22 Hq))
     replace HB := Lib.hid (below_setRow HB.out (uw6.heap.size) (r22 Hq) (by omega))
     rw [← hw2] at M4 M5 M6 M7 M8 M9 M10 M11 M12 HB; clear mZ hZ hw2
     refine wpList_nil ?_
     clear M5 M6 M7 M8
     repeat ((fail_if_success (with_reducible (show wpList _ _ _ _ _ _))); go_step)
     refine wp_region_noPanic ?_
     refine Qm 13 14 #[ff,ff,ff,ff,ff,ff,ff,ff,ff,ff,ff,ff,ff,ff] (by kernel_rfl) rfl rfl ?_
     intro W50 hW50
     rw [← hW50] at M4 M9 M10 M11 M12 HB
     clear hW50
     have M4N := Lib.hid (by first | exact M4.out | exact M4.out.toN (by first | exact qd _ | exact qe _ | exact qf _ | exact qs .. | exact qA ..) : HasN W50 (w.heap.size + 1 + 1) _ _)
     refine qg 0 55 #[tt,ff,ff,ff,ff,ff,ff,ff,ff,ff,ff,ff,ff,ff] rfl rfl rfl (by kernel_rfl) (qj (by rfl) 40 _ rfl (B9) rfl 40 (r22 E) (fun _ h => M9.out.below h M9.out.lt) Try.underlying40 rfl (by rw [qe]; kernel_rfl)) ((qt W50)) ?_
     (try simp only [sI, sS, sZ])
     refine qg 1 56 #[tt,tt,ff,ff,ff,ff,ff,ff,ff,ff,ff,ff,ff,ff] rfl rfl rfl (by kernel_rfl) (qj (by rfl) 40 _ rfl (uw4.heap.size) rfl 40 (r22 F) (fun _ h => M10.out.below h M10.out.lt) Try.underlying40 rfl (by rw [qe]; kernel_rfl)) ((qt W50)) ?_
     (try simp only [sI, sS, sZ])
     refine qg 3 58 #[tt,tt,ff,tt,ff,ff,ff,ff,ff,ff,ff,ff,ff,ff] rfl rfl rfl (by kernel_rfl) (qj (by rfl) 40 _ rfl (uw5.heap.size) rfl 40 (r22 G) (fun _ h => M11.out.below h M11.out.lt) Try.underlying40 rfl (by rw [qe]; kernel_rfl)) ((qt W50)) ?_
     (try simp only [sI, sS, sZ])
     refine qg 4 59 #[tt,tt,ff,tt,tt,ff,ff,ff,ff,ff,ff,ff,ff,ff] rfl rfl rfl (by kernel_rfl) (qj (by rfl) 40 _ rfl (uw6.heap.size) rfl 40 (r22 Hq) (fun _ h => M12.out.below h M12.out.lt) Try.underlying40 rfl (by rw [qe]; kernel_rfl)) ((qt W50)) ?_
     (try simp only [sI, sS, sZ])
     refine qg 6 61 #[tt,tt,ff,tt,tt,ff,tt,ff,ff,ff,ff,ff,ff,ff] rfl rfl rfl (by kernel_rfl) (qj (by rfl) 40 _ rfl (uw4.heap.size) rfl 40 (r22 F) (fun _ h => M10.out.below h M10.out.lt) Try.underlying40 rfl (by rw [qe]; kernel_rfl)) ((qt W50)) ?_
     (try simp only [sI, sS, sZ])
     refine qg 7 62 #[tt,tt,ff,tt,tt,ff,tt,tt,ff,ff,ff,ff,ff,ff] rfl rfl rfl (by kernel_rfl) (qj (by rfl) 40 _ rfl (uw5.heap.size) rfl 40 (r22 G) (fun _ h => M11.out.below h M11.out.lt) Try.underlying40 rfl (by rw [qe]; kernel_rfl)) ((qt W50)) ?_
     (try simp only [sI, sS, sZ])
     refine qg 9 64 #[tt,tt,ff,tt,tt,ff,tt,tt,ff,tt,ff,ff,ff,ff] rfl rfl rfl (by kernel_rfl) (qj (by rfl) 40 _ rfl (B9) rfl 40 (r22 E) (fun _ h => M9.out.below h M9.out.lt) Try.underlying40 rfl (by rw [qe]; kernel_rfl)) ((qt W50)) ?_
     (try simp only [sI, sS, sZ])
     refine qg 10 65 #[tt,tt,ff,tt,tt,ff,tt,tt,ff,tt,tt,ff,ff,ff] rfl rfl rfl (by kernel_rfl) (qj (by rfl) 40 _ rfl (uw6.heap.size) rfl 40 (r22 Hq) (fun _ h => M12.out.below h M12.out.lt) Try.underlying40 rfl (by rw [qe]; kernel_rfl)) ((qt W50)) ?_
     (try simp only [sI, sS, sZ])
     refine qk (i := 2) (by kernel_rfl) ?_
     refine qE 2 57 #[tt,tt,tt,tt,tt,ff,tt,tt,ff,tt,tt,ff,ff,ff] rfl rfl rfl (by rfl) rfl rfl (by rfl) zy (by rfl) (KX.out _) ?_
     rintro e wW501 ⟨rfl, hb⟩
     have hkW501 := qh (qt W50) hb
     refine ⟨_, rfl, fun _ => hkW501, ?_⟩
     clear hb
     (try simp only [sI, sS, sZ])
     refine qk (i := 5) (by kernel_rfl) ?_
     refine qE 5 60 #[tt,tt,tt,tt,tt,tt,tt,tt,ff,tt,tt,ff,ff,ff] rfl rfl rfl (by rfl) rfl rfl (by rfl) zy (by rfl) (KY.out _) ?_
     rintro e wW502 ⟨rfl, hb⟩
     have hkW502 := qh hkW501 hb
     refine ⟨_, rfl, fun _ => hkW502, ?_⟩
     clear hb
     (try simp only [sI, sS, sZ])
     refine qk (i := 8) (by kernel_rfl) ?_
     refine qE 8 63 #[tt,tt,tt,tt,tt,tt,tt,tt,tt,tt,tt,ff,ff,ff] rfl rfl rfl (by rfl) rfl rfl (by rfl) zy (by rfl) (KZ.out _) ?_
     rintro e wW503 ⟨rfl, hb⟩
     have hkW503 := qh hkW502 hb
     refine ⟨_, rfl, fun _ => hkW503, ?_⟩
     clear hb
     (try simp only [sI, sS, sZ])
     refine qk (i := 11) (by kernel_rfl) ?_
     refine qE 11 66 #[tt,tt,tt,tt,tt,tt,tt,tt,tt,tt,tt,tt,ff,ff] rfl rfl rfl (by rfl) rfl rfl (by rfl) zy (by rfl) (KT.out _) ?_
     rintro e wW504 ⟨rfl, hb⟩
     have hkW504 := qh hkW503 hb
     refine ⟨_, rfl, fun _ => hkW504, ?_⟩
     clear hb
     (try simp only [sI, sS, sZ])
     refine qg 12 67 #[tt,tt,tt,tt,tt,tt,tt,tt,tt,tt,tt,tt,tt,ff] rfl rfl rfl (by kernel_rfl) (QT (by rfl) 57 _ rfl _ (by rfl) (rp X3 Y3 Z3 T3) (bd57 X3 Y3 Z3 T3)) (hkW504) ?_
     (try simp only [sI, sS, sZ])
     refine qk (i := 13) (by kernel_rfl) ?_
     obtain ⟨Zq, hZ, mZ⟩ := M4N.out.below hkW504 M4N.out.lt
     have MZ := Lib.hid mZ; clear mZ
     have HZ := Lib.hid hZ; clear hZ
     refine ZM 13 #[tt,tt,tt,tt,tt,tt,tt,tt,tt,tt,tt,tt,tt,tt] rfl rfl rfl (by rfl) 57 _ _ rfl (w.heap.size + 1 + 1) _ rfl rfl 57 Zq MZ.out (by rw [qA]; kernel_rfl) (HZ.out.trans (qA ..).symm) (QF _ _ _ _) ⟨fun h => (h rfl).elim, ?_⟩
     (try simp only [sI, sS, sZ])
     refine qu (by kernel_rfl) (NoPanic.normal ?_)
     replace M9 := Lib.hid ((M9.out.call hkW504).setRow_other (w.heap.size + 1 + 1) (rp X3 Y3 Z3 T3) (by omega))
     replace M10 := Lib.hid ((M10.out.call hkW504).setRow_other (w.heap.size + 1 + 1) (rp X3 Y3 Z3 T3) (by omega))
     replace M11 := Lib.hid ((M11.out.call hkW504).setRow_other (w.heap.size + 1 + 1) (rp X3 Y3 Z3 T3) (by omega))
     replace M12 := Lib.hid ((M12.out.call hkW504).setRow_other (w.heap.size + 1 + 1) (rp X3 Y3 Z3 T3) (by omega))
     clear M4 M4N
     have M4 := Lib.hid (MZ.out.setRow (rp X3 Y3 Z3 T3)); clear MZ HZ
     replace HB := Lib.hid (below_setRow (qh HB.out hkW504) (w.heap.size + 1 + 1) (rp X3 Y3 Z3 T3) (by omega))
     obtain ⟨yw51, hwyw51⟩ : ∃ ww, ww = wW504.setRow (w.heap.size + 1 + 1) (rp X3 Y3 Z3 T3) := ⟨_, rfl⟩
     rw [← hwyw51] at M4 M9 M10 M11 M12 HB ⊢
     clear hwyw51
     go_wp2_with fail
     exact bodyPost_ret (v := .agg (rp X3 Y3 Z3 T3)) (results_cell_row (t := 57) (by rfl) _ _ (w.heap.size + 1 + 1) _ _ _ rfl M4.out Try.underlying57 rfl (by rw [qA]; kernel_rfl)) rfl ⟨rfl, HB.out⟩
end
section
def Rep4 (X Y Z T : Nat) (p : Fin PP × Fin PP) : Prop := Rep X Y Z p ∧ fi T = p.1 * p.2 * fi Z
theorem radd_rep (X1 Y1 Z1 T1 X2 Y2 Z2 T2 : Nat) (p q : Fin PP × Fin PP) (hp : Rep4 X1 Y1 Z1 T1 p) (hq : Rep4 X2 Y2 Z2 T2 q) :
 Rep4 (qcN X1 Y1 Z1 T1 X2 Y2 Z2 T2).1 (qcN X1 Y1 Z1 T1 X2 Y2 Z2 T2).2.1 (qcN X1 Y1 Z1 T1 X2 Y2 Z2 T2).2.2.1 (qcN X1 Y1 Z1 T1 X2 Y2 Z2 T2).2.2.2 (QH qP fd p q) := by
 obtain ⟨⟨x1, y1, z1, o1⟩, t1⟩ := hp
 obtain ⟨⟨x2, y2, z2, o2⟩, t2⟩ := hq
 have ex := fld.sx_eq p.1 p.2 q.1 q.2 o1 o2
 have ey := fld.sy_eq p.1 p.2 q.1 q.2 o1 o2
 have np := fld.plus_ne p.1 p.2 q.1 q.2 o1 o2
 have nm := fld.minus_ne p.1 p.2 q.1 q.2 o1 o2
 have hA : fi Z1 * fi Z2 ≠ 0 := fld.mul_ne z1 z2
 have ho := fld.on_add p q o1 o2
 have eF : fi ((Z1 * Z2 % PP + (PP - SL * (T1 * T2 % PP) % PP)) % PP) = fi Z1 * fi Z2 * (1 - fd * p.1 * q.1 * p.2 * q.2) := by
  simp only [Qu, qbc, Qi, zS]
  rw [t1, t2]
  show _ + -(fd * _) = _
  grind
 have eG : fi ((Z1 * Z2 % PP + SL * (T1 * T2 % PP) % PP) % PP) = fi Z1 * fi Z2 * (1 + fd * p.1 * q.1 * p.2 * q.2) := by
  simp only [Qu, Qi, zS]
  rw [t1, t2]
  show _ + fd * _ = _
  grind
 have eE : fi ((X1 * Y2 % PP + Y1 * X2 % PP) % PP) = fi Z1 * fi Z2 * (p.1 * q.2 + q.1 * p.2) := by
  simp only [Qu, Qi, zS]
  rw [x1, x2, y1, y2]
  grind
 have eH : fi ((Y1 * Y2 % PP + X1 * X2 % PP) % PP) = fi Z1 * fi Z2 * (p.2 * q.2 + p.1 * q.1) := by
  simp only [Qu, Qi, zS]
  rw [x1, x2, y1, y2]
  grind
 unfold Rep4 Rep QH
 unfold qcN
 refine ⟨⟨?_, ?_, ?_, ho⟩, ?_⟩
 · show fi (_ * _ % PP) = sx qP fd p.1 p.2 q.1 q.2 * fi (_ * _ % PP)
   simp only [Qu, Qi] at eF eG eE eH ⊢
   rw [eF, eG, eE, ← ex]
   grind
 · show fi (_ * _ % PP) = sy qP fd p.1 p.2 q.1 q.2 * fi (_ * _ % PP)
   simp only [Qu, Qi] at eF eG eE eH ⊢
   rw [eF, eG, eH, ← ey]
   grind
 · show fi (_ * _ % PP) ≠ 0
   rw [Qu, Qi, eF, eG]
   exact fld.mul_ne (fld.mul_ne hA nm) (fld.mul_ne hA np)
 · show fi (_ * _ % PP) = sx qP fd p.1 p.2 q.1 q.2 * sy qP fd p.1 p.2 q.1 q.2 * fi (_ * _ % PP)
   simp only [Qu, Qi] at eF eG eE eH ⊢
   rw [eF, eG, eE, eH, ← ex, ← ey]
   grind
end
section
open Go.RowKit Go.Lib
def Rq (X Y Z T : Nat) (p : Fin PP × Fin PP) : Prop := Rep4 X Y Z T p ∧ X < PP ∧ Y < PP ∧ Z < PP ∧ T < PP
theorem radd_rq (X1 Y1 Z1 T1 X2 Y2 Z2 T2 : Nat) (p q : Fin PP × Fin PP) (hp : Rq X1 Y1 Z1 T1 p) (hq : Rq X2 Y2 Z2 T2 q) (w : World) :
 Calls Try.prog 52 #[.agg (rp X1 Y1 Z1 T1), .agg (rp X2 Y2 Z2 T2)] w fun e w' => ∃ X Y Z T : Nat, Rq X Y Z T (QH qP fd p q) ∧ e = .returned (.agg (rp X Y Z T)) ∧ Below w.heap.size w w' := by
 obtain ⟨r1, x1, y1, z1, t1⟩ := hp
 obtain ⟨r2, x2, y2, z2, t2⟩ := hq
 refine (rpplus_any X1 Y1 Z1 T1 X2 Y2 Z2 T2 x1 y1 z1 t1 x2 y2 z2 t2 w).mono ?_
 rintro e w' ⟨rfl, hb⟩
 exact ⟨_, _, _, _, ⟨radd_rep _ _ _ _ _ _ _ _ p q r1 r2, Nat.mod_lt _ qH, Nat.mod_lt _ qH, Nat.mod_lt _ qH, Nat.mod_lt _ qH⟩, rfl, hb⟩
theorem zero_rq : Rq 0 1 1 0 (0, 1) := by
 have h1 : 1 < PP := by have := QB; omega
 refine ⟨⟨qcv, ?_⟩, qH, h1, h1, qH⟩
 rw [zZ, zn]
 show (0 : Fin PP) = 0 * 1 * 1
 grind
theorem bit_val (n j : Nat) : n / 256 ^ (j / 8) % 256 / 2 ^ (j % 8) % 2 = n / 2 ^ j % 2 := by
 have e : 2 ^ j = 256 ^ (j / 8) * 2 ^ (j % 8) := by
  rw [show (256 : Nat) = 2 ^ 8 by decide, ← Nat.pow_mul, ← Nat.pow_add, Nat.div_add_mod]
 rw [e, ← Nat.div_div_eq_div_mul]
 generalize n / 256 ^ (j / 8) = q
 have hr : j % 8 < 8 := Nat.mod_lt _ (by decide)
 generalize j % 8 = r at *
 rcases (show r = 0 ∨ r = 1 ∨ r = 2 ∨ r = 3 ∨ r = 4 ∨ r = 5 ∨ r = 6 ∨ r = 7 by omega) with rfl | rfl | rfl | rfl | rfl | rfl | rfl | rfl <;> simp <;> omega
theorem qdL (n j b : Nat) (h : n / 2 ^ j % 2 = b) : n / 2 ^ j = n / 2 ^ (j + 1) + n / 2 ^ (j + 1) + b := by
 rw [Nat.pow_succ, ← Nat.div_div_eq_div_mul]
 omega
theorem td8 (j : Nat) : (j : Int).tdiv 8 = (j : Int) / 8 := Int.tdiv_eq_ediv_of_nonneg (by omega)
theorem tm8 (j : Nat) : (j : Int).tmod 8 = (j : Int) % 8 := Int.tmod_eq_emod_of_nonneg (by omega)
theorem bit_int (n j b : Nat) (x : Int) (hx : x = dg 256 n (j / 8)) (hb : n / 2 ^ j % 2 = b) : (x / 2 ^ (j % 8)).tmod 2 = (b : Int) := by
 have h := bit_val n j
 rw [hb] at h
 rw [hx]
 unfold dg
 have e : (((n / 256 ^ (j / 8) % 256 : Nat) : Int) / 2 ^ (j % 8)) = ((n / 256 ^ (j / 8) % 256 / 2 ^ (j % 8) : Nat) : Int) := by
  rw [Int.natCast_ediv, Int.natCast_pow]; rfl
 rw [e, ← h, Int.tmod_eq_emod_of_nonneg (Int.natCast_nonneg _)]
 rfl
theorem step_even (n j : Nat) (p : Fin PP × Fin PP) (h : n / 2 ^ j % 2 = 0) : qX qP fd p (n / 2 ^ (j + 1) + n / 2 ^ (j + 1)) = qX qP fd p (n / 2 ^ j) := by
 have e := qdL n j 0 h
 rw [Nat.add_zero] at e
 rw [← e]
theorem step_odd (n j : Nat) (p : Fin PP × Fin PP) (h : n / 2 ^ j % 2 = 1) : QH qP fd (qX qP fd p (n / 2 ^ (j + 1) + n / 2 ^ (j + 1))) p = qX qP fd p (n / 2 ^ j) := by
 have e := qdL n j 1 h
 rw [e]; rfl
theorem rmany_any (X Y Z T n : Nat) (p : Fin PP × Fin PP) (hp : Rq X Y Z T p) (hn : n < 115792089237316195423570985008687907853269984665640564039457584007913129639936) (w : World) :
 Calls Try.prog 57 #[.agg (rp X Y Z T), .agg (k32 n)] w fun e w' => ∃ X2 Y2 Z2 T2 : Nat, Rq X2 Y2 Z2 T2 (qX qP fd p n) ∧ e = .returned (.agg (rp X2 Y2 Z2 T2)) ∧ Below w.heap.size w w' := by
 have hop : OnP fd p := hp.1.1.2.2.2
 have hadd := radd_rq
 have Hadd := Lib.hid hadd; clear hadd
 have Hp := Lib.hid hp; clear hp
 have Hop := Lib.hid hop; clear hop
 have Hn := Lib.hid hn; clear hn
 go_enter Try.func57, Try.ntmps57
 repeat ((fail_if_success (with_reducible (show wpList _ _ _ _ _ _))); go_step)
 iterate 3 (refine wpList_step (fun K hK => ?_); go_simp; (try go_bits); refine hK _ _ ?_; clear hK K)
 refine wpList_nil ?_
 have M2 := Lib.hid (((Has.new w  (rp X Y Z T) 57).alloc (.cells (k32 n) 24)).alloc (.cells Try.zeroCells57 57))
 have M3 := Lib.hid ((Has.new1 w (.cells (rp X Y Z T) 57) (k32 n) 24).alloc (.cells Try.zeroCells57 57))
 have M4 := Lib.hid (HasN.new2 w (.cells (rp X Y Z T) 57) (.cells (k32 n) 24) Try.zeroCells57 57 88 (by kernel_rfl))
 have HB := Lib.hid (QD w (.cells (rp X Y Z T) 57) (.cells (k32 n) 24) (.cells Try.zeroCells57 57))
 obtain ⟨yw1, hwyw1⟩ : ∃ ww, ww = (((w.alloc (.cells (rp X Y Z T) 57)).alloc (.cells (k32 n) 24)).alloc (.cells Try.zeroCells57 57)) := ⟨_, rfl⟩
 rw [← hwyw1] at M2 M3 M4 HB ⊢
 clear hwyw1
 repeat ((fail_if_success (with_reducible (show wpList _ _ _ _ _ _))); go_step)
 refine qm (by rfl) rfl rfl (by rfl) ent88 (by rfl) (Zx _) 7 rfl ?_
 rintro e uw1 ⟨rfl, hb⟩
 replace M2 := Lib.hid (M2.out.call hb)
 replace M3 := Lib.hid (M3.out.call hb)
 replace M4 := Lib.hid (M4.out.call hb)
 replace HB := Lib.hid (qh HB.out hb)
 refine ⟨_, rfl, ?_⟩
 clear hb
 (try simp only [Act.put, sI, sS, sZ])
 refine qJ (by rfl) 57 rfl _ al57 5 rfl ?_
 intro yw2 hw2
 have hlt3 := M2.out.lt
 have hlt4 := M3.out.lt
 have hlt5 := M4.out.lt
 have hsz := HB.out.size
 replace M2 := Lib.hid (M2.out.alloc (.cells Try.zeroCells57 57))
 replace M3 := Lib.hid (M3.out.alloc (.cells Try.zeroCells57 57))
 replace M4 := Lib.hid (M4.out.alloc (.cells Try.zeroCells57 57))
 have M5 := Lib.hid (HasN.new uw1 Try.zeroCells57 57 88 (by kernel_rfl))
 replace HB := Lib.hid (HB.out.alloc hsz (.cells Try.zeroCells57 57))
 rw [← hw2] at M2 M3 M4 M5 HB; clear hw2
 (try simp only [Act.put, sI, sS, sZ])
 first | (obtain ⟨Zq, hZ, mZ⟩ := M5.out) | (obtain ⟨Zq, hZ, mZ⟩ := M5.out.toN (qA ..))
 refine ql (by rfl) 57 _ _ rfl rfl (uw1.heap.size) (rp 0 1 1 0) rfl rfl 57 Zq mZ (by rw [qA]; kernel_rfl) (hZ.trans (qA ..).symm) (QF _ _ _ _) ?_
 intro yw6 hw2
 replace M2 := Lib.hid (M2.out.setRow_other (uw1.heap.size) (rp 0 1 1 0) (by omega))
 replace M3 := Lib.hid (M3.out.setRow_other (uw1.heap.size) (rp 0 1 1 0) (by omega))
 replace M4 := Lib.hid (M4.out.setRow_other (uw1.heap.size) (rp 0 1 1 0) (by omega))
 replace M5 := Lib.hid (mZ.setRow (rp 0 1 1 0))
 replace HB := Lib.hid (below_setRow HB.out (uw1.heap.size) (rp 0 1 1 0) (by omega))
 rw [← hw2] at M2 M3 M4 M5 HB; clear mZ hZ hw2
 refine wpList_nil ?_
 repeat ((fail_if_success (with_reducible (show wpList _ _ _ _ _ _))); go_step)
 (refine wpList_step (fun K hK => ?_); go_simp; (try go_bits); refine hK _ _ ?_; clear hK K)
 refine wpList_nil ?_
 repeat ((fail_if_success (with_reducible (show wpList _ _ _ _ _ _))); go_step)
 obtain ⟨B, hB5⟩ : ∃ B, B = uw1.heap.size := ⟨_, rfl⟩
 rw [← hB5] at M5 ⊢
 have hBl : w.heap.size + 1 + 1 < B := by omega
 clear hB5
 have H0 := Lib.hid (show n / 2 ^ 256 = 0 by rw [show (2 : Nat) ^ 256 = 115792089237316195423570985008687907853269984665640564039457584007913129639936 by decide +kernel]; have := Hn.out; omega)
 go_loopw [6] (fun i wr => ∃ k X5 Y5 Z5 T5 : Nat, k ≤ 256 ∧ i = .int .i64 ((k : Int) - 1) ∧ Rq X5 Y5 Z5 T5 (qX qP fd p (n / 2 ^ k)) ∧ Has wr w.heap.size (rp X Y Z T) 57 ∧ Has wr (w.heap.size + 1) (k32 n) 24 ∧ HasN wr (w.heap.size + 1 + 1) 88 57 ∧ Has wr B (rp X5 Y5 Z5 T5) 57 ∧ Below w.heap.size w wr) (fun i _ => (intOf i + 1).toNat)
 case atStart => exact ⟨256, 0, 1, 1, 0, by omega, rfl, by rw [H0.out]; exact zero_rq, M2.out, M3.out, M4.out, M5.out, HB.out⟩
 case round =>
  clear M2 M3 M4 M5 HB
  obtain ⟨k, X5, Y5, Z5, T5, hk, rfl, hq, m2, m3, m4, m5, hB⟩ := hrel
  have M2 := Lib.hid m2; clear m2
  have M3 := Lib.hid m3; clear m3
  have M4 := Lib.hid m4; clear m4
  have M5 := Lib.hid m5; clear m5
  have HB := Lib.hid hB; clear hB
  have Hq := Lib.hid hq; clear hq
  rcases Nat.eq_zero_or_pos k with hk0 | hk0
  · subst hk0
    repeat ((fail_if_success (with_reducible (show wpList _ _ _ _ _ _))); go_step)
    iterate 2 (refine wpList_step (fun K hK => ?_); go_simp; (try go_bits); refine hK _ _ ?_; clear hK K)
    refine wpList_nil ?_
    repeat ((fail_if_success (with_reducible (show wpList _ _ _ _ _ _))); go_step)
    refine qv (by rfl) 57 _ rfl (B) rfl 57 (rp X5 Y5 Z5 T5) M5.out Try.underlying57 rfl (by rw [qA]; kernel_rfl) 28 rfl ?_
    (try simp only [Act.put, sI, sS, sZ])
    first | (obtain ⟨Zq, hZ, mZ⟩ := M4.out) | (obtain ⟨Zq, hZ, mZ⟩ := M4.out.toN (qA ..))
    refine ql (by rfl) 57 _ _ rfl rfl (w.heap.size + 1 + 1) (rp X5 Y5 Z5 T5) rfl rfl 57 Zq mZ (by rw [qA]; kernel_rfl) (hZ.trans (qA ..).symm) (QF _ _ _ _) ?_
    intro yw101 hw2
    replace M2 := Lib.hid (M2.out.setRow_other (w.heap.size + 1 + 1) (rp X5 Y5 Z5 T5) (by omega))
    replace M3 := Lib.hid (M3.out.setRow_other (w.heap.size + 1 + 1) (rp X5 Y5 Z5 T5) (by omega))
    replace M5 := Lib.hid (M5.out.setRow_other (w.heap.size + 1 + 1) (rp X5 Y5 Z5 T5) (by omega))
    replace M4 := Lib.hid (mZ.setRow (rp X5 Y5 Z5 T5))
    replace HB := Lib.hid (below_setRow HB.out (w.heap.size + 1 + 1) (rp X5 Y5 Z5 T5) (by omega))
    rw [← hw2] at M2 M3 M5 M4 HB; clear mZ hZ hw2
    refine wpList_nil ?_
    have hfin := Hq.out
    rw [Nat.pow_zero, Nat.div_one] at hfin
    go_wp2_with fail
    exact bodyPost_ret (v := .agg (rp X5 Y5 Z5 T5)) (results_cell_row (t := 57) (by rfl) _ _ (w.heap.size + 1 + 1) _ _ _ rfl M4.out Try.underlying57 rfl (by rw [qA]; kernel_rfl)) rfl ⟨X5, Y5, Z5, T5, hfin, rfl, HB.out⟩
  · obtain ⟨j, rfl⟩ : ∃ j, k = j + 1 := ⟨k - 1, by omega⟩
    rw [show ((j + 1 : Nat) : Int) - 1 = (j : Int) by omega]
    have hj : j < 256 := by omega
    clear hk0 hk
    repeat ((fail_if_success (with_reducible (show wpList _ _ _ _ _ _))); go_step)
    iterate 2 (refine wpList_step (fun K hK => ?_); go_simp; (try go_bits); refine hK _ _ ?_; clear hK K)
    refine wpList_nil ?_
    repeat ((fail_if_success (with_reducible (show wpList _ _ _ _ _ _))); go_step)
    refine qv (by rfl) 57 _ rfl (B) rfl 57 (rp X5 Y5 Z5 T5) M5.out Try.underlying57 rfl (by rw [qA]; kernel_rfl) 12 rfl ?_
    (try simp only [Act.put, sI, sS, sZ])
    refine qv (by rfl) 57 _ rfl (B) rfl 57 (rp X5 Y5 Z5 T5) M5.out Try.underlying57 rfl (by rw [qA]; kernel_rfl) 13 rfl ?_
    (try simp only [Act.put, sI, sS, sZ])
    refine qm (by rfl) rfl rfl (by rfl) ent52 (by rfl) (Hadd.out X5 Y5 Z5 T5 X5 Y5 Z5 T5 _ _ Hq.out Hq.out _) 14 rfl ?_
    rintro e uw101 ⟨X6, Y6, Z6, T6, hq6, rfl, hb⟩
    replace M2 := Lib.hid (M2.out.call hb)
    replace M3 := Lib.hid (M3.out.call hb)
    replace M4 := Lib.hid (M4.out.call hb)
    replace M5 := Lib.hid (M5.out.call hb)
    replace HB := Lib.hid (qh HB.out hb)
    refine ⟨_, rfl, ?_⟩
    clear hb
    (try simp only [Act.put, sI, sS, sZ])
    first | (obtain ⟨Zq, hZ, mZ⟩ := M5.out) | (obtain ⟨Zq, hZ, mZ⟩ := M5.out.toN (qA ..))
    refine ql (by rfl) 57 _ _ rfl rfl (B) (rp X6 Y6 Z6 T6) rfl rfl 57 Zq mZ (by rw [qA]; kernel_rfl) (hZ.trans (qA ..).symm) (QF _ _ _ _) ?_
    intro yw101 hw2
    replace M2 := Lib.hid (M2.out.setRow_other (B) (rp X6 Y6 Z6 T6) (by omega))
    replace M3 := Lib.hid (M3.out.setRow_other (B) (rp X6 Y6 Z6 T6) (by omega))
    replace M4 := Lib.hid (M4.out.setRow_other (B) (rp X6 Y6 Z6 T6) (by omega))
    replace M5 := Lib.hid (mZ.setRow (rp X6 Y6 Z6 T6))
    replace HB := Lib.hid (below_setRow HB.out (B) (rp X6 Y6 Z6 T6) (by omega))
    rw [← hw2] at M2 M3 M4 M5 HB; clear mZ hZ hw2
    refine wpList_nil ?_
    rw [← fld.mul_add p Hop.out] at hq6
    have Hq6 := Lib.hid hq6; clear hq6
    repeat ((fail_if_success (with_reducible (show wpList _ _ _ _ _ _))); go_step)
    have h1 := M3.out.cell (j / 8) (by omega)
    have x0 := (zV 256 n (j / 8) (by decide)).1
    have x1 := (zV 256 n (j / 8) (by decide)).2
    have htd := td8 j
    have htm := tm8 j
    have hb2 := bit_int n j
    obtain ⟨x, hx⟩ : ∃ x, x = dg 256 n (j / 8) := ⟨_, rfl⟩
    rw [← hx] at h1 x0 x1
    have k2 : (0 : Int) ≤ (j : Int) / 8 := by omega
    have k3 : (j : Int) / 8 < 32 := by omega
    have k4 : (0 : Int) ≤ (j : Int) % 8 := by omega
    have k5 : (j : Int) % 8 < 8 := by omega
    rcases Nat.mod_two_eq_zero_or_one (n / 2 ^ j) with hb | hb
    · have hbit : (x / 2 ^ (j % 8)).tmod 2 = 0 := hb2 0 x hx hb
      have hs := step_even n j p hb
      clear hb2
      have Hx := Lib.hid hx; clear hx
      have Hs := Lib.hid hs; clear hs
      have Hb := Lib.hid hb; clear hb
      iterate 10 (refine wpList_step (fun K hK => ?_); go_simp; (try go_bits); refine hK _ _ ?_; clear hK K)
      refine wpList_nil ?_
      clear h1 x0 x1 htd htm k2 k3 k4 k5 hbit
      repeat ((fail_if_success (with_reducible (show wpList _ _ _ _ _ _))); go_step)
      iterate 3 (refine wpList_step (fun K hK => ?_); go_simp; (try go_bits); refine hK _ _ ?_; clear hK K)
      refine wpList_nil ?_
      go_roundw
      case measure => simp [intOf]
      case rel => exact ⟨_, _, _, _, _, _, _, _, _, _, _, _, _, _, _, _, _, _, _, _, _, ⟨j, X6, Y6, Z6, T6, by omega, rfl, by rw [← Hs.out]; exact Hq6.out, M2.out, M3.out, M4.out, M5.out, HB.out⟩, rfl⟩
    · have hbit : (x / 2 ^ (j % 8)).tmod 2 = 1 := hb2 1 x hx hb
      have hs := step_odd n j p hb
      clear hb2
      have Hx := Lib.hid hx; clear hx
      have Hs := Lib.hid hs; clear hs
      have Hb := Lib.hid hb; clear hb
      iterate 10 (refine wpList_step (fun K hK => ?_); go_simp; (try go_bits); refine hK _ _ ?_; clear hK K)
      refine wpList_nil ?_
      clear h1 x0 x1 htd htm k2 k3 k4 k5 hbit
      repeat ((fail_if_success (with_reducible (show wpList _ _ _ _ _ _))); go_step)
      refine qv (by rfl) 57 _ rfl (B) rfl 57 (rp X6 Y6 Z6 T6) M5.out Try.underlying57 rfl (by rw [qA]; kernel_rfl) 25 rfl ?_
      (try simp only [Act.put, sI, sS, sZ])
      refine qv (by rfl) 57 _ rfl (w.heap.size) rfl 57 (rp X Y Z T) M2.out Try.underlying57 rfl (by rw [qA]; kernel_rfl) 26 rfl ?_
      (try simp only [Act.put, sI, sS, sZ])
      refine qm (by rfl) rfl rfl (by rfl) ent52 (by rfl) (Hadd.out X6 Y6 Z6 T6 X Y Z T _ _ Hq6.out Hp.out _) 27 rfl ?_
      rintro e uw102 ⟨X7, Y7, Z7, T7, hq7, rfl, hb⟩
      replace M2 := Lib.hid (M2.out.call hb)
      replace M3 := Lib.hid (M3.out.call hb)
      replace M4 := Lib.hid (M4.out.call hb)
      replace M5 := Lib.hid (M5.out.call hb)
      replace HB := Lib.hid (qh HB.out hb)
      refine ⟨_, rfl, ?_⟩
      clear hb
      (try simp only [Act.put, sI, sS, sZ])
      first | (obtain ⟨Zq, hZ, mZ⟩ := M5.out) | (obtain ⟨Zq, hZ, mZ⟩ := M5.out.toN (qA ..))
      refine ql (by rfl) 57 _ _ rfl rfl (B) (rp X7 Y7 Z7 T7) rfl rfl 57 Zq mZ (by rw [qA]; kernel_rfl) (hZ.trans (qA ..).symm) (QF _ _ _ _) ?_
      intro yw102 hw2
      replace M2 := Lib.hid (M2.out.setRow_other (B) (rp X7 Y7 Z7 T7) (by omega))
      replace M3 := Lib.hid (M3.out.setRow_other (B) (rp X7 Y7 Z7 T7) (by omega))
      replace M4 := Lib.hid (M4.out.setRow_other (B) (rp X7 Y7 Z7 T7) (by omega))
      replace M5 := Lib.hid (mZ.setRow (rp X7 Y7 Z7 T7))
      replace HB := Lib.hid (below_setRow HB.out (B) (rp X7 Y7 Z7 T7) (by omega))
      rw [← hw2] at M2 M3 M4 M5 HB; clear mZ hZ hw2
      refine wpList_nil ?_
      rw [Hs.out] at hq7
      have Hq7 := Lib.hid hq7; clear hq7
      repeat ((fail_if_success (with_reducible (show wpList _ _ _ _ _ _))); go_step)
      iterate 3 (refine wpList_step (fun K hK => ?_); go_simp; (try go_bits); refine hK _ _ ?_; clear hK K)
      refine wpList_nil ?_
      go_roundw
      case measure => simp [intOf]
      case rel => exact ⟨_, _, _, _, _, _, _, _, _, _, _, _, _, _, _, _, _, _, _, _, _, ⟨j, X7, Y7, Z7, T7, by omega, rfl, Hq7.out, M2.out, M3.out, M4.out, M5.out, HB.out⟩, rfl⟩
end
end Go.Proofs.Ytjiagjonlcadiaa
