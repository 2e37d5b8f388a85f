/- The law CoderFixed: the walk. -/
import Derived.Test.YtcojgckfcgbodaaDoorCdG
namespace Go.Proofs.YtcojgckfcgbodaaDoor
open Go.RowKit Go.Sx
set_option linter.unusedVariables false

theorem fixd_len (n : Nat) (o : Option (List UInt8)) : (fixd n (exO n o)).length = n := by
  cases h : exO n o with
  | none => simp [fixd]
  | some x => exact exO_len h
set_option maxRecDepth 100000 in
set_option maxHeartbeats 2000000 in
theorem law_fixed (l : List UInt8) (w : World) (hl0 : l.length ≤ maxLen) : Calls Tryd.prog 5 ([.string ⟨l.toArray⟩] : List Value).toArray w fun e w' => e = .returned (.bool true) ∧ Below w.heap.size w w' := by
  refine enterV tab_ok Tryd.func5 rfl Tryd.ntmps5 rfl (St.start w) ?_
  refine cv alive_any ?_
  refine cf rfl ?_
  refine cd (fun hbig => ?_) (fun hbig => ?_)
  · exact rt rfl
  rw [size_mk] at hbig
  have hl : l.length ≤ 1000000 := by omega
  have rh := fun w => runhex_any l hl w
  have rb := fun w => rub_any l hl w
  rw [hex_ref] at rh
  rw [b64_ref] at rb
  have s1' := fun w => sum_any l hl w
  have s2' := fun w => wide_any l hl w
  have s3' := fun w => rsum_any l hl w _ rh
  have s4' := fun w => rwide_any l hl w _ rb
  have l1 := fixd_len 32 (decL hexS 4 l)
  have l2 := fixd_len 64 (dec64 l)
  clear rh rb
  generalize exO 32 (decL hexS 4 l) = o1 at *
  generalize exO 64 (dec64 l) = o2 at *
  generalize fixd 32 o1 = X at *
  generalize fixd 64 o2 = Y at *
  have e1 : decide (X = X) = true := decide_eq_true rfl
  have e2 : (decide (X = X) == true) = true := by rw [e1]; rfl
  have e3 : decide (Y = Y) = true := decide_eq_true rfl
  have e4 : (decide (Y = Y) == true) = true := by rw [e3]; rfl
  refine cv s1' ?_
  intro b1
  refine sN 0 rfl (by rw [bc_size, l1]; rfl) (bc_one X) ?_ (by rw [bc_size, l1]; kernel_rfl)
  refine cv s2' ?_
  intro b2
  refine sN 1 rfl (by rw [bc_size, l2]; rfl) (bc_one Y) ?_ (by rw [bc_size, l2]; kernel_rfl)
  refine cv s3' ?_
  intro b3
  refine sN 2 rfl (by rw [bc_size, l1]; rfl) (bc_one X) ?_ (by rw [bc_size, l1]; kernel_rfl)
  refine cv s4' ?_
  intro b4
  refine sN 3 rfl (by rw [bc_size, l2]; rfl) (bc_one Y) ?_ (by rw [bc_size, l2]; kernel_rfl)
  clear s1' s2' s3' s4'
  cases o1 with
  | none =>
    cases o2 with
    | none =>
      refine ldN 0 rfl (by rw [bc_size, l1]) ?_
      refine ldN 2 rfl (by rw [bc_size, l1]) ?_
      refine eqB (n := 32) (x := X) (y := X) (t := 40) (e := 5) (by kernel_rfl) (by kernel_rfl) (by kernel_rfl) (by kernel_rfl) l1 l1 ?_
      refine ct e2 ?_
      refine ldN 1 rfl (by rw [bc_size, l2]) ?_
      refine ct e2 ?_
      refine ldN 3 rfl (by rw [bc_size, l2]) ?_
      refine ct e2 ?_
      refine eqB (n := 64) (x := Y) (y := Y) (t := 44) (e := 5) (by kernel_rfl) (by kernel_rfl) (by kernel_rfl) (by kernel_rfl) l2 l2 ?_
      refine ct e1 ?_
      refine ct e4 ?_
      refine ct e4 ?_
      refine ct e4 ?_
      refine ct e4 ?_
      refine ct e3 ?_
      refine ct rfl ?_
      refine ct rfl ?_
      refine ct rfl ?_
      refine ct rfl ?_
      refine ct rfl ?_
      refine ct rfl ?_
      refine ct rfl ?_
      refine ct rfl ?_
      refine ct rfl ?_
      refine cv is_err ?_
      refine ct rfl ?_
      refine cf rfl ?_
      refine ct rfl ?_
      refine ct rfl ?_
      refine ct rfl ?_
      refine ct rfl ?_
      refine ct rfl ?_
      refine cv is_err ?_
      refine ct rfl ?_
      refine cf rfl ?_
      refine ct rfl ?_
      exact rt rfl
    | some _ =>
      refine ldN 0 rfl (by rw [bc_size, l1]) ?_
      refine ldN 2 rfl (by rw [bc_size, l1]) ?_
      refine eqB (n := 32) (x := X) (y := X) (t := 40) (e := 5) (by kernel_rfl) (by kernel_rfl) (by kernel_rfl) (by kernel_rfl) l1 l1 ?_
      refine ct e2 ?_
      refine ldN 1 rfl (by rw [bc_size, l2]) ?_
      refine ct e2 ?_
      refine ldN 3 rfl (by rw [bc_size, l2]) ?_
      refine ct e2 ?_
      refine eqB (n := 64) (x := Y) (y := Y) (t := 44) (e := 5) (by kernel_rfl) (by kernel_rfl) (by kernel_rfl) (by kernel_rfl) l2 l2 ?_
      refine ct e1 ?_
      refine ct e4 ?_
      refine ct e4 ?_
      refine ct e4 ?_
      refine ct e4 ?_
      refine ct e3 ?_
      refine ct rfl ?_
      refine ct rfl ?_
      refine ct rfl ?_
      refine ct rfl ?_
      refine ct rfl ?_
      refine ct rfl ?_
      refine ct rfl ?_
      refine ct rfl ?_
      refine ct rfl ?_
      refine cv is_err ?_
      refine ct rfl ?_
      refine cf rfl ?_
      refine ct rfl ?_
      refine ct rfl ?_
      refine ct rfl ?_
      refine cf rfl ?_
      refine cf rfl ?_
      refine ct rfl ?_
      refine ct rfl ?_
      refine ct rfl ?_
      exact rt rfl
  | some _ =>
    cases o2 with
    | none =>
      refine ldN 0 rfl (by rw [bc_size, l1]) ?_
      refine ldN 2 rfl (by rw [bc_size, l1]) ?_
      refine eqB (n := 32) (x := X) (y := X) (t := 40) (e := 5) (by kernel_rfl) (by kernel_rfl) (by kernel_rfl) (by kernel_rfl) l1 l1 ?_
      refine ct e2 ?_
      refine ldN 1 rfl (by rw [bc_size, l2]) ?_
      refine ct e2 ?_
      refine ldN 3 rfl (by rw [bc_size, l2]) ?_
      refine ct e2 ?_
      refine eqB (n := 64) (x := Y) (y := Y) (t := 44) (e := 5) (by kernel_rfl) (by kernel_rfl) (by kernel_rfl) (by kernel_rfl) l2 l2 ?_
      refine ct e1 ?_
      refine ct e4 ?_
      refine ct e4 ?_
      refine ct e4 ?_
      refine ct e4 ?_
      refine ct e3 ?_
      refine ct rfl ?_
      refine ct rfl ?_
      refine ct rfl ?_
      refine ct rfl ?_
      refine ct rfl ?_
      refine ct rfl ?_
      refine ct rfl ?_
      refine cf rfl ?_
      refine cf rfl ?_
      refine ct rfl ?_
      refine ct rfl ?_
      refine ct rfl ?_
      refine ct rfl ?_
      refine ct rfl ?_
      refine ct rfl ?_
      refine ct rfl ?_
      refine cv is_err ?_
      refine ct rfl ?_
      refine cf rfl ?_
      refine ct rfl ?_
      exact rt rfl
    | some _ =>
      refine ldN 0 rfl (by rw [bc_size, l1]) ?_
      refine ldN 2 rfl (by rw [bc_size, l1]) ?_
      refine eqB (n := 32) (x := X) (y := X) (t := 40) (e := 5) (by kernel_rfl) (by kernel_rfl) (by kernel_rfl) (by kernel_rfl) l1 l1 ?_
      refine ct e2 ?_
      refine ldN 1 rfl (by rw [bc_size, l2]) ?_
      refine ct e2 ?_
      refine ldN 3 rfl (by rw [bc_size, l2]) ?_
      refine ct e2 ?_
      refine eqB (n := 64) (x := Y) (y := Y) (t := 44) (e := 5) (by kernel_rfl) (by kernel_rfl) (by kernel_rfl) (by kernel_rfl) l2 l2 ?_
      refine ct e1 ?_
      refine ct e4 ?_
      refine ct e4 ?_
      refine ct e4 ?_
      refine ct e4 ?_
      refine ct e3 ?_
      refine ct rfl ?_
      refine ct rfl ?_
      refine ct rfl ?_
      refine ct rfl ?_
      refine ct rfl ?_
      refine ct rfl ?_
      refine ct rfl ?_
      refine cf rfl ?_
      refine cf rfl ?_
      refine ct rfl ?_
      refine ct rfl ?_
      refine ct rfl ?_
      refine ct rfl ?_
      refine ct rfl ?_
      refine cf rfl ?_
      refine cf rfl ?_
      refine ct rfl ?_
      refine ct rfl ?_
      refine ct rfl ?_
      exact rt rfl
end Go.Proofs.YtcojgckfcgbodaaDoor
