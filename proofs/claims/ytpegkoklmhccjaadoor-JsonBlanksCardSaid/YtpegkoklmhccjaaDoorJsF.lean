/- Chapter 12: signs in UTF-8: which sign bytes begin with. -/
import Derived.Test.YtpegkoklmhccjaaDoorJsC
namespace Go.Proofs.YtpegkoklmhccjaaDoor
open Go.RowKit Go.Sx
set_option linter.unusedVariables false
/-- Go's table of first bytes -/
def fstN (n : Nat) : Nat := if n < 128 then 240 else if n < 194 then 241 else if n < 224 then 2 else if n = 224 then 19 else if n = 237 then 35 else if n < 240 then 3 else if n = 240 then 52 else if n < 244 then 4 else if n = 244 then 68 else 241
/-- Go's table of ranges -/
def accN (i : Nat) : Nat := [128, 191, 160, 191, 128, 159, 144, 191, 128, 143].getD i 0
/-- the tables lie where the program looks -/
structure Laid (w : World) : Prop where
  l0 : 0 < w.heap.size
  l1 : 1 < w.heap.size
  f : ∀ i, i < 256 → w.cell? ⟨0, i, none⟩ = some (.int .u8 (fstN i : Nat))
  a : ∀ i, i < 32 → w.cell? ⟨1, i, none⟩ = some (.int .u8 (accN i : Nat))
def laidR : Res where
  w := fun _ => False
  r := fun k => k = 0 ∨ k = 1
  p := Laid
  st := fun u v h hp => by
    have e0 := h 0 (.inr (.inl rfl))
    have e1 := h 1 (.inr (.inr rfl))
    have lt : ∀ k, k < u.heap.size → v.heap[k]? = u.heap[k]? → k < v.heap.size := fun k h1 h2 => by
      rw [Array.getElem?_eq_getElem h1] at h2
      exact (Array.getElem?_eq_some_iff.1 h2).1
    exact ⟨lt 0 hp.l0 e0, lt 1 hp.l1 e1, fun i hi => by rw [← hp.f i hi]; simp only [World.cell?, e0], fun i hi => by rw [← hp.a i hi]; simp only [World.cell?, e1]⟩
  bd := fun u h k hk => by
    rcases hk with hk | rfl | rfl
    · exact hk.elim
    · exact h.l0
    · exact h.l1
theorem Laid.below {w w' : World} (h : Laid w) (hb : Below w.heap.size w w') : Laid w' := laidR.st w w' (fun k hk => hb.block k (laidR.bd w h k hk)) h
theorem St.laid {w : World} (h : Laid w) : St [] w w [rs laidR] := St.reads fun e he => by
  obtain rfl : e = rs laidR := by simpa using he
  exact ⟨(rsOk laidR w).2 h, fun k hk => (rsW laidR k).1 hk⟩
/-- a first byte's class: how many bytes, which range the second one has -/
def clsP (a : Nat) : Option (Nat × Nat × Nat) := if a < 194 then none else if a < 224 then some (2, 128, 191) else if a = 224 then some (3, 160, 191) else if a = 237 then some (3, 128, 159) else if a < 240 then some (3, 128, 191) else if a = 240 then some (4, 144, 191) else if a < 244 then some (4, 128, 191) else if a = 244 then some (4, 128, 143) else none
def decQ (a : Nat) (r : Bs) : Option (Nat × Nat) := match clsP a with
  | none => none
  | some (z, lo, hi) => match r with
    | [] => none
    | b1 :: r1 => if b1.toNat < lo ∨ hi < b1.toNat then none else if z = 2 then some (a % 32 * 64 + b1.toNat % 64, 2) else match r1 with
      | [] => none
      | b2 :: r2 => if b2.toNat < 128 ∨ 191 < b2.toNat then none else if z = 3 then some (a % 16 * 4096 + b1.toNat % 64 * 64 + b2.toNat % 64, 3) else match r2 with
        | [] => none
        | b3 :: r3 => if b3.toNat < 128 ∨ 191 < b3.toNat then none else some (a % 8 * 262144 + b1.toNat % 64 * 4096 + b2.toNat % 64 * 64 + b3.toNat % 64, 4)
/-- the sign that bytes begin with, and how many bytes it has -/
def decP : Bs → Option (Nat × Nat)
  | [] => none
  | a :: r => if a.toNat < 128 then some (a.toNat, 1) else decQ a.toNat r
theorem cls_tab (a : Nat) (h1 : 128 ≤ a) (h2 : a < 256) : (fstN a = 241 ∧ clsP a = none) ∨ ∃ z lo hi, clsP a = some (z, lo, hi) ∧ (z = 2 ∨ z = 3 ∨ z = 4) ∧ fstN a < 240 ∧ fstN a &&& 7 = z ∧ fstN a / 16 < 5 ∧ accN (fstN a / 16 * 2) = lo ∧ accN (fstN a / 16 * 2 + 1) = hi := by
  have h : (List.range 256).all (fun a => decide (a < 128) || (decide (fstN a = 241) && (clsP a).isNone) || (match clsP a with | none => false | some (z, lo, hi) => (decide (z = 2 ∨ z = 3 ∨ z = 4) && decide (fstN a < 240) && decide (fstN a &&& 7 = z) && decide (fstN a / 16 < 5) && decide (accN (fstN a / 16 * 2) = lo) && decide (accN (fstN a / 16 * 2 + 1) = hi)))) = true := by decide +kernel
  have := List.all_eq_true.1 h a (by simpa using h2)
  simp only [Bool.or_eq_true, Bool.and_eq_true, decide_eq_true_eq] at this
  rcases this with (h | h) | h
  · omega
  · exact .inl ⟨h.1, by simpa using h.2⟩
  · cases hc : clsP a with
    | none => rw [hc] at h; cases h
    | some q =>
      obtain ⟨z, lo, hi⟩ := q
      rw [hc] at h
      simp only [Bool.and_eq_true, decide_eq_true_eq] at h
      exact .inr ⟨z, lo, hi, rfl, h.1.1.1.1.1, h.1.1.1.1.2, h.1.1.1.2, h.1.1.2, h.1.2, h.2⟩
end Go.Proofs.YtpegkoklmhccjaaDoor
