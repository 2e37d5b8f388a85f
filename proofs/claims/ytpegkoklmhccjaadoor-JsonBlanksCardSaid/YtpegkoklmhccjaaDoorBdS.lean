/- strings.Builder by symbolic steps: its check, String, where the builder lies in a block that is known. -/
import Derived.Test.YtpegkoklmhccjaaDoorSxI
import Derived.Test.YtpegkoklmhccjaaDoorSxT
import Derived.Lib.Builder
import Derived.Lib.UnsafeStr
import Derived.Laws.Externs
import Derived.Great.BuildSlice
namespace Go.Proofs.YtpegkoklmhccjaaDoor
open Go.RowKit Go.Sx
set_option linter.unusedVariables false

abbrev TB : Nat := 93
theorem info5 : (Tryd.prog.info? 5).map (fun i => (i.zero, i.size, i.bytes)) = some (some (.int .u8 0), 1, 1) := by kernel_rfl
theorem infoTB : (Tryd.prog.info? TB).map (·.size) = some 2 := by kernel_rfl
theorem undPB : Tryd.prog.underlying 91 = some (.pointer TB) := by kernel_rfl
theorem undUP : Tryd.prog.underlying 107 = some .unsafePointer := by kernel_rfl
theorem und22 : Tryd.prog.underlying 38 = some (.slice 5) := by kernel_rfl
theorem undP8 : Tryd.prog.underlying 103 = some (.pointer 5) := by kernel_rfl
theorem cells8 : Tryd.prog.cellsOf 5 = 1 := by kernel_rfl
theorem liesTB : liesAt Tryd.prog Tryd.prog.depth TB (2 / Tryd.prog.cellsOf TB) 0 TB 1 = true := by kernel_rfl
abbrev ptr (b : Nat) : Value := .pointer (some ⟨b, 0, none⟩)
theorem shapeTB {w : World} {b : Nat} {c : Array Value} (h : w.heap[b]? = some (.cells c TB (0, 0))) (hc : c.size = 2) : w.shape? b = some (TB, 2) := by simp [World.shape?, h, hc]
theorem toUp (w : World) (b : Nat) (h : w.shape? b = some (TB, 2)) : (convert 91 107 (ptr b)).run Tryd.prog w = .ok (ptr b) w := by
  cases hi : Tryd.prog.info? TB with
  | none => have := infoTB; rw [hi] at this; cases this
  | some i => have h2 := infoTB; rw [hi] at h2; exact Lib.run_to_unsafe w ⟨b, 0, none⟩ undPB undUP hi (by have h3 : i.size = 2 := Option.some.inj h2; omega) h (Nat.zero_lt_succ 1)
theorem fromUp (w : World) (b : Nat) (h : w.shape? b = some (TB, 2)) : (convert 107 91 (ptr b)).run Tryd.prog w = .ok (ptr b) w := by
  cases hi : Tryd.prog.info? TB with
  | none => have := infoTB; rw [hi] at this; cases this
  | some i => exact Lib.run_from_unsafe w ⟨b, 0, none⟩ undUP undPB hi h liesTB
theorem neqP (w : World) (b : Nat) : (binOp .neq 91 (ptr b) (ptr b)).run Tryd.prog w = .ok (.bool false) w := by
  cases hi : Tryd.prog.info? TB with
  | none => have := infoTB; rw [hi] at this; cases this
  | some i => exact Lib.run_neq_ptr_same w ⟨b, 0, none⟩ undPB hi
theorem noEsc (w : World) (v : Value) : (callFunc 82 #[v]).run Tryd.prog w = .ok (.value v) w := by
  rw [run_callFunc_extern Tryd.func82 (by kernel_rfl) (by kernel_rfl) (by kernel_rfl) (e := Extern.AbiNoEscape.same) (by kernel_rfl)]
  rfl
section
variable {N : Nat} {M : Bks} {B : World} {F : Option Nat} {L : List Ent} {next : Value → List Ent → Prop}
set_option maxRecDepth 100000 in
/-- the builder knows where it lies -/
theorem bCheck (k : Nat) {b : Nat} {p s : Value} (hk : L[k]? = some (cl b #[p, s] TB)) (hp : p = .pointer none ∨ p = ptr b) (go : next (.tuple #[]) (L.set k (cl b #[ptr b, s] TB))) : CallP ⟨Tryd.prog, tab, N, M, B, F⟩ 76 [ptr b] L next := by
  refine inl (C := ⟨Tryd.prog, tab, N, M, B, F⟩) tab_ok Tryd.func76 rfl Tryd.ntmps76 rfl ?_
  rcases hp with rfl | rfl
  · refine ld1 k hk rfl ?_
    refine ct rfl ?_
    refine semV (fun w hs => toUp w b (shapeTB (hs.nth hk) rfl)) ?_
    refine extV rfl rfl rfl (fun w hs => noEsc w _) ?_
    refine semV (fun w hs => fromUp w b (shapeTB (hs.nth hk) rfl)) ?_
    refine s1 k hk (Nat.zero_lt_succ 1) ?_
    exact bk go
  · refine ld1 k hk rfl ?_
    refine cf rfl ?_
    refine ld1 k hk rfl ?_
    refine semV (v := .bool false) (fun w hs => ?_) ?_
    · exact neqP w b
    refine cf rfl ?_
    refine bk ?_
    rwa [set_same hk] at go
theorem bs1 (x : Int) (w : World) : (Instr.buildSlice 38 1 #[(0, .int .u8 x)]).run Tryd.prog w = .ok (.slice (some ⟨w.heap.size, 0, none⟩) 1 1) (w.alloc (.cells #[.int .u8 x] 5)) := by
  obtain ⟨i, hi, hz, hs, hb⟩ := infoOf info5
  exact run_buildSlice w _ _ 1 _ #[.int .u8 x] i (.int .u8 0) und22 hi hz (by rw [hs]; decide) (by rw [hs]; decide) (by rw [hs]; kernel_rfl)
set_option maxRecDepth 100000 in
/-- what is written, as a string -/
theorem bStr (k kr : Nat) {b : Nat} {p : Value} {r : Sx.Own} {l : List UInt8} (hk : L[k]? = some (cl b #[p, sv r l.length] TB)) (hr : L[kr]? = some (se r (Lib.byteCells l) 5)) (hkr : k ≠ kr) (hR : Rw 1 l.length r (Lib.byteCells l)) (hl : l ≠ [])
    (go : next (.string ⟨l.toArray⟩) (L.set kr dead)) : CallP ⟨Tryd.prog, tab, N, M, B, F⟩ 63 [ptr b] L next := by
  refine inl (C := ⟨Tryd.prog, tab, N, M, B, F⟩) tab_ok Tryd.func63 rfl Tryd.ntmps63 rfl ?_
  cases r with
  | none => have := hR.2; have h0 : l.length = 0 := this; exact absurd (List.eq_nil_of_length_eq_zero h0) hl
  | some q =>
  obtain ⟨g, cap, j⟩ := q
  obtain ⟨h1, h2, h3, h4⟩ := hR
  have hpos : 0 < l.length := List.length_pos_iff.2 hl
  have hk' : (L.set kr dead)[k]? = _ := len_set hk (Ne.symm hkr)
  refine dr (L.set kr dead) 99 (.t 0 (.t 1 (.t 2 (.t 3 (.t 5 (.t 6 (.t 7 (.t 8 (.t 9 (.n 4 (.n 10 (.n 11 .nil)))))))))))) tab_ok mixed_ok (by kernel_rfl) (sub_dead kr) ?_
  refine ld1 k hk' rfl ?_
  refine ld1 k hk' rfl ?_
  refine biV rfl (fun w hs => Lib.run_unsafeSliceData_row w _ _ _ _ _ (by omega)) ?_
  refine ⟨sub_dead kr, ?_⟩
  refine biW rfl (fun w hs => ?_)
  have hg := hs.nth hr
  have hw : w.shape? g = some (5, cap) := by simp only [World.shape?, hg]; simp; rw [← List.length_append, h4]; omega
  refine ⟨_, _, L.set kr dead, Lib.run_unsafeString_row w _ _ _ _ undP8 cells8 g cap hw l hl h2 (by unfold maxLen at h3; omega) (fun i x hx => ?_), ?_, ⟨Sub.refl _, ⟨Sub.refl _, bk go⟩⟩⟩
  · rw [addr_add, hs.cell hr]
    have hi := (List.getElem?_eq_some_iff.1 hx).1
    obtain rfl : l[i] = x := (List.getElem?_eq_some_iff.1 hx).2
    simp [Lib.byteCells, List.getElem?_append, hi]
  · have hlt := (Array.getElem?_eq_some_iff.1 hg).1
    have hz : l.length ≠ 0 := by omega
    refine hs.lose hr (o' := .cells (Lib.byteCells l ++ j).toArray 5 (0, 0 + l.length)) ?_ ?_ (fun i hi hne => ?_) ?_ ?_ ?_ <;> unfold World.freeze <;> rw [if_neg hz]
    · simp
    · simp [Array.getElem?_modify, hg]
    · simp [Array.getElem?_modify]
      exact fun h => absurd h (Ne.symm hne)
set_option maxRecDepth 100000 in
/-- nothing was written: the empty string -/
theorem bStr0 (k : Nat) {b c : Nat} {p : Value} {a : Option Addr} (hk : L[k]? = some (cl b #[p, .slice a 0 c] TB)) (ha : a = none ∨ c ≠ 0)
    (go : next (.string ⟨#[]⟩) L) : CallP ⟨Tryd.prog, tab, N, M, B, F⟩ 63 [ptr b] L next := by
  refine inl (C := ⟨Tryd.prog, tab, N, M, B, F⟩) tab_ok Tryd.func63 rfl Tryd.ntmps63 rfl ?_
  refine dr L 99 (.t 0 (.t 1 (.t 2 (.t 3 (.t 5 (.t 6 (.t 7 (.t 8 (.t 9 (.n 4 (.n 10 (.n 11 .nil)))))))))))) tab_ok mixed_ok (by kernel_rfl) (Sub.refl L) ?_
  refine ld1 k hk rfl ?_
  refine ld1 k hk rfl ?_
  refine biV (v := .pointer a) rfl (fun w hs => ?_) ?_
  · rcases ha with rfl | hc
    · rfl
    · cases a with
      | none => rfl
      | some a => exact Lib.run_unsafeSliceData_row w _ _ _ _ _ hc
  refine ⟨Sub.refl _, ?_⟩
  refine biV rfl (fun w hs => Lib.run_unsafeString_none w _ _ _ _) ?_
  exact ⟨Sub.refl _, ⟨Sub.refl _, bk go⟩⟩
end
end Go.Proofs.YtpegkoklmhccjaaDoor
