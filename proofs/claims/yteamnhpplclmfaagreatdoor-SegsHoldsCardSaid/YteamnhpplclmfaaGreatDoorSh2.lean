/- For every script and wherever the power goes the law SegsHolds returns true; no condition. -/
import Derived.Test.YteamnhpplclmfaaGreatDoorSh1
section
namespace Go.Proofs.YteamnhpplclmfaaGreatDoor
open Go.ChangeShapes Go.WideShapes Go.ChangeAt Go.RowKit Go.Sx
set_option linter.unusedVariables false
theorem cellsOp8 : Tryz.prog.cellsOf TOp8 = 3 := by kernel_rfl
theorem cellsOps8 : Tryz.prog.cellsOf TOps8 = 1 := by kernel_rfl
section
variable {H : Type} {enc : TypeId × Value → H} {w : World} {base : Nat} {spare : Nat → Bool} {held : Bool}
set_option maxRecDepth 100000 in
/-- a script in a field -/
theorem open_script8 {fuel : Nat} {cs : List Value} {x : DataW H × List MemPlace} (h : DataW.trod enc Tryz.prog w base spare held fuel TOps8 cs = some x) : ∃ a c n O, cs = [.slice a n c] ∧ Scr8 w (.slice a n c) n O := by
  rcases Go.Deep.open_slice Tryz.underlying50 h with ⟨hcs, _⟩ | ⟨a, len, cap, m, n, D, Pl, hcs, _, hl, hm, hmm, _, hx⟩
  · exact ⟨none, 0, 0, fun _ => default, hcs, Nat.zero_le _, none, 0, rfl, fun i hi => by omega⟩
  · have hlm : len ≤ m := by rw [hmm]; split <;> omega
    have each : ∀ i, i < len → ∃ q : Op8, Act8 w (some a) i q := by
      intro i hi
      obtain ⟨cs', h1, h2⟩ := hx i (by omega)
      rw [cellsOp8] at h1
      obtain ⟨_, hlen, hcell⟩ := World.cells?_some h1
      obtain ⟨xs, k, _, _, _, hxl, hfs⟩ := DataW.trod_struct Tryz.underlying65 h2
      match xs, hxl, cs', hlen with
      | [y0, y1, y2], _, [v0, v1, v2], _ =>
        have g0 : DataW.trod enc Tryz.prog w base spare held k 3 (([v0, v1, v2].drop 0).take (Tryz.prog.cellsOf 3)) = some y0 := hfs 0 _ rfl
        have g1 : DataW.trod enc Tryz.prog w base spare held k 3 (([v0, v1, v2].drop 1).take (Tryz.prog.cellsOf 3)) = some y1 := hfs 1 _ rfl
        have g2 : DataW.trod enc Tryz.prog w base spare held k 36 (([v0, v1, v2].drop 2).take (Tryz.prog.cellsOf 36)) = some y2 := hfs 2 _ rfl
        rw [cellsI] at g0 g1
        rw [cellsBB] at g2
        obtain ⟨n0, e0, _, w0⟩ := DataW.trod_int Tryz.underlying3 g0
        obtain ⟨n1, e1, _, w1⟩ := DataW.trod_int Tryz.underlying3 g1
        obtain ⟨pa, pc, vs, ps, e2, pm, hI⟩ := open_paysc g2
        simp at e0 e1 e2
        subst e0 e1 e2
        have c0 := hcell 0 (by omega)
        obtain ⟨b, o, sp⟩ := a
        have hsp : sp = none := by
          obtain ⟨cs0, h10, _⟩ := hx 0 (by omega)
          rw [cellsOp8] at h10
          have := World.cell?_spot ((World.cells?_some h10).2.2 0 (by omega) |>.trans (List.getElem?_eq_getElem (by rw [(World.cells?_some h10).2.1]; omega)))
          simpa [Addr.add] using this
        subst hsp
        refine ⟨⟨n0, n1, pa, pc, vs, ps⟩, ⟨⟨b, o, rfl, World.block_lt_of_cell? w _ (by simpa [addr_add] using c0), fun j u hu => ?_⟩, hI, pm⟩⟩
        have hj : j < 3 := (Array.getElem?_eq_some_iff.1 hu).1
        have cj := hcell j hj
        rw [addr_add, addr_add] at cj
        rw [cj, ← hu]
        rcases j with _ | _ | _ | j
        · rfl
        · rfl
        · rfl
        · omega
    obtain ⟨O, hO⟩ := Go.Deep.choose_lt each
    exact ⟨some a, cap, len, O, hcs, by omega, some a, cap, rfl, hO⟩
/-- the law's argument -/
structure HeldIn (w : World) (v : Value) where
  z : Int
  a : Option Addr
  c : Nat
  n : Nat
  O : Nat → Op8
  arm : Int
  keep : Int
  v_eq : v = .agg #[.int .i64 z, .slice a n c, .int .i64 arm, .int .i64 keep]
  hS : Scr8 w (.slice a n c) n O
  h1 : -9223372036854775808 ≤ z ∧ z ≤ 9223372036854775807
  h2 : -9223372036854775808 ≤ arm ∧ arm ≤ 9223372036854775807
  h3 : -9223372036854775808 ≤ keep ∧ keep ≤ 9223372036854775807
set_option maxRecDepth 100000 in
theorem open_held {r : Reach} {b0 : Nat} {v : Value} {d : DataW H} {p : List MemPlace} (hv : Value.okWide Tryz.prog w r b0 52 v) (h : DataW.Trod enc Tryz.prog w base spare held 52 v d p) : Nonempty (HeldIn w v) := by
  have hv2 : ∃ cs, v = .agg cs := by
    simp only [Value.okWide, Tryz.underlying52] at hv
    obtain ⟨cs, h1, _⟩ := hv
    exact ⟨cs, h1⟩
  obtain ⟨cs, rfl⟩ := hv2
  obtain ⟨fuel, hf⟩ := h
  obtain ⟨xs, k, _, _, hcl, hxl, hfs⟩ := DataW.trod_struct Tryz.underlying52 hf
  have hlen : cs.toList.length = 4 := by first | simpa [Value.cells] using hcl | exact hcl
  match xs, hxl, cs, hlen with
  | [y0, y1, y2, y3], _, ⟨[v0, v1, v2, v3]⟩, _ =>
    have g0 : DataW.trod enc Tryz.prog w base spare held k 3 (([v0, v1, v2, v3].drop 0).take (Tryz.prog.cellsOf 3)) = some y0 := hfs 0 _ rfl
    have g1 : DataW.trod enc Tryz.prog w base spare held k TOps8 (([v0, v1, v2, v3].drop 1).take (Tryz.prog.cellsOf TOps8)) = some y1 := hfs 1 _ rfl
    have g2 : DataW.trod enc Tryz.prog w base spare held k 3 (([v0, v1, v2, v3].drop 2).take (Tryz.prog.cellsOf 3)) = some y2 := hfs 2 _ rfl
    have g3 : DataW.trod enc Tryz.prog w base spare held k 3 (([v0, v1, v2, v3].drop 3).take (Tryz.prog.cellsOf 3)) = some y3 := hfs 3 _ rfl
    rw [cellsI] at g0 g2 g3
    rw [cellsOps8] at g1
    obtain ⟨n0, e0, _, w0⟩ := DataW.trod_int Tryz.underlying3 g0
    obtain ⟨a, c, n, O, e1, hS⟩ := open_script8 g1
    obtain ⟨n2, e2, _, w2⟩ := DataW.trod_int Tryz.underlying3 g2
    obtain ⟨n3, e3, _, w3⟩ := DataW.trod_int Tryz.underlying3 g3
    simp at e0 e1 e2 e3
    subst e0 e1 e2 e3
    exact ⟨⟨n0, a, c, n, O, n2, n3, rfl, hS, bounds_i64 w0, bounds_i64 w2, bounds_i64 w3⟩⟩
end
theorem law_holds (v : Value) (w : World) (p : HeldIn w v) (hw : Laid w) :
    Calls Tryz.prog 6 ([v] : List Value).toArray w fun e w' => e = .returned (.bool true) ∧ Below w.heap.size w w' := by
  obtain ⟨z, a, c, n, O, arm, keep, rfl, hS, h1, h2, h3⟩ := p
  refine enterV tab_ok Tryz.func6 rfl Tryz.ntmps6 rfl (St.laid hw) ?_
  intro b1
  iterate 4 refine ld1 1 rfl rfl ?_
  refine cvs (fun w1 hs => holds_script z h1 (.slice a n c) n O arm keep h2 w1 ⟨hS.1, by obtain ⟨_, a', c', e, h⟩ := hS; exact ⟨a', c', e, fun i hi => (h i hi).below hs.below⟩⟩ (hs.res (k := 0) rfl) (fun size y g1 g2 hy => holds_end size keep h3 w1 y g1 g2 hy)) ?_
  exact rt rfl
set_option maxRecDepth 100000 in
set_option linter.unusedVariables false in
theorem segsHolds_lifted (os : Os) (started : os.Started) (H : Type) (enc : TypeId × Value → H) :
    ReturnsInHanded {} Tryz.checked os 6 .any (fun w args => (Rows.segsHoldsSpec.pre enc Tryz.prog Tryz.f6 Rows.segsHoldsRow.domain false w args ∧ laidMetH Tryz.prog Rows.segsHoldsRow.laid w) ∧ sizedMet enc Tryz.prog Tryz.f6 (OpenSpec.ofChange Rows.segsHoldsSpec) false w args) (Rows.segsHoldsSpec.post enc Tryz.prog Tryz.f6 false true false false) := by
  refine returnsInHanded_of_change_and (C := Tryz.checked) (X := fun w _ => laidMetH Tryz.prog Rows.segsHoldsRow.laid w) (fun _ _ _ hh h => h.of_heap hh) own started (by kernel_rfl) Tryz.func6
    (ChangeSpec.witness_shaped (enc := enc) (C := Tryz.checked) (os := os) (X := fun w _ => laidMetH Tryz.prog Rows.segsHoldsRow.laid w) false (World.laidAll Tryz.prog os Rows.segsHoldsRow.laid) #[.agg #[.int .i64 0, .slice none 0 0, .int .i64 0, .int .i64 0]] 8 (World.laidAll_os _ _ _)
      (World.shaped_of_ZipB (by kernel_rfl) (by kernel_rfl)) (by kernel_rfl) (by kernel_rfl) (by kernel_rfl)
      (by rw [MakeChecks.laidMetH_plain _ _ _ (by kernel_rfl)]; exact laidMet_laidAll _ (by kernel_rfl) (by kernel_rfl))) ?_
  intro W base args ds gs before hval0 hW hcnd hsz hL _
  have hval : ∀ (j : Nat) t v, Tryz.f6.params[j]? = some t → args[j]? = some v → Value.okWide Tryz.prog W .any base t v := hval0
  have hW' := hW
  obtain ⟨p, q, hA0, hV, rfl, hfz, hnd⟩ := hW
  have hA : DataW.TrodAll enc Tryz.prog W 0 (fun _ => true) true Tryz.f6.params.toList args.toList ds p := hA0
  rw [Tryz.params6] at hA hval
  obtain ⟨v0, vs0, d0, ds0, p0, q0, hargs, rfl, rfl, h0, r0⟩ := trodAll_cons hA
  obtain ⟨rfl, rfl, rfl⟩ := trodAll_nil r0
  obtain rfl : args = #[v0] := by cases args; simp_all
  obtain ⟨rfl, rfl⟩ := trodVars_none hV
  have k0 := h0
  have lt0 : ∀ x ∈ p0, x.block < W.heap.size := by obtain ⟨m, hm⟩ := k0; exact DataW.trod_lt m _ _ _ hm
  obtain ⟨n0⟩ := open_held (hval 0 52 v0 rfl rfl) h0
  clear hA0 hval0
  refine (law_holds v0 W n0 (laid_of hL)).mono fun e W' ⟨he, bel⟩ => ?_
  subst he
  exact ⟨_, rfl, _, _, _, [], _, [], hW', trodAll_mk1 (shut_bool Tryz.underlying4 _), (trodAll_cons_mk (Below.trod laidOut (by kernel_rfl) (of_decide_eq_true (by kernel_rfl)) k0 bel lt0) trodAll_mk0), rfl, bel.frame _, fun h => by cases h⟩

theorem segsHolds_said : Rows.SegsHoldsSaid :=
  OpenClaim.holds_of_wide 6 Tryz.f6 rfl rfl rfl rfl rfl rfl rfl ⟨rfl, rfl, rfl, rfl, rfl⟩ rfl rfl rfl rfl rfl (by kernel_rfl) Tryz.func6 (by kernel_rfl)
    (of_decide_eq_true (by kernel_rfl)) (by unfold Func.isWrapper; first | (rw [if_pos (by decide +kernel)]; kernel_rfl) | (rw [if_neg (by decide +kernel)]; exact ⟨rfl, rfl⟩))
    (fun os started H enc _ => segsHolds_lifted os started H enc)
theorem segsHolds_proved : Rows.SegsHoldsCardSaid :=
  Claim7.holds_tied_plain_at .later [] [.data, .data, .data] true (true, "738d321f5d72af028e93c8a4ffc6de25b75efbda953487eba038e9e47393914b") true segsHolds_said (fun _ h => by cases h) (by kernel_rfl) (fun _ h => by cases h) segsHolds_row_tie rfl ⟨rfl, rfl⟩ (by kernel_rfl) rfl
    (fun f fn hf hfn => by
      obtain rfl : f = 6 := Option.some.inj ((show Tryz.prog.funcNamed "cachet/cachetlaw08.SegsHolds" = some 6 by kernel_rfl).symm.trans hf) |>.symm
      obtain rfl : fn = Tryz.f6 := (Option.some.inj (Tryz.func6.symm.trans hfn)).symm
      exact ⟨by kernel_rfl, fun j t ht => by
        rw [Tryz.params6] at ht
        have hm : t ∈ [52] := by simpa using Array.mem_of_getElem? ht
        have hall : ([52].all fun u => !Tryz.prog.wantsStandIn u) = true := by kernel_rfl
        exact (show Tryz.prog.wantsStandIn t = false by simpa using List.all_eq_true.1 hall t hm)⟩)
    (by kernel_rfl)
#print axioms segsHolds_proved
end Go.Proofs.YteamnhpplclmfaaGreatDoor
end
