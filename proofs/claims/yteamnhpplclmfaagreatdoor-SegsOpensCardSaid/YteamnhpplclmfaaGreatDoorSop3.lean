/- For every size, all files and every arm the law SegsOpens returns true; no condition. -/
import Derived.Test.YteamnhpplclmfaaGreatDoorSop2
section
namespace Go.Proofs.YteamnhpplclmfaaGreatDoor
open Go.ChangeShapes Go.WideShapes Go.ChangeAt Go.RowKit Go.Sx
set_option linter.unusedVariables false
theorem cellsFi : Tryz.prog.cellsOf 77 = 3 := by kernel_rfl
section
variable {H : Type} {enc : TypeId × Value → H} {w : World} {base : Nat} {spare : Nat → Bool} {held : Bool}
set_option maxRecDepth 100000 in
theorem open_fils {r : Reach} {b0 : Nat} {v : Value} {d : DataW H} {p : List MemPlace} (hv : Value.okWide Tryz.prog w r b0 56 v) (h : DataW.Trod enc Tryz.prog w base spare held 56 v d p) : ∃ n O, Fils w v n O := by
  obtain ⟨a0, len0, cap0, rfl⟩ := okWide_slice Tryz.underlying56 hv
  obtain ⟨fuel, hf⟩ := h
  rcases Go.Deep.open_slice Tryz.underlying56 hf with ⟨hcs, _⟩ | ⟨a, len, cap, m, n, D, Pl, hcs, _, hl, hm, hmm, _, hx⟩
  · have e : Value.slice a0 len0 cap0 = .slice none 0 0 := by simpa [Value.cells] using hcs
    exact ⟨0, fun _ => default, Nat.zero_le _, none, 0, e, fun i hi => by omega⟩
  · have e : Value.slice a0 len0 cap0 = .slice (some a) len cap := by simpa [Value.cells] using hcs
    rw [e]
    have hlm : len ≤ m := by rw [hmm]; split <;> omega
    have each : ∀ i, i < len → ∃ q : Fi, FilAt w (some a) i q := by
      intro i hi
      obtain ⟨cs', h1, h2⟩ := hx i (by omega)
      rw [cellsFi] at h1
      obtain ⟨_, hlen, hcell⟩ := World.cells?_some h1
      obtain ⟨xs, k, _, _, _, hxl, hfs⟩ := DataW.trod_struct Tryz.underlying77 h2
      match xs, hxl, cs', hlen with
      | [y0, y1, y2], _, [v0, v1, v2], _ =>
        have g0 : DataW.trod enc Tryz.prog w base spare held k 9 (([v0, v1, v2].drop 0).take (Tryz.prog.cellsOf 9)) = some y0 := hfs 0 _ rfl
        have g1 : DataW.trod enc Tryz.prog w base spare held k 22 (([v0, v1, v2].drop 1).take (Tryz.prog.cellsOf 22)) = some y1 := hfs 1 _ rfl
        have g2 : DataW.trod enc Tryz.prog w base spare held k 3 (([v0, v1, v2].drop 2).take (Tryz.prog.cellsOf 3)) = some y2 := hfs 2 _ rfl
        rw [cellsI] at g2
        rw [cellsS] at g0
        rw [cellsB] at g1
        obtain ⟨s0, e0, _, w0⟩ := DataW.trod_string Tryz.underlying9 g0
        obtain ⟨bv, bs, e1, w1, hrd⟩ := open_rdc g1
        obtain ⟨n2, e2, _, w2⟩ := DataW.trod_int Tryz.underlying3 g2
        simp at e0 e1 e2
        subst e0 e1 e2
        obtain ⟨ba, bc, hbv⟩ : ∃ a c, v1 = .slice a bs.length c := by obtain ⟨a, c, e, _⟩ := hrd; exact ⟨a, c, by rw [e, Lib.byteCells_length]⟩
        subst hbv
        have c0 := hcell 0 (by omega)
        obtain ⟨b, o, sp⟩ := a
        have hsp : sp = none := by
          obtain ⟨cs0, h10, _⟩ := hx 0 (by omega)
          rw [cellsFi] at h10
          have := World.cell?_spot ((World.cells?_some h10).2.2 0 (by omega) |>.trans (List.getElem?_eq_getElem (by rw [(World.cells?_some h10).2.1]; omega)))
          simpa [Addr.add] using this
        subst hsp
        refine ⟨⟨s0.data.toList, ba, bc, bs, n2⟩, ⟨⟨b, o, rfl, World.block_lt_of_cell? w _ (by simpa [addr_add] using c0), fun j u hu => ?_⟩, hrd, by simpa using w0, w1⟩⟩
        have hj : j < 3 := (Array.getElem?_eq_some_iff.1 hu).1
        have cj := hcell j hj
        rw [addr_add, addr_add] at cj
        rw [cj, ← hu]
        rcases j with _ | _ | _ | j
        · simp [Fi.cs]
        · rfl
        · rfl
        · omega
    obtain ⟨O, hO⟩ := Go.Deep.choose_lt each
    exact ⟨len, O, by omega, some a, cap, rfl, hO⟩
end
set_option maxRecDepth 100000 in
set_option linter.unusedVariables false in
theorem segsOpens_lifted (os : Os) (started : os.Started) (H : Type) (enc : TypeId × Value → H) :
    ReturnsInHanded {} Tryz.checked os 8 .any (fun w args => (Rows.segsOpensSpec.pre enc Tryz.prog Tryz.f8 Rows.segsOpensRow.domain false w args ∧ laidMetH Tryz.prog Rows.segsOpensRow.laid w) ∧ sizedMet enc Tryz.prog Tryz.f8 (OpenSpec.ofChange Rows.segsOpensSpec) false w args) (Rows.segsOpensSpec.post enc Tryz.prog Tryz.f8 false true false false) := by
  refine returnsInHanded_of_change_and (C := Tryz.checked) (X := fun w _ => laidMetH Tryz.prog Rows.segsOpensRow.laid w) (fun _ _ _ hh h => h.of_heap hh) own started (by kernel_rfl) Tryz.func8
    (ChangeSpec.witness_shaped (enc := enc) (C := Tryz.checked) (os := os) (X := fun w _ => laidMetH Tryz.prog Rows.segsOpensRow.laid w) false (World.laidAll Tryz.prog os Rows.segsOpensRow.laid) #[.int .i64 0, .slice none 0 0, .int .i64 0] 8 (World.laidAll_os _ _ _)
      (World.shaped_of_ZipB (by kernel_rfl) (by kernel_rfl)) (by kernel_rfl) (by kernel_rfl) (by kernel_rfl)
      (by rw [MakeChecks.laidMetH_plain _ _ _ (by kernel_rfl)]; exact laidMet_laidAll _ (by kernel_rfl) (by kernel_rfl))) ?_
  intro W base args ds gs before hval0 hW hcnd hsz hL _
  have hval : ∀ (j : Nat) t v, Tryz.f8.params[j]? = some t → args[j]? = some v → Value.okWide Tryz.prog W .any base t v := hval0
  have hW' := hW
  obtain ⟨p, q, hA0, hV, rfl, hfz, hnd⟩ := hW
  have hA : DataW.TrodAll enc Tryz.prog W 0 (fun _ => true) true Tryz.f8.params.toList args.toList ds p := hA0
  rw [Tryz.params8] at hA hval
  obtain ⟨v0, vs0, d0, ds0, p0, q0, hargs, rfl, rfl, h0, r0⟩ := trodAll_cons hA
  obtain ⟨v1, vs1, d1, ds1, p1, q1, rfl, rfl, rfl, h1, r1⟩ := trodAll_cons r0
  obtain ⟨v2, vs2, d2, ds2, p2, q2, rfl, rfl, rfl, h2, r2⟩ := trodAll_cons r1
  obtain ⟨rfl, rfl, rfl⟩ := trodAll_nil r2
  obtain rfl : args = #[v0, v1, v2] := by cases args; simp_all
  obtain ⟨rfl, rfl⟩ := trodVars_none hV
  obtain ⟨a0, rfl, rfl, rfl, w0⟩ := open_int Tryz.underlying3 (hval 0 3 v0 rfl rfl) h0
  have k1 := h1
  have lt1 : ∀ x ∈ p1, x.block < W.heap.size := by obtain ⟨m, hm⟩ := k1; exact DataW.trod_lt m _ _ _ hm
  obtain ⟨m1, O1, hF1⟩ := open_fils (hval 1 56 v1 rfl rfl) h1
  obtain ⟨a2, rfl, rfl, rfl, w2⟩ := open_int Tryz.underlying3 (hval 2 3 v2 rfl rfl) h2
  clear hA0 hval0
  refine (law_opens a0 (bounds_i64 w0) _ m1 O1 a2 (bounds_i64 w2) W hF1 (laid_of hL)).mono fun e W' ⟨he, bel⟩ => ?_
  subst he
  exact ⟨_, rfl, _, _, _, [], _, [], hW', trodAll_mk1 (shut_bool Tryz.underlying4 _), (trodAll_cons_mk (shut_int Tryz.underlying3 w0) (trodAll_cons_mk (Below.trod laidOut (by kernel_rfl) (of_decide_eq_true (by kernel_rfl)) k1 bel lt1) (trodAll_cons_mk (shut_int Tryz.underlying3 w2) trodAll_mk0))), rfl, bel.frame _, fun h => by cases h⟩

theorem segsOpens_said : Rows.SegsOpensSaid :=
  OpenClaim.holds_of_wide 8 Tryz.f8 rfl rfl rfl rfl rfl rfl rfl ⟨rfl, rfl, rfl, rfl, rfl⟩ rfl rfl rfl rfl rfl (by kernel_rfl) Tryz.func8 (by kernel_rfl)
    (of_decide_eq_true (by kernel_rfl)) (by unfold Func.isWrapper; first | (rw [if_pos (by decide +kernel)]; kernel_rfl) | (rw [if_neg (by decide +kernel)]; exact ⟨rfl, rfl⟩))
    (fun os started H enc _ => segsOpens_lifted os started H enc)
theorem segsOpens_proved : Rows.SegsOpensCardSaid :=
  Claim7.holds_tied_plain_at .later [] [.data, .data, .data] true (true, "738d321f5d72af028e93c8a4ffc6de25b75efbda953487eba038e9e47393914b") true segsOpens_said (fun _ h => by cases h) (by kernel_rfl) (fun _ h => by cases h) segsOpens_row_tie rfl ⟨rfl, rfl⟩ (by kernel_rfl) rfl
    (fun f fn hf hfn => by
      obtain rfl : f = 8 := Option.some.inj ((show Tryz.prog.funcNamed "cachet/cachetlaw08.SegsOpens" = some 8 by kernel_rfl).symm.trans hf) |>.symm
      obtain rfl : fn = Tryz.f8 := (Option.some.inj (Tryz.func8.symm.trans hfn)).symm
      exact ⟨by kernel_rfl, fun j t ht => by
        rw [Tryz.params8] at ht
        have hm : t ∈ [3, 56, 3] := by simpa using Array.mem_of_getElem? ht
        have hall : ([3, 56, 3].all fun u => !Tryz.prog.wantsStandIn u) = true := by kernel_rfl
        exact (show Tryz.prog.wantsStandIn t = false by simpa using List.all_eq_true.1 hall t hm)⟩)
    (by kernel_rfl)
#print axioms segsOpens_proved
end Go.Proofs.YteamnhpplclmfaaGreatDoor
end
