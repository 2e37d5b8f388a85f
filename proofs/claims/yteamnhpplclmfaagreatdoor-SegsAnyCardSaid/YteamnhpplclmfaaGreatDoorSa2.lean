/- For every way to part the payloads the law SegsAny returns true; no condition. -/
import Derived.Test.YteamnhpplclmfaaGreatDoorSa1
section
namespace Go.Proofs.YteamnhpplclmfaaGreatDoor
open Go.ChangeShapes Go.WideShapes Go.ChangeAt Go.RowKit Go.Sx
set_option linter.unusedVariables false
section
variable {H : Type} {enc : TypeId × Value → H} {w : World} {base : Nat} {spare : Nat → Bool} {held : Bool}
set_option maxRecDepth 100000 in
/-- whole numbers in a field -/
theorem open_isc {fuel : Nat} {cs : List Value} {x : DataW H × List MemPlace} (h : DataW.trod enc Tryz.prog w base spare held fuel 45 cs = some x) : ∃ a zs c, cs = [.slice a zs.length c] ∧ zs.length ≤ maxLen ∧ (∀ z ∈ zs, -9223372036854775808 ≤ z ∧ z ≤ 9223372036854775807) ∧ Rd w (.slice a zs.length c) (isC zs) := by
  rcases open_ints Tryz.underlying45 Tryz.underlying3 cellsI h with ⟨hcs, hx⟩ | ⟨a, len, cap, zs, hcs, _, hl, hm, hz, hx, hcell, hwz⟩
  · exact ⟨none, [], 0, hcs, Nat.zero_le _, by simp, none, 0, rfl, fun h => absurd rfl h⟩
  · have hlz : len ≤ zs.length := by rw [hz]; split <;> omega
    have htl : (zs.take len).length = len := by rw [List.length_take]; omega
    refine ⟨some a, zs.take len, cap, by rw [htl]; exact hcs, by omega, fun z hz => bounds_i64 (hwz z (List.mem_of_mem_take hz)), some a, cap, by simp [isC], fun hne => ?_⟩
    have hpos : 0 < len := by
      rcases Nat.eq_zero_or_pos len with h0 | h0
      · rw [h0] at hne; exact absurd rfl hne
      · exact h0
    have h0 := hcell 0 (by omega)
    obtain ⟨b, o, sp⟩ := a
    obtain rfl : sp = none := by have := World.cell?_spot h0; simpa [Addr.add] using this
    refine ⟨b, o, rfl, World.block_lt_of_cell? w _ h0, fun j u hu => ?_⟩
    have hj : j < len := by have := (List.getElem?_eq_some_iff.1 hu).1; unfold isC at this; rw [List.length_map, htl] at this; exact this
    rw [← addr_add, hcell j (by omega), ← hu]
    have hjz : j < zs.length := by omega
    simp [isC, hj, hjz, List.getD]
/-- the law's argument -/
structure PartIn (w : World) (v : Value) where
  a : Option Addr
  c : Nat
  vs : List Value
  ps : List Bs
  z1 : Int
  z2 : Int
  xa : Option Addr
  xc : Nat
  zs : List Int
  v_eq : v = .agg #[.slice a ps.length c, .int .i64 z1, .int .i64 z2, .slice xa zs.length xc]
  pm : ps.length ≤ maxLen
  hI : PayIn w a c vs ps
  h1 : -9223372036854775808 ≤ z1 ∧ z1 ≤ 9223372036854775807
  h2 : -9223372036854775808 ≤ z2 ∧ z2 ≤ 9223372036854775807
  zm : zs.length ≤ maxLen
  zb : ∀ z ∈ zs, -9223372036854775808 ≤ z ∧ z ≤ 9223372036854775807
  hZ : Rd w (.slice xa zs.length xc) (isC zs)
set_option maxRecDepth 100000 in
theorem open_part {r : Reach} {b0 : Nat} {v : Value} {d : DataW H} {p : List MemPlace} (hv : Value.okWide Tryz.prog w r b0 47 v) (h : DataW.Trod enc Tryz.prog w base spare held 47 v d p) : Nonempty (PartIn w v) := by
  have hv2 : ∃ cs, v = .agg cs := by
    simp only [Value.okWide, Tryz.underlying47] at hv
    obtain ⟨cs, h1, _⟩ := hv
    exact ⟨cs, h1⟩
  obtain ⟨cs, rfl⟩ := hv2
  obtain ⟨fuel, hf⟩ := h
  obtain ⟨xs, k, _, _, hcl, hxl, hfs⟩ := DataW.trod_struct Tryz.underlying47 hf
  have hlen : cs.toList.length = 4 := by first | simpa [Value.cells] using hcl | exact hcl
  match xs, hxl, cs, hlen with
  | [y0, y1, y2, y3], _, ⟨[v0, v1, v2, v3]⟩, _ =>
    have g0 : DataW.trod enc Tryz.prog w base spare held k 36 (([v0, v1, v2, v3].drop 0).take (Tryz.prog.cellsOf 36)) = some y0 := hfs 0 _ rfl
    have g1 : DataW.trod enc Tryz.prog w base spare held k 3 (([v0, v1, v2, v3].drop 1).take (Tryz.prog.cellsOf 3)) = some y1 := hfs 1 _ rfl
    have g2 : DataW.trod enc Tryz.prog w base spare held k 3 (([v0, v1, v2, v3].drop 2).take (Tryz.prog.cellsOf 3)) = some y2 := hfs 2 _ rfl
    have g3 : DataW.trod enc Tryz.prog w base spare held k 45 (([v0, v1, v2, v3].drop 3).take (Tryz.prog.cellsOf 45)) = some y3 := hfs 3 _ rfl
    rw [cellsI] at g1 g2
    rw [cellsBB] at g0
    rw [show Tryz.prog.cellsOf 45 = 1 by kernel_rfl] at g3
    obtain ⟨a, c, vs, ps, e0, hm, hI⟩ := open_paysc g0
    obtain ⟨n1, e1, _, w1⟩ := DataW.trod_int Tryz.underlying3 g1
    obtain ⟨n2, e2, _, w2⟩ := DataW.trod_int Tryz.underlying3 g2
    obtain ⟨xa, zs, xc, e3, zm, zb, hZ⟩ := open_isc g3
    simp at e0 e1 e2 e3
    subst e0 e1 e2 e3
    exact ⟨⟨a, c, vs, ps, n1, n2, xa, xc, zs, rfl, hm, hI, bounds_i64 w1, bounds_i64 w2, zm, zb, hZ⟩⟩
end
theorem law_any (v : Value) (w : World) (p : PartIn w v) (hw : Laid w) :
    Calls Tryz.prog 5 ([v] : List Value).toArray w fun e w' => e = .returned (.bool true) ∧ Below w.heap.size w w' := by
  obtain ⟨a, c, vs, ps, z1, z2, xa, xc, zs, rfl, pm, hI, h1, h2, zm, zb, hZ⟩ := p
  refine enterV tab_ok Tryz.func5 rfl Tryz.ntmps5 rfl (St.laid hw) ?_
  intro b1
  iterate 4 refine ld1 1 rfl rfl ?_
  refine cvs (fun w1 hs => law_sizes z1 z2 h1 h2 a c vs ps xa xc zs w1 ⟨hI.row.below hs.below, hI.pls, fun i v q hv hq => (hI.el i v q hv hq).below hs.below, hI.mx, hI.cap⟩ pm (Rd.below hZ hs.below) zm zb (hs.res (k := 0) rfl)) ?_
  exact rt rfl
set_option maxRecDepth 100000 in
set_option linter.unusedVariables false in
theorem segsAny_lifted (os : Os) (started : os.Started) (H : Type) (enc : TypeId × Value → H) :
    ReturnsInHanded {} Tryz.checked os 5 .any (fun w args => (Rows.segsAnySpec.pre enc Tryz.prog Tryz.f5 Rows.segsAnyRow.domain false w args ∧ laidMetH Tryz.prog Rows.segsAnyRow.laid w) ∧ sizedMet enc Tryz.prog Tryz.f5 (OpenSpec.ofChange Rows.segsAnySpec) false w args) (Rows.segsAnySpec.post enc Tryz.prog Tryz.f5 false true false false) := by
  refine returnsInHanded_of_change_and (C := Tryz.checked) (X := fun w _ => laidMetH Tryz.prog Rows.segsAnyRow.laid w) (fun _ _ _ hh h => h.of_heap hh) own started (by kernel_rfl) Tryz.func5
    (ChangeSpec.witness_shaped (enc := enc) (C := Tryz.checked) (os := os) (X := fun w _ => laidMetH Tryz.prog Rows.segsAnyRow.laid w) false (World.laidAll Tryz.prog os Rows.segsAnyRow.laid) #[.agg #[.slice none 0 0, .int .i64 0, .int .i64 0, .slice none 0 0]] 8 (World.laidAll_os _ _ _)
      (World.shaped_of_ZipB (by kernel_rfl) (by kernel_rfl)) (by kernel_rfl) (by kernel_rfl) (by kernel_rfl)
      (by rw [MakeChecks.laidMetH_plain _ _ _ (by kernel_rfl)]; exact laidMet_laidAll _ (by kernel_rfl) (by kernel_rfl))) ?_
  intro W base args ds gs before hval0 hW hcnd hsz hL _
  have hval : ∀ (j : Nat) t v, Tryz.f5.params[j]? = some t → args[j]? = some v → Value.okWide Tryz.prog W .any base t v := hval0
  have hW' := hW
  obtain ⟨p, q, hA0, hV, rfl, hfz, hnd⟩ := hW
  have hA : DataW.TrodAll enc Tryz.prog W 0 (fun _ => true) true Tryz.f5.params.toList args.toList ds p := hA0
  rw [Tryz.params5] at hA hval
  obtain ⟨v0, vs0, d0, ds0, p0, q0, hargs, rfl, rfl, h0, r0⟩ := trodAll_cons hA
  obtain ⟨rfl, rfl, rfl⟩ := trodAll_nil r0
  obtain rfl : args = #[v0] := by cases args; simp_all
  obtain ⟨rfl, rfl⟩ := trodVars_none hV
  have k0 := h0
  have lt0 : ∀ x ∈ p0, x.block < W.heap.size := by obtain ⟨m, hm⟩ := k0; exact DataW.trod_lt m _ _ _ hm
  obtain ⟨n0⟩ := open_part (hval 0 47 v0 rfl rfl) h0
  clear hA0 hval0
  refine (law_any v0 W n0 (laid_of hL)).mono fun e W' ⟨he, bel⟩ => ?_
  subst he
  exact ⟨_, rfl, _, _, _, [], _, [], hW', trodAll_mk1 (shut_bool Tryz.underlying4 _), (trodAll_cons_mk (Below.trod laidOut (by kernel_rfl) (of_decide_eq_true (by kernel_rfl)) k0 bel lt0) trodAll_mk0), rfl, bel.frame _, fun h => by cases h⟩

theorem segsAny_said : Rows.SegsAnySaid :=
  OpenClaim.holds_of_wide 5 Tryz.f5 rfl rfl rfl rfl rfl rfl rfl ⟨rfl, rfl, rfl, rfl, rfl⟩ rfl rfl rfl rfl rfl (by kernel_rfl) Tryz.func5 (by kernel_rfl)
    (of_decide_eq_true (by kernel_rfl)) (by unfold Func.isWrapper; first | (rw [if_pos (by decide +kernel)]; kernel_rfl) | (rw [if_neg (by decide +kernel)]; exact ⟨rfl, rfl⟩))
    (fun os started H enc _ => segsAny_lifted os started H enc)
theorem segsAny_proved : Rows.SegsAnyCardSaid :=
  Claim7.holds_tied_plain_at .later [] [.data, .data, .data] true (true, "738d321f5d72af028e93c8a4ffc6de25b75efbda953487eba038e9e47393914b") true segsAny_said (fun _ h => by cases h) (by kernel_rfl) (fun _ h => by cases h) segsAny_row_tie rfl ⟨rfl, rfl⟩ (by kernel_rfl) rfl
    (fun f fn hf hfn => by
      obtain rfl : f = 5 := Option.some.inj ((show Tryz.prog.funcNamed "cachet/cachetlaw08.SegsAny" = some 5 by kernel_rfl).symm.trans hf) |>.symm
      obtain rfl : fn = Tryz.f5 := (Option.some.inj (Tryz.func5.symm.trans hfn)).symm
      exact ⟨by kernel_rfl, fun j t ht => by
        rw [Tryz.params5] at ht
        have hm : t ∈ [47] := by simpa using Array.mem_of_getElem? ht
        have hall : ([47].all fun u => !Tryz.prog.wantsStandIn u) = true := by kernel_rfl
        exact (show Tryz.prog.wantsStandIn t = false by simpa using List.all_eq_true.1 hall t hm)⟩)
    (by kernel_rfl)
#print axioms segsAny_proved
end Go.Proofs.YteamnhpplclmfaaGreatDoor
end
