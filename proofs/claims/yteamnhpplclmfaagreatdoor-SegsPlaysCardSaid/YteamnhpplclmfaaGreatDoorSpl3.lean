/- For every quota, size and script the law SegsPlays returns true; no condition. -/
import Derived.SizedLaws
import Derived.Test.YteamnhpplclmfaaGreatDoorSpl2
section
namespace Go.Proofs.YteamnhpplclmfaaGreatDoor
open Go.ChangeShapes Go.WideShapes Go.ChangeAt Go.RowKit Go.Sx
set_option linter.unusedVariables false
theorem cellsOp8 : Tryz.prog.cellsOf TOp8 = 3 := by kernel_rfl
section
variable {H : Type} {enc : TypeId × Value → H} {w : World} {base : Nat} {spare : Nat → Bool} {held : Bool}
theorem weights_all {P : Program} {e : TypeId} {d : DataW H} : ∀ {l : List (DataW H)}, d ∈ l → ∀ m ∈ d.weights P e, m ∈ DataW.weightsAll P e l
  | x :: l, h, m, hm => by
    rw [DataW.weightsAll, List.mem_append]
    rcases List.mem_cons.1 h with rfl | h
    · exact .inl hm
    · exact .inr (weights_all h m hm)
theorem weights_elem {P : Program} {t e : TypeId} {d : DataW H} {elems sp : List (DataW H)} (hu : P.underlying t = some (.slice e)) (hd : d ∈ elems) (h : ∀ m ∈ (DataW.slice elems sp : DataW H).weights P t, m ≤ reachBytes) : ∀ m ∈ d.weights P e, m ≤ reachBytes := fun m hm => by
  refine h m ?_
  rw [DataW.weights, hu]
  exact List.mem_cons_of_mem _ (List.mem_append_left _ (weights_all hd m hm))
set_option maxRecDepth 100000 in
/-- bytes in a field, and how many there may be -/
theorem open_rdcW {fuel : Nat} {cs : List Value} {x : DataW H × List MemPlace} (h : DataW.trod enc Tryz.prog w base spare held fuel 22 cs = some x) (hw : ∀ m ∈ x.1.weights Tryz.prog 22, m ≤ reachBytes) : ∃ v bs, cs = [v] ∧ bs.length ≤ 140737488355328 ∧ Rd w v (Lib.byteCells bs) := by
  obtain ⟨v, bs, e, hm, hrd⟩ := open_rdc h
  refine ⟨v, bs, e, ?_, hrd⟩
  obtain ⟨a', c', ev, _⟩ := hrd
  rw [Lib.byteCells_length] at ev
  subst e
  rcases open_ints Tryz.underlying22 Tryz.underlying5 cellsU8 h with ⟨hcs, hx⟩ | ⟨a, len, cap, zs, hcs, _, hl, hm, hz, hx, hcell, hwz⟩
  · rw [ev] at hcs
    have : bs.length = 0 := by simpa using (by injection hcs with h1 _; injection h1 with _ h2 _ : bs.length = 0)
    omega
  · rw [ev] at hcs
    have hlen : bs.length = len := by injection hcs with h1 _; injection h1 with _ h2 _
    have hlz : len ≤ zs.length := by rw [hz]; split <;> omega
    rw [hx] at hw
    have h2 := hw ((lits .u8 (zs.take len)).length + (lits .u8 (zs.drop len)).length) (by
      rw [DataW.weights, Tryz.underlying22]
      dsimp only
      rw [show Tryz.prog.bytesOf 5 = 1 by kernel_rfl, Nat.mul_one]
      exact List.mem_cons_self)
    simp only [List.length_map, List.length_take, List.length_drop, lits] at h2
    unfold reachBytes at h2
    omega
set_option maxRecDepth 100000 in
/-- rows of bytes in a field -/
theorem open_payscW {fuel : Nat} {cs : List Value} {x : DataW H × List MemPlace} (h : DataW.trod enc Tryz.prog w base spare held fuel 36 cs = some x) (hw : ∀ m ∈ x.1.weights Tryz.prog 36, m ≤ reachBytes) : ∃ a c vs ps, cs = [.slice a ps.length c] ∧ ps.length ≤ maxLen ∧ PayIn w a c vs ps ∧ ∀ p ∈ ps, p.length ≤ 140737488355328 := by
  obtain ⟨a, c, vs, ps, hcs, hm, hI⟩ := open_paysc h
  refine ⟨a, c, vs, ps, hcs, hm, hI, fun p hp => ?_⟩
  obtain ⟨j, hj, rfl⟩ := List.getElem_of_mem hp
  rcases Go.Deep.open_slice1 Tryz.underlying36 cellsB h with ⟨hcs2, _⟩ | ⟨a2, len, cap, m, n, V, D, Pl, hcs2, _, hl, hm2, hmm, hxe, hx⟩
  · rw [hcs] at hcs2
    have : ps.length = 0 := by injection hcs2 with h1 _; injection h1 with _ h2 _
    omega
  · rw [hcs] at hcs2
    have hlen : ps.length = len := by injection hcs2 with h1 _; injection h1 with _ h2 _
    have haa : a = some a2 := by injection hcs2 with h1 _; injection h1 with h1 _ _
    subst haa
    have hlm : len ≤ m := by rw [hmm]; split <;> omega
    obtain ⟨h1, h2⟩ := hx j (by omega)
    rw [hxe] at hw
    obtain ⟨v, bs, e, hb, hr⟩ := open_rdcW h2 (weights_elem Tryz.underlying36 (List.mem_map.2 ⟨j, List.mem_range.2 (by omega), rfl⟩) hw)
    obtain rfl : V j = v := by simpa using e
    obtain ⟨pa, pc, hpv⟩ := hI.pls.at (i := j) (p := ps[j]) (by simp [hj])
    have hrow := hI.row
    have hne : vs ≠ [] := fun e => by rw [e] at hpv; cases hpv
    obtain ⟨b, o, hab⟩ := hrow.addr hne
    obtain rfl := Option.some.inj hab
    have hc1 := hrow.at hpv (k := (j : Int)) rfl
    rw [nad_eq, nmu_eq, Int.toNat_natCast, Nat.mul_one] at hc1
    rw [addr_add, hc1] at h1
    have hV : V j = .slice pa ps[j].length pc := (Option.some.inj h1).symm
    rw [hV] at hr
    obtain ⟨a', c', ev, _⟩ := hr
    rw [Lib.byteCells_length] at ev
    injection ev with _ ev2 _
    omega
set_option maxRecDepth 100000 in
theorem open_script8W {r : Reach} {b0 : Nat} {v : Value} {d : DataW H} {p : List MemPlace} (hv : Value.okWide Tryz.prog w r b0 TOps8 v) (h : DataW.Trod enc Tryz.prog w base spare held TOps8 v d p) (hw : ∀ m ∈ d.weights Tryz.prog TOps8, m ≤ reachBytes) : ∃ n O, Scr8 w v n O ∧ (∀ i, i < n → -9223372036854775808 ≤ (O i).n ∧ (O i).n ≤ 9223372036854775807) ∧ ∀ i, i < n → ∀ p ∈ (O i).ps, p.length ≤ 140737488355328 := by
  obtain ⟨a0, len0, cap0, rfl⟩ := okWide_slice Tryz.underlying50 hv
  obtain ⟨fuel, hf⟩ := h
  rcases Go.Deep.open_slice Tryz.underlying50 hf with ⟨hcs, _⟩ | ⟨a, len, cap, m, n, D, Pl, hcs, _, hl, hm, hmm, hxe, hx⟩
  · have e : Value.slice a0 len0 cap0 = .slice none 0 0 := by simpa [Value.cells] using hcs
    exact ⟨0, fun _ => default, ⟨Nat.zero_le _, none, 0, e, fun i hi => by omega⟩, fun i hi => by omega, fun i hi => by omega⟩
  · have e : Value.slice a0 len0 cap0 = .slice (some a) len cap := by simpa [Value.cells] using hcs
    rw [e]
    obtain ⟨hxe1, _⟩ := Prod.mk.inj hxe
    rw [hxe1] at hw
    have hlm : len ≤ m := by rw [hmm]; split <;> omega
    have each : ∀ i, i < len → ∃ q : Op8, Act8 w (some a) i q ∧ (-9223372036854775808 ≤ q.n ∧ q.n ≤ 9223372036854775807) ∧ ∀ p ∈ q.ps, p.length ≤ 140737488355328 := by
      intro i hi
      have hwi : ∀ m ∈ (D i).weights Tryz.prog TOp8, m ≤ reachBytes := weights_elem Tryz.underlying50 (List.mem_map.2 ⟨i, List.mem_range.2 hi, rfl⟩) hw
      obtain ⟨cs', h1, h2⟩ := hx i (by omega)
      rw [cellsOp8] at h1
      obtain ⟨_, hlen, hcell⟩ := World.cells?_some h1
      obtain ⟨xs, k, _, hxs, _, hxl, hfs⟩ := DataW.trod_struct Tryz.underlying65 h2
      match xs, hxl, cs', hlen with
      | [y0, y1, y2], _, [v0, v1, v2], _ =>
        have g0 : DataW.trod enc Tryz.prog w base spare held k 3 (([v0, v1, v2].drop 0).take (Tryz.prog.cellsOf 3)) = some y0 := hfs 0 _ rfl
        have g1 : DataW.trod enc Tryz.prog w base spare held k 3 (([v0, v1, v2].drop 1).take (Tryz.prog.cellsOf 3)) = some y1 := hfs 1 _ rfl
        have g2 : DataW.trod enc Tryz.prog w base spare held k 36 (([v0, v1, v2].drop 2).take (Tryz.prog.cellsOf 36)) = some y2 := hfs 2 _ rfl
        rw [cellsI] at g0 g1
        rw [cellsBB] at g2
        obtain ⟨n0, e0, _, w0⟩ := DataW.trod_int Tryz.underlying3 g0
        obtain ⟨n1, e1, _, w1⟩ := DataW.trod_int Tryz.underlying3 g1
        obtain ⟨hD, _⟩ := Prod.mk.inj hxs
        have hw2 : ∀ m ∈ y2.1.weights Tryz.prog 36, m ≤ reachBytes := fun m hm => by
          refine hwi m ?_
          rw [hD, DataW.weights, Tryz.underlying65]
          dsimp only
          exact DataW.weights_mem_each (j := 2) (t := 36) (d := y2.1) rfl rfl m hm
        obtain ⟨pa, pc, vs, ps, e2, pm, hI, hpl⟩ := open_payscW g2 hw2
        simp at e0 e1 e2
        subst e0 e1 e2
        have c0 := hcell 0 (by omega)
        obtain ⟨b, o, sp⟩ := a
        have hsp : sp = none := by
          obtain ⟨cs0, h10, _⟩ := hx 0 (by omega)
          rw [cellsOp8] at h10
          have := World.cell?_spot ((World.cells?_some h10).2.2 0 (by omega) |>.trans (List.getElem?_eq_getElem (by rw [(World.cells?_some h10).2.1]; omega)))
          simpa [Addr.add] using this
        subst hsp
        refine ⟨⟨n0, n1, pa, pc, vs, ps⟩, ⟨⟨b, o, rfl, World.block_lt_of_cell? w _ (by simpa [addr_add] using c0), fun j u hu => ?_⟩, hI, pm⟩, bounds_i64 w1, hpl⟩
        have hj : j < 3 := (Array.getElem?_eq_some_iff.1 hu).1
        have cj := hcell j hj
        rw [addr_add, addr_add] at cj
        rw [cj, ← hu]
        rcases j with _ | _ | _ | j
        · rfl
        · rfl
        · rfl
        · omega
    obtain ⟨O, hO⟩ := Go.Deep.choose_lt each
    exact ⟨len, O, ⟨by omega, some a, cap, rfl, fun i hi => (hO i hi).1⟩, fun i hi => (hO i hi).2.1, fun i hi => (hO i hi).2.2⟩
end
set_option maxRecDepth 100000 in
set_option linter.unusedVariables false in
theorem segsPlays_lifted (os : Os) (started : os.Started) (H : Type) (enc : TypeId × Value → H) :
    ReturnsInHanded {} Tryz.checked os 7 .any (fun w args => (Rows.segsPlaysSpec.pre enc Tryz.prog Tryz.f7 Rows.segsPlaysRow.domain false w args ∧ laidMetH Tryz.prog Rows.segsPlaysRow.laid w) ∧ sizedMet enc Tryz.prog Tryz.f7 (OpenSpec.ofChange Rows.segsPlaysSpec) false w args) (Rows.segsPlaysSpec.post enc Tryz.prog Tryz.f7 false true false false) := by
  refine returnsInHanded_of_change_and (C := Tryz.checked) (X := fun w _ => laidMetH Tryz.prog Rows.segsPlaysRow.laid w) (fun _ _ _ hh h => h.of_heap hh) own started (by kernel_rfl) Tryz.func7
    (ChangeSpec.witness_shaped (enc := enc) (C := Tryz.checked) (os := os) (X := fun w _ => laidMetH Tryz.prog Rows.segsPlaysRow.laid w) false (World.laidAll Tryz.prog os Rows.segsPlaysRow.laid) #[.int .i64 0, .int .i64 0, .slice none 0 0] 8 (World.laidAll_os _ _ _)
      (World.shaped_of_ZipB (by kernel_rfl) (by kernel_rfl)) (by kernel_rfl) (by kernel_rfl) (by kernel_rfl)
      (by rw [MakeChecks.laidMetH_plain _ _ _ (by kernel_rfl)]; exact laidMet_laidAll _ (by kernel_rfl) (by kernel_rfl))) ?_
  intro W base args ds gs before hval0 hW hcnd hsz hL _
  have hval : ∀ (j : Nat) t v, Tryz.f7.params[j]? = some t → args[j]? = some v → Value.okWide Tryz.prog W .any base t v := hval0
  have hW' := hW
  obtain ⟨p, q, hA0, hV, rfl, hfz, hnd⟩ := hW
  have hA : DataW.TrodAll enc Tryz.prog W 0 (fun _ => true) true Tryz.f7.params.toList args.toList ds p := hA0
  rw [Tryz.params7] at hA hval
  obtain ⟨v0, vs0, d0, ds0, p0, q0, hargs, rfl, rfl, h0, r0⟩ := trodAll_cons hA
  obtain ⟨v1, vs1, d1, ds1, p1, q1, rfl, rfl, rfl, h1, r1⟩ := trodAll_cons r0
  obtain ⟨v2, vs2, d2, ds2, p2, q2, rfl, rfl, rfl, h2, r2⟩ := trodAll_cons r1
  obtain ⟨rfl, rfl, rfl⟩ := trodAll_nil r2
  obtain rfl : args = #[v0, v1, v2] := by cases args; simp_all
  obtain ⟨rfl, rfl⟩ := trodVars_none hV
  obtain ⟨a0, rfl, rfl, rfl, w0⟩ := open_int Tryz.underlying3 (hval 0 3 v0 rfl rfl) h0
  obtain ⟨a1, rfl, rfl, rfl, w1⟩ := open_int Tryz.underlying3 (hval 1 3 v1 rfl rfl) h1
  have k2 := h2
  have lt2 : ∀ x ∈ p2, x.block < W.heap.size := by obtain ⟨m, hm⟩ := k2; exact DataW.trod_lt m _ _ _ hm
  obtain ⟨m2, O2, hF2, hN2, hL2⟩ := open_script8W (hval 2 50 v2 rfl rfl) h2 (fun m hm => by have := List.all_eq_true.1 hsz m (DataW.weights_mem_each (j := 2) (t := 50) (d := d2) rfl rfl m hm); simpa using this)
  clear hA0 hval0
  refine (law_plays8 a0 (bounds_i64 w0) a1 (bounds_i64 w1) _ m2 O2 W hF2 hN2 hL2 (laid_of hL)).mono fun e W' ⟨he, bel⟩ => ?_
  subst he
  exact ⟨_, rfl, _, _, _, [], _, [], hW', trodAll_mk1 (shut_bool Tryz.underlying4 _), (trodAll_cons_mk (shut_int Tryz.underlying3 w0) (trodAll_cons_mk (shut_int Tryz.underlying3 w1) (trodAll_cons_mk (Below.trod laidOut (by kernel_rfl) (of_decide_eq_true (by kernel_rfl)) k2 bel lt2) trodAll_mk0))), rfl, bel.frame _, fun h => by cases h⟩

theorem segsPlays_said : Rows.SegsPlaysSaid :=
  OpenClaim.holds_of_wide 7 Tryz.f7 rfl rfl rfl rfl rfl rfl rfl ⟨rfl, rfl, rfl, rfl, rfl⟩ rfl rfl rfl rfl rfl (by kernel_rfl) Tryz.func7 (by kernel_rfl)
    (of_decide_eq_true (by kernel_rfl)) (by unfold Func.isWrapper; first | (rw [if_pos (by decide +kernel)]; kernel_rfl) | (rw [if_neg (by decide +kernel)]; exact ⟨rfl, rfl⟩))
    (fun os started H enc _ => segsPlays_lifted os started H enc)
theorem segsPlays_proved : Rows.SegsPlaysCardSaid :=
  Claim7.holds_tied_plain_at .later [] [.data, .data, .data] true (true, "738d321f5d72af028e93c8a4ffc6de25b75efbda953487eba038e9e47393914b") true segsPlays_said (fun _ h => by cases h) (by kernel_rfl) (fun _ h => by cases h) segsPlays_row_tie rfl ⟨rfl, rfl⟩ (by kernel_rfl) rfl
    (fun f fn hf hfn => by
      obtain rfl : f = 7 := Option.some.inj ((show Tryz.prog.funcNamed "cachet/cachetlaw08.SegsPlays" = some 7 by kernel_rfl).symm.trans hf) |>.symm
      obtain rfl : fn = Tryz.f7 := (Option.some.inj (Tryz.func7.symm.trans hfn)).symm
      exact ⟨by kernel_rfl, fun j t ht => by
        rw [Tryz.params7] at ht
        have hm : t ∈ [3, 3, 50] := by simpa using Array.mem_of_getElem? ht
        have hall : ([3, 3, 50].all fun u => !Tryz.prog.wantsStandIn u) = true := by kernel_rfl
        exact (show Tryz.prog.wantsStandIn t = false by simpa using List.all_eq_true.1 hall t hm)⟩)
    (by kernel_rfl)
#print axioms segsPlays_proved
end Go.Proofs.YteamnhpplclmfaaGreatDoor
end
