/- Lists that are marked and grown: what is held of them. -/
import Derived.Test.YtcojgckfcgbodaaDoorCdY
import Derived.Test.YtcojgckfcgbodaaDoorSxK
namespace Go.Proofs.YtcojgckfcgbodaaDoor
open Go.RowKit Go.Sx
set_option linter.unusedVariables false

def mkv (i j : Nat) : Nat := (31 * i + 3 * j + 1) % 256
abbrev mkV (i j : Nat) : Value := .int .u8 (mkv i j : Nat)
def mkc (i n : Nat) : List Value := (List.range n).map fun j => mkV i j
theorem mkc_len (i n : Nat) : (mkc i n).length = n := by simp [mkc]
theorem mkc_succ (i n : Nat) : mkc i (n + 1) = mkc i n ++ [mkV i n] := by simp [mkc, List.range_succ]
theorem mkc_at (i : Nat) {n j : Nat} (h : j < n) : (mkc i n)[j]? = some (mkV i j) := by simp [mkc, h]
theorem lt_same' {u v : World} {k : Nat} (h1 : k < u.heap.size) (h2 : v.heap[k]? = u.heap[k]?) : k < v.heap.size := by
  rw [Array.getElem?_eq_getElem h1] at h2
  exact (Array.getElem?_eq_some_iff.1 h2).1
/-- a list that grows: as it was, and as it is -/
structure GP (W : Nat → Prop) (i n m : Nat) (a0 : Option Addr) (V : Value) (u : World) : Prop where
  w : ∀ k, W k → k < u.heap.size
  old : n ≠ 0 → ∃ b, a0 = some ⟨b, 0, none⟩ ∧ W b ∧ ∀ j, j < n → u.cell? ⟨b, j, none⟩ = some (mkV i j)
  new : ∃ r, V = sv r m ∧ Rw 1 m r (mkc i m) ∧ ∀ b c jk, r = some (b, c, jk) → W b ∧ u.heap[b]? = some (.cells (mkc i m ++ jk).toArray 5 (0, 0))
def gR (W : Nat → Prop) (i n m : Nat) (a0 : Option Addr) (V : Value) : Res where
  w := W
  r := fun _ => False
  p := GP W i n m a0 V
  st := fun u v hs h => ⟨fun k hk => lt_same' (h.w k hk) (hs k (.inl hk)), fun hn => by
    obtain ⟨b, e, hb, hc⟩ := h.old hn
    exact ⟨b, e, hb, fun j hj => by rw [← hc j hj]; simp only [World.cell?, hs b (.inl hb)]⟩, by
    obtain ⟨r, e, hR, hr⟩ := h.new
    exact ⟨r, e, hR, fun b c jk hrr => ⟨(hr b c jk hrr).1, (hs b (.inl (hr b c jk hrr).1)).trans (hr b c jk hrr).2⟩⟩⟩
  bd := fun u h k hk => h.w k (hk.elim id False.elim)
theorem biPre {C : Cx} {f : Builtin} {ts : Array TypeId} {t : TypeId} {cs : Array Bool} {vs : List Value} {L L' : List Ent} {next : Value → List Ent → Prop} (hc : ∀ w, St C.M C.B w L → St C.M C.B w L') (h : BiP C f ts t cs vs L' next) : BiP C f ts t cs vs L next := ⟨fun w hs => h.go w (hc w hs)⟩
/-- a marked row as a list that grows -/
theorem gr_of {M : Bks} {B w : World} {L : List Ent} (hs : St M B w L) (k : Nat) {r : Sx.Own} {i n : Nat} {a0 : Option Addr} {c0 : Nat} (hk : L[k]? = some (se r (mkc i n) 5)) (hR : Rw 1 n r (mkc i n)) (ha : sv r n = .slice a0 n c0) :
    St M B w (L.set k (rs (gR (fun b => ∃ c jk, r = some (b, c, jk)) i n n a0 (.slice a0 n c0)))) := by
  rw [← ha]
  have hm := List.mem_of_getElem? hk
  have hW : ∀ j, (∃ c jk, r = some (j, c, jk)) → (se r (mkc i n) 5).W j := by
    rintro j ⟨c, jk, rfl⟩; simp [se]
  refine hs.upd hk (Nat.le_refl _) ?_ (fun j _ _ => rfl) rfl rfl rfl (fun j hj => .inl (hW j (by simpa [gR] using hj))) (fun j hj => .inl (hW j (by simpa [gR] using hj)).a)
  rw [rsOk]
  refine ⟨fun j hj => hs.ltA hm (hW j hj).a, fun hn => ?_, r, rfl, hR, ?_⟩
  · rcases r with _ | ⟨b, c, jk⟩
    · exact absurd hR.2 hn
    · injection ha with e1 e2 e3
      refine ⟨b, e1.symm, ⟨c, jk, rfl⟩, fun j hj => ?_⟩
      rw [hs.cell (k := k) (b := b) hk j]
      have h1 : j < (mkc i n).length := by rw [mkc_len]; exact hj
      rw [List.getElem?_toArray, List.getElem?_append_left h1, mkc_at i hj]
  · rintro b c jk rfl
    exact ⟨⟨c, jk, rfl⟩, hs.nth (k := k) hk⟩
/-- it grows by one -/
theorem apG {C : Cx} {L : List Ent} (k : Nat) (hT : TabOk C.P C.T) {t tx ty by' : Nat} {zv : Value} {cs : Array Bool} {W : Nat → Prop} {i n m : Nat} {a0 : Option Addr} {V x : Value} {next : Value → List Ent → Prop}
    (ht : Sx.look C.T.rows t fun y _ => y = .sl 5 1) (hi : (C.P.info? 5).map (fun i => (i.zero, i.size, i.bytes)) = some (some zv, 1, by')) (hz : zv.cells.size = 1)
    (hk : L[k]? = some (rs (gR W i n m a0 V))) (hnm : n ≤ m) (hsrc : ∀ w, St C.M C.B w L → Src C.P 1 tx x 1 [mkV i m] w)
    (hby : (m + 1 + (m + 1) / 4 + 192) * by' ≤ 281474976710656) (h63 : m + 1 ≤ maxLen)
    (go : ∀ W' V', (∃ b c, V' = .slice (some ⟨b, 0, none⟩) (m + 1) c) → next V' (L.set k (rs (gR W' i n (m + 1) a0 V')))) : BiP C .append #[t, tx] ty cs [V, x] L next := by
  refine apRun fun w hs => ?_
  obtain ⟨i0, hi0, hz0', hsz, hz2⟩ := infoOf hi
  subst hz2
  have hp : GP W i n m a0 V w := hs.res hk
  have hsr : Src C.P i0.size tx x 1 [mkV i m] w := by rw [hsz]; exact hsrc w hs
  obtain ⟨r, rfl, hR, hr⟩ := hp.new
  have h63' : ((m + 1 : Nat) : Int) ≤ 9223372036854775807 := by simp only [maxLen] at h63; omega
  have hcl : ∀ b c jk, r = some (b, c, jk) → ∀ q, w.cell? ⟨b, q, none⟩ = (mkc i m ++ jk).toArray[q]? := fun b c jk e q => cell_of_row w b q _ _ _ (hr b c jk e).2
  have hgr : ∀ (base : Option Addr) (sCap : Nat), sCap < m + 1 → (Builtin.firstCells i0.size m (.slice base m sCap)).run C.P w.drew = .ok (mkc i m).toArray w.drew → sv r m = .slice base m sCap →
      ∃ v' w' L', (Builtin.append_ #[t, tx] ty #[sv r m, x]).run C.P w = .ok v' w' ∧ St C.M C.B w' L' ∧ next v' L' := by
    intro base sCap hg hold hv
    have hrun := run_append_grow_src w t tx ty 5 i0 zv (slOf hT ht) hi0 hz0' base m sCap (mkc i m) hold x 1 [mkV i m] hsr hg h63' (growslice_fits_wide hg hby)
    rw [← hv] at hrun
    have hge := grownCap_ge w (m + 1) sCap 5
    have hd := hs.drew
    have e2 : (mkc i m ++ [mkV i m]).toArray ++ Builtin.zeroCells zv.cells (grownCap w (m + 1) sCap 5 - (m + 1)) = (mkc i (m + 1) ++ (Builtin.zeroCells zv.cells (grownCap w (m + 1) sCap 5 - (m + 1))).toList).toArray := by rw [mkc_succ]; apply Array.ext'; simp
    rw [e2] at hrun
    generalize hjk : (Builtin.zeroCells zv.cells (grownCap w (m + 1) sCap 5 - (m + 1))).toList = jk at hrun
    have hjl : jk.length = grownCap w (m + 1) sCap 5 - (m + 1) := by rw [← hjk, Array.length_toList, size_zeroCells, hz, Nat.mul_one]
    refine ⟨_, _, _, hrun, hd.upd hk (e' := rs (gR (fun q => W q ∨ q = w.heap.size) i n (m + 1) a0 _)) (by simp) ?_ (fun j hj _ => (below_alloc1 w.drew _).block j hj) rfl rfl rfl (fun j hj => ?_) (fun j hj => ?_), go _ _ ⟨_, _, rfl⟩⟩
    · rw [rsOk]
      refine ⟨fun q hq => ?_, fun hn => ?_, some (w.heap.size, grownCap w (m + 1) sCap 5, jk), rfl, ⟨by rw [mkc_len]; omega, hge, grownCap_le_maxLen w (m + 1) sCap _ h63, by rw [List.length_append, mkc_len, hjl]; omega⟩, ?_⟩
      · rcases hq with hq | hq
        · exact Nat.lt_of_lt_of_le (hp.w q hq) (by simp)
        · subst hq; simp
      · obtain ⟨b, e, hb, hc⟩ := hp.old hn
        refine ⟨b, e, .inl hb, fun j hj => ?_⟩
        rw [← hc j hj]
        exact (below_alloc1 w.drew _).cell (p := ⟨b, j, none⟩) (hp.w b hb)
      · intro b c jk' e
        simp only [Option.some.injEq, Prod.mk.injEq] at e
        obtain ⟨rfl, rfl, rfl⟩ := e
        exact ⟨.inr rfl, heap_alloc_new _ _⟩
    · rcases (rsW _ _).1 hj with h | h
      · exact .inl ((rsW _ _).2 h)
      · exact .inr (by simp [h])
    · rcases (rsA _ _).1 hj with (h | h) | h
      · exact .inl ((rsA _ _).2 (.inl h))
      · exact .inr (by simp [h])
      · exact h.elim
  cases r with
  | none =>
    have h0 : m = 0 := hR.2
    subst h0
    exact hgr none 0 (by omega) (run_firstCells_none w.drew _ 0 0 0) rfl
  | some p =>
    obtain ⟨b, cap, jk⟩ := p
    obtain ⟨h1, h2, h3, h4⟩ := hR
    obtain ⟨hWb, hrow⟩ := hr b cap jk rfl
    by_cases hroom : m + 1 ≤ cap
    · have hlen : m + 1 ≤ (mkc i m ++ jk).toArray.size := by rw [List.size_toArray, h4]; omega
      have hrun := run_append_room_src w t tx ty 5 i0 (slOf hT ht) hi0 b 0 m cap x 1 [mkV i m] hsr hroom (fun q hq => by
        rw [hcl b cap jk rfl]
        have : 0 + m * i0.size + q < (mkc i m ++ jk).toArray.size := by rw [hsz]; simp at hq; omega
        simp
        simpa using this) (fun q hq => frozen_of_row w b _ _ _ hrow)
      rw [hsz, Nat.mul_one, Nat.zero_add] at hrun
      obtain ⟨g1, g2, g3, g4⟩ := setCells_frame b [mkV i m] w m
      have hat := setCells_at b 5 [mkV i m] w _ m hrow (by simpa using hlen)
      have e2 : ((mkc i m ++ jk).toArray.toList.take m ++ [mkV i m] ++ (mkc i m ++ jk).toArray.toList.drop (m + [mkV i m].length)) = mkc i (m + 1) ++ jk.drop 1 := by
        have hl := mkc_len i m
        rw [mkc_succ]
        simp [List.take_append_of_le_length (Nat.le_of_eq hl.symm), List.take_of_length_le (Nat.le_of_eq hl), List.drop_append, hl]
      rw [e2] at hat
      refine ⟨_, _, _, hrun, hs.upd hk (e' := rs (gR W i n (m + 1) a0 _)) (by omega) ?_ (fun j hj hn => setCells_other b _ w m j (fun e => hn ((rsW _ _).2 (by rw [e]; exact hWb)))) g1 g2 g3 (fun j hj => .inl ((rsW _ _).2 (show W j from (rsW (gR W i n (m + 1) a0 _) j).1 hj))) (fun j hj => .inl ((rsA _ _).2 (show W j ∨ False from (rsA (gR W i n (m + 1) a0 _) j).1 hj))), go W _ ⟨b, cap, rfl⟩⟩
      rw [rsOk]
      refine ⟨fun q hq => Nat.lt_of_lt_of_le (hp.w q hq) (by omega), fun hn => ?_, some (b, cap, jk.drop 1), rfl, ⟨by rw [mkc_len]; omega, hroom, h3, ?_⟩, ?_⟩
      · obtain ⟨b0, e, hb0, hc⟩ := hp.old hn
        refine ⟨b0, e, hb0, fun j hj => ?_⟩
        by_cases hbb : b0 = b
        · subst hbb
          rw [cell_of_row _ b0 j _ _ _ hat]
          have h1 : j < (mkc i (m + 1)).length := by rw [mkc_len]; omega
          rw [List.getElem?_toArray, List.getElem?_append_left h1, mkc_at i (by omega)]
        · rw [← hc j hj]
          simp only [World.cell?, setCells_other b _ w m b0 hbb]
      · rw [List.length_append, mkc_len, List.length_drop]
        rw [List.length_append, mkc_len] at h4
        omega
      · intro b' c' jk' e
        simp only [Option.some.injEq, Prod.mk.injEq] at e
        obtain ⟨rfl, rfl, rfl⟩ := e
        refine ⟨hWb, ?_⟩
        exact hat
    · refine hgr (some ⟨b, 0, none⟩) cap (by omega) ?_ rfl
      refine run_firstCells_some w.drew i0.size m ⟨b, 0, none⟩ m cap (mkc i m) (by rw [mkc_len, hsz]; omega) (fun q u hq => ?_)
      rw [addr_add, World.cell?_drew, hcl b cap jk rfl, Nat.zero_add]
      have := (List.getElem?_eq_some_iff.1 hq).1
      rw [List.getElem?_toArray, List.getElem?_append_left this]
      exact hq
end Go.Proofs.YtcojgckfcgbodaaDoor
