/- Chapter 12: the reader: lists. -/
import Derived.Test.YtpegkoklmhccjaaDoorJsK
namespace Go.Proofs.YtpegkoklmhccjaaDoor
open Go.RowKit Go.Sx
set_option linter.unusedVariables false
abbrev TV : Nat := 25
theorem enterVC {T : Tab} (hT : TabOk Tryd.prog T) {g : FuncId} {fn : Func} {cd : Code} (hf : Tryd.prog.funcs[g]? = some fn) (hb : fn.body = some cd) {N : Nat} (hN : fn.ntmps = N) {vs : List Value} (hle : Nat.ble vs.length N = true) {w : World} {b : Nat} {d : Int} {o : Option (JV × Bs)} {s : Bs} {L : List Ent}
    (hw : St [bl b] w w L) (h : cx ⟨Tryd.prog, T, N, [bl b], w, none⟩ cd (retK ⟨Tryd.prog, T, N, [bl b], w, none⟩ fn fun u w' => ∃ x : VO, VF o s x ∧ u = .agg x.cs.toArray ∧ Upd b (rdC x.t x.bad d) TRd w w' ∧ ∃ A : Nat → Prop, (∀ k, A k → w.heap.size ≤ k) ∧ Held w' A [(x.j, x.cs)]) ⟨par 0 vs, L, []⟩) : ValC g vs o s b d w :=
  (enter hT hf hb hN hle hw h).mono fun e w' ⟨u, he, x, hx, hu, h2⟩ => ⟨x, hx, by rw [he, hu], h2⟩
theorem St.rdH {w : World} {b : Nat} {s : Bs} {bad : Bool} {d : Int} (hb : w.heap[b]? = some (.cells (rdC s bad d) TRd (0, 0))) (h : Laid w) : St [bl b] w w [cl b (rdC s bad d) TRd, rs laidR, rs (heldR (fun _ => False) [])] :=
  St.join (St.rdL hb h) (e := rs (heldR (fun _ => False) [])) ((rsOk _ _).2 ⟨fun _ h => h.elim, fun x hx => by simp at hx⟩) (Nat.le_refl _) (fun k hk => ((rsA _ _).1 hk).elim (fun h => h.elim) fun h => h.elim) (fun f hf k hk => (St.rdL hb h).ltA hf hk)
/-- a reader of values, in a reader that stands at b, at a depth -/
def VIs (V : Bs → Option (JV × Bs)) (b : Nat) (d : Int) : Prop := ∀ s w, s.length ≤ 100000 → w.heap[b]? = some (.cells (rdC s false d) TRd (0, 0)) → Laid w → ValC 26 [pj b] (V s) s b d w
section
variable {b : Nat} {t : Bs} {d : Nat} {w : World}
theorem eat_open (c : UInt8) (hc : blk c = false) (t : Bs) : eatP c (c :: t) = (true, t) := by
  unfold eatP
  rw [show ws (c :: t) = c :: t by unfold ws; rw [hc]; rfl]
  simp
theorem infoV : (Tryd.prog.info? TV).map (fun i => (i.zero, i.size, i.bytes)) = some (some (.agg (valC 0 0 [])), 5, 80) := by kernel_rfl
theorem undL : Tryd.prog.underlying 22 = some (.slice TV) := by kernel_rfl
theorem bsV (w : World) : (Instr.buildSlice 22 1 #[(0, .agg (valC 0 0 []))]).run Tryd.prog w = .ok (.slice (some ⟨w.heap.size, 0, none⟩) 1 1) (w.alloc (.cells (valC 0 0 []) TV)) := by
  obtain ⟨i, hi, hz, hs, hb⟩ := infoOf infoV
  exact run_buildSlice w _ _ 1 _ (valC 0 0 []) i (.agg (valC 0 0 [])) undL hi hz (by rw [hs]; decide) (by rw [hs]; decide) (by rw [hs]; kernel_rfl)
structure LsI where
  ks : List (JV × List Value)
  r : Sx.Own
  a : Option Addr
  cc : Nat
  A : Nat → Prop
  t : Bs
  bad : Bool
  n : Nat
abbrev ksX (ks : List (JV × List Value)) : List Value := (ks.map (·.2)).flatten
structure LsJ (o : Option (List JV × Bs)) (V : Bs → Option (JV × Bs)) (t : Bs) (x : LsI) : Prop where
  tl : x.t.length ≤ t.length
  kl : x.bad = false → x.ks.length + x.t.length ≤ t.length
  km : x.ks.length ≤ t.length + 1
  n : x.t.length < x.n
  R : Rw 5 x.ks.length x.r (ksX x.ks)
  e : sv x.r x.ks.length = .slice x.a x.ks.length x.cc
  z : ∀ y ∈ x.ks, y.2.length = 5
  ok : (x.bad = true ∧ o = none) ∨ (x.bad = false ∧ o = (itmG V x.n x.t).map fun p => (x.ks.map (·.1) ++ p.1, p.2))
def lsL (b : Nat) (d : Int) (b1 b2 b3 b4 : Nat) (x : LsI) : List Ent := [cl b (rdC x.t x.bad d) TRd, rs laidR, rs (heldR x.A x.ks), cl b1 #[pj b] 58, cl b2 (valC 0 0 []) TV, cl b3 #[.int .i64 4, .int .i64 0, sj [], .slice x.a x.ks.length x.cc, .slice none 0 0] TV, cl b4 #[pj b] 58, se x.r (ksX x.ks) TV]
/-- what a list's reader gives in the end -/
theorem list_end {L : List Ent} {w w' : World} {b : Nat} {d : Int} {u : Bs} {bad : Bool} {o : Option (JV × Bs)} {s : Bs} {ks : List (JV × List Value)} {r : Sx.Own} {a : Option Addr} {cc : Nat} {A : Nat → Prop} (hs : St [bl b] w w' (cl b (rdC u bad d) TRd :: L)) (k kr : Nat) (hk : L[k]? = some (rs (heldR A ks))) (hr : L[kr]? = some (se r (ksX ks) TV))
    (hR : Rw 5 ks.length r (ksX ks)) (e : sv r ks.length = .slice a ks.length cc) (hz : ∀ y ∈ ks, y.2.length = 5) (hn : ks.length ≤ maxLen) (hu : u.length ≤ s.length) (ho : (bad = true ∧ o = none) ∨ (bad = false ∧ o = some (.mk 4 0 [] (ks.map (·.1)) [], u))) :
    ∃ x : VO, VF o s x ∧ Value.agg #[.int .i64 4, .int .i64 0, sj [], .slice a ks.length cc, .slice none 0 0] = .agg x.cs.toArray ∧ Upd b (rdC x.t x.bad d) TRd w w' ∧ ∃ A : Nat → Prop, (∀ k, A k → w.heap.size ≤ k) ∧ Held w' A [(x.j, x.cs)] := by
  have hH : Held w' A ks := hs.res (k := k + 1) (by simpa using hk)
  have hW : ∀ i, rowB r i → (se r (ksX ks) TV).W i := fun i hi => by
    cases r with
    | none => exact hi.elim
    | some q => obtain rfl : i = q.1 := hi; simp [se]
  refine ⟨⟨.mk 4 0 [] (ks.map (·.1)) [], vcl 4 0 [] (.slice a ks.length cc) (.slice none 0 0), u, bad⟩, ⟨hu, ?_⟩, rfl, hs.updU, fun i => A i ∨ rowB r i, fun i hi => ?_, fun i hi => ?_, fun x hx => ?_⟩
  · rcases ho with ⟨h1, h2⟩ | ⟨h1, h2⟩
    · exact .inl ⟨h2, h1⟩
    · exact .inr ⟨h2, h1⟩
  · rcases hi with hi | hi
    · exact St.fresh hs hk i ((rsW _ _).2 hi)
    · exact St.fresh hs hr i (hW i hi)
  · rcases hi with hi | hi
    · exact hH.1 i hi
    · exact hs.ltA (List.mem_cons_of_mem _ (List.mem_of_getElem? hr)) (hW i hi).a
  · obtain rfl : x = _ := by simpa using hx
    refine .mk (fun n => ((ks[n]?).map (·.2)).getD []) (fun _ => []) ?_ (.nil ..) (fun n j h => ?_) (fun n q h => by simp at h)
    · rw [List.length_map, ← e]
      refine row_at hs (k := kr + 1) (ks := ks.map (·.2)) (by simpa using hr) hR (by simp) (fun y hy => ?_) (fun i hi => .inr hi) (fun i y hy => ?_) hn
      · obtain ⟨z, h1, rfl⟩ := List.mem_map.1 hy
        exact hz z h1
      · rw [List.getElem?_map] at hy
        rw [hy]; rfl
    · rw [List.getElem?_map] at h
      cases hq : ks[n]? with
      | none => rw [hq] at h; cases h
      | some y =>
        rw [hq] at h
        obtain rfl : y.1 = j := by simpa using h
        exact (hH.2 y (List.mem_of_getElem? hq)).to (fun _ h => .inl h) fun _ _ => rfl
end
end Go.Proofs.YtpegkoklmhccjaaDoor
