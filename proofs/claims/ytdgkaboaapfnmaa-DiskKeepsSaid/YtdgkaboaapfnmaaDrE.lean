/- The reference's disk: without; Append: the walks. -/
import Derived.Test.YtdgkaboaapfnmaaDrD
namespace Go.Proofs.Ytdgkaboaapfnmaa
open Go.RowKit Go.Sx
set_option linter.unusedVariables false

theorem woP_take (n : List UInt8) (ps : List PF) (i : Nat) (h : i < ps.length) : woP n (ps.take (i + 1)) = if ps[i].2.name = n then woP n (ps.take i) else woP n (ps.take i) ++ [ps[i]] := by
  unfold woP
  rw [List.take_succ_eq_append_getElem h, List.filter_append]
  by_cases he : ps[i].2.name = n
  · simp [he]
  · simp [he]
theorem woP_len (n : List UInt8) (ps : List PF) : (woP n ps).length ≤ ps.length := List.length_filter_le _ _
set_option maxRecDepth 100000 in
/-- the files but one -/
theorem without_any (fa : Option Addr) (fc : Nat) (ps : List PF) (n : List UInt8) (hps : ∀ p ∈ ps, ∃ a l c, p.1 = .slice a l c) (hlen : ps.length ≤ 1000000) (w : World)
    (hrd : ps ≠ [] → ∃ b o, fa = some ⟨b, o, none⟩ ∧ b < w.heap.size ∧ ∀ j x, (rfC ps)[j]? = some x → w.cell? ⟨b, o + j, none⟩ = some x) :
    Calls Try.prog 63 ([.slice fa ps.length fc, VS n] : List Value).toArray w fun e w' => ∃ r, e = .returned (sv r (woP n ps).length) ∧ Rw 3 (woP n ps).length r (rfC (woP n ps)) ∧ Made w w' r (rfC (woP n ps)) TFi ∧ Below w.heap.size w w' := by
  refine (enter tab_ok Try.func63 rfl Try.ntmps63 rfl (St.start w) (R := fun v w' => ∃ r, v = sv r (woP n ps).length ∧ Rw 3 (woP n ps).length r (rfC (woP n ps)) ∧ Made w w' r (rfC (woP n ps)) TFi ∧ Below w.heap.size w w') ?_).mono (fun e w' ⟨v, he, r, h1, h2⟩ => ⟨r, by rw [he, h1], h2⟩)
  refine lp tab_ok (fun x : Nat × Sx.Own => x.1 ≤ ps.length ∧ Rw 3 (woP n (ps.take x.1)).length x.2 (rfC (woP n (ps.take x.1)))) (fun x => ⟨[(0, .slice fa ps.length fc), (1, VS n), (5, sv x.2 (woP n (ps.take x.1)).length), (6, .int .i64 x.1)], [se x.2 (rfC (woP n (ps.take x.1))) TFi], []⟩) (fun x => ps.length - x.1)
    (0, none) ⟨Nat.zero_le _, Rw.nil 3⟩ ⟨⟨rfl, rfl, rfl, rfl, trivial⟩, .pad .nil, rfl⟩ ?_
  rintro ⟨i, r⟩ ⟨hi, hR⟩
  simp only at hi hR
  have hsl := woP_len n (ps.take i)
  have htl : (ps.take i).length = i := by simp; omega
  rw [htl] at hsl
  refine cd (fun h => ?_) (fun h => ?_)
  · have hlt : i < ps.length := by (try simp only at h); omega
    obtain ⟨b, o, rfl, hb, hc⟩ := hrd (by intro e; rw [e] at hlt; simp at hlt)
    have hst := woP_take n ps i hlt
    obtain ⟨c1, c2, c3⟩ := rfC_get ps i hlt
    obtain ⟨qa, ql, qc, hq⟩ := hps ps[i] (List.getElem_mem hlt)
    have hcells : ∀ j u, (#[VS ps[i].2.name, .slice qa ql qc, .int .i64 ps[i].2.sure] : Array Value)[j]? = some u → w.cell? ⟨b, o + i * 3 + j, none⟩ = some u := by
      intro j u hu
      rw [Nat.add_assoc]
      refine hc _ _ ?_
      rw [← hq] at hu
      rcases j with _ | _ | _ | j
      · exact c1.trans hu
      · exact c2.trans hu
      · exact c3.trans hu
      · simp at hu
    have hname := hcells 0 _ rfl
    generalize hS : woP n (ps.take i) = out at *
    generalize hQ : ps[i] = q at *
    refine ⟨by omega, by (try simp only); omega, ?_⟩
    refine ldo (v := VS q.2.name) (by rw [nad_eq, nad_eq, nmu_eq, Int.toNat_natCast]; exact hname) hb ?_
    have hbe := list_beq q.2.name n
    by_cases he : q.2.name = n
    · have hfin2 : woP n (ps.take (i + 1)) = out := by rw [hst, if_pos he]
      refine cf (by show (!_) = false; rw [hbe, decide_eq_true he]; rfl) ?_
      refine .as ((i + 1 : Nat) : Int) (by simp) (by simp only [mn]; omega) (by simp only [mx]; omega) ?_
      refine ⟨(i + 1, r), ⟨by (try simp only); omega, by simp only [hfin2]; exact hR⟩, by (try simp only); omega, ⟨⟨rfl, rfl, by simp only [hfin2]; rfl, rfl, trivial⟩, by simp only [hfin2]; exact .cons .nil, rfl⟩⟩
    · have hfin2 : woP n (ps.take (i + 1)) = out ++ [q] := by rw [hst, if_neg he]
      refine ct (by show (!_) = true; rw [hbe, decide_eq_false he]; rfl) ?_
      refine ⟨by omega, by (try simp only); omega, ?_⟩
      refine ldoN (d := #[VS q.2.name, .slice qa ql qc, .int .i64 q.2.sure]) (fun j u hu => by rw [nad_eq, nmu_eq, Int.toNat_natCast]; exact hcells j u hu) hb rfl ?_
      refine .mk _ _ (bsF _ _ _ _ _) (fun b8 => ?_)
      refine ap 0 (z := 3) (n := out.length) (m := 1) (news := [VS q.2.name, .slice qa ql qc, .int .i64 q.2.sure]) tab_ok rfl infoFi rfl rfl hR (srcE (C := ⟨Try.prog, tab, 28, [], w, none⟩) (e' := TFi) (tx := TFs) (z := 3) rfl tab_ok (src 1 rfl rfl) rfl (by simp [Value.oneCell'])) (by (try simp only); omega) (by (try simp only); unfold maxLen; omega) (fun r' hR' => ?_)
      have e9 : rfC (out ++ [q]) = rfC out ++ [VS q.2.name, .slice qa ql qc, .int .i64 q.2.sure] := by rw [rfC_app]; simp [rfC, hq]
      refine .as ((i + 1 : Nat) : Int) (by simp) (by simp only [mn]; omega) (by simp only [mx]; omega) ?_
      refine ⟨(i + 1, r'), ⟨by (try simp only); omega, by simp only [hfin2, e9, List.length_append, List.length_singleton]; exact hR'⟩, by (try simp only); omega, ⟨⟨rfl, rfl, by simp only [hfin2, List.length_append, List.length_singleton]; rfl, rfl, trivial⟩, by simp only [hfin2, e9]; exact .cons .nil, rfl⟩⟩
  · obtain rfl : i = ps.length := by (try simp only at h); omega
    rw [List.take_of_length_le (Nat.le_refl _)] at hR
    simp only [List.take_of_length_le (Nat.le_refl _)]
    exact ⟨fun w1 hs => ⟨r, rfl, hR, made_of hs rfl 0 rfl, hs.below⟩⟩
/-- the same on files alone -/
def putStepF (f : Fe) (s : List Fe × Bool) (q : Fe) : List Fe × Bool :=
  (fun s1 : List Fe × Bool => if q.name = f.name then s1 else (s1.1 ++ [q], s1.2)) (if s.2 = false ∧ ¬ q.name < f.name then (s.1 ++ [f], true) else s)
def putF (f : Fe) (fs : List Fe) : List Fe := if (fs.foldl (putStepF f) ([], false)).2 then (fs.foldl (putStepF f) ([], false)).1 else (fs.foldl (putStepF f) ([], false)).1 ++ [f]
def woF (n : List UInt8) (fs : List Fe) : List Fe := fs.filter fun q => decide (q.name ≠ n)
theorem putF_map (f : PF) (ps : List PF) : (putP f ps).map (·.2) = putF f.2 (ps.map (·.2)) := by
  have h1 : ∀ (s : List PF × Bool) (q : PF), ((putStep f s q).1.map (·.2), (putStep f s q).2) = putStepF f.2 (s.1.map (·.2), s.2) q.2 := by
    intro s q
    unfold putStep putStepF
    obtain ⟨o, d⟩ := s
    cases d <;> by_cases h1 : q.2.name < f.2.name <;> by_cases h3 : q.2.name = f.2.name <;> simp [h1, h3]
  have h2 : ∀ (l : List PF) (s : List PF × Bool), ((l.foldl (putStep f) s).1.map (·.2), (l.foldl (putStep f) s).2) = (l.map (·.2)).foldl (putStepF f.2) (s.1.map (·.2), s.2) := by
    intro l
    induction l with
    | nil => intro s; rfl
    | cons q l ih => intro s; simp only [List.foldl_cons, List.map_cons]; rw [ih, h1]
  have h3 := h2 ps ([], false)
  unfold putP putF putS
  rw [show (([] : List PF).map (·.2), false) = (([] : List Fe), false) from rfl] at h3
  have h4 := congrArg Prod.fst h3
  have h5 := congrArg Prod.snd h3
  simp only at h4 h5
  rw [← h4, ← h5]
  split <;> simp
theorem woF_map (n : List UInt8) (ps : List PF) : (woP n ps).map (·.2) = woF n (ps.map (·.2)) := by
  unfold woP woF
  rw [List.filter_map]; rfl
theorem putP_mem {f p : PF} {ps : List PF} (h : p ∈ putP f ps) : p = f ∨ p ∈ ps := by
  have h1 : ∀ (l : List PF) (s : List PF × Bool), p ∈ (l.foldl (putStep f) s).1 → p ∈ s.1 ∨ p = f ∨ p ∈ l := by
    intro l
    induction l with
    | nil => intro s h; exact .inl h
    | cons q l ih =>
      intro s h
      rcases ih _ h with h | h | h
      · have e : ∀ s1 : List PF × Bool, p ∈ ((fun s1 : List PF × Bool => if q.2.name = f.2.name then s1 else (s1.1 ++ [q], s1.2)) s1).1 → p ∈ s1.1 ∨ p = q := by
          intro s1 h
          simp only at h
          split at h
          · exact .inl h
          · rcases List.mem_append.1 h with h | h
            · exact .inl h
            · exact .inr (by simpa using h)
        rcases e _ h with h | h
        · split at h
          · rcases List.mem_append.1 h with h | h
            · exact .inl h
            · exact .inr (.inl (by simpa using h))
          · exact .inl h
        · exact .inr (.inr (h ▸ List.mem_cons_self))
      · exact .inr (.inl h)
      · exact .inr (.inr (List.mem_cons_of_mem _ h))
  unfold putP at h
  split at h
  · rcases h1 ps _ h with h | h
    · cases h
    · exact h
  · rcases List.mem_append.1 h with h | h
    · rcases h1 ps _ h with h | h
      · cases h
      · exact h
    · exact .inl (by simpa using h)
theorem woP_mem {n : List UInt8} {p : PF} {ps : List PF} (h : p ∈ woP n ps) : p ∈ ps := (List.mem_filter.1 h).1
/-- files that are known by an entry -/
theorem RFs.own {M : Bks} {B w : World} {L : List Ent} (hs : St M B w L) (k : Nat) {r : Sx.Own} {ps : List PF} {rr : Nat → Prop} (hk : L[k]? = some (se r (rfC ps) TFi)) (hR : Rw 3 ps.length r (rfC ps)) (hp : ∀ p ∈ ps, RdR rr w p.1 (Lib.byteCells p.2.bs)) :
    RFs (fun k => rr k ∨ rowB r k) w (sv r ps.length) (ps.map (·.2)) := by
  refine ⟨ps, rfl, fun p h => (hp p h).mono fun k hk => .inl hk, ?_⟩
  rw [List.length_map]
  cases r with
  | none =>
    have h0 : ps.length = 0 := hR.2
    have : ps = [] := List.eq_nil_of_length_eq_zero h0
    subst this
    exact ⟨none, 0, rfl, fun h => absurd rfl h⟩
  | some q =>
    obtain ⟨b, c, j⟩ := q
    refine ⟨some ⟨b, 0, none⟩, c, rfl, fun _ => ⟨b, 0, rfl, .inr ⟨b, c, j, rfl, rfl⟩, hs.lt (List.mem_of_getElem? hk) rfl, fun i x hx => ?_⟩⟩
    rw [hs.cell (k := k) (b := b) hk (0 + i), Nat.zero_add]
    have hi := (List.getElem?_eq_some_iff.1 hx).1
    simp [List.getElem?_append_left hi, hx]
/-- files, as functions want them -/
theorem RFs.pairs {rr : Nat → Prop} {w : World} {fv : Value} {fs : List Fe} (h : RFs rr w fv fs) : ∃ (ps : List PF) (fa : Option Addr) (fc : Nat), ps.map (·.2) = fs ∧ fv = .slice fa ps.length fc ∧ (∀ p ∈ ps, RdR rr w p.1 (Lib.byteCells p.2.bs)) ∧ (ps ≠ [] → ∃ b o, fa = some ⟨b, o, none⟩ ∧ b < w.heap.size ∧ rr b ∧ ∀ j x, (rfC ps)[j]? = some x → w.cell? ⟨b, o + j, none⟩ = some x) := by
  obtain ⟨ps, h1, h2, a, c, h3, h4⟩ := h
  refine ⟨ps, a, c, h1, by rw [h3, ← h1, List.length_map], h2, fun hne => ?_⟩
  obtain ⟨b, o, e, hr, hb, hc⟩ := h4 (by rw [← h1]; simpa using hne)
  exact ⟨b, o, e, hb, hr, hc⟩
theorem rdr_slice {rr : Nat → Prop} {w : World} {v : Value} {l : List UInt8} (h : RdR rr w v (Lib.byteCells l)) : ∃ a c, v = .slice a l.length c := by
  obtain ⟨a, c, h1, _⟩ := h
  exact ⟨a, c, by rw [h1, Lib.byteCells_length]⟩
theorem at_find (n : List UInt8) (fs : List Fe) : (findF n fs = none ∧ atF n fs 0 = -1) ∨ ∃ i f, fs[i]? = some f ∧ findF n fs = some f ∧ atF n fs 0 = (i : Nat) := by
  have h : ∀ (k : Nat), (findF n fs = none ∧ atF n fs k = -1) ∨ ∃ i f, fs[i]? = some f ∧ findF n fs = some f ∧ atF n fs k = ((i + k : Nat) : Int) := by
    induction fs with
    | nil => intro k; exact .inl ⟨rfl, rfl⟩
    | cons f l ih =>
      intro k
      unfold findF atF
      by_cases he : f.name = n
      · right; rw [if_pos he, if_pos he.symm]; exact ⟨0, f, rfl, rfl, by simp⟩
      · rw [if_neg he, if_neg (fun h => he h.symm)]
        rcases ih (k + 1) with h | ⟨i, g, h1, h2, h3⟩
        · exact .inl h
        · exact .inr ⟨i + 1, g, by simpa using h1, h2, by rw [h3]; congr 1; omega⟩
  exact h 0
/-- what a reference's function hands back -/
def RefR (rr : Nat → Prop) (w : World) (M' : Dk) (code : Nat) (e : Ending) (w' : World) : Prop := ∃ (fv' : Value) (rr' : Nat → Prop), e = .returned (.tuple #[.agg (rdC M' fv'), .int .i64 code]) ∧ Below w.heap.size w w' ∧ RFs rr' w' fv' M'.files ∧ (∀ k, rr' k → rr k ∨ w.heap.size ≤ k)
theorem RFs.below {rr : Nat → Prop} {w w' : World} {fv : Value} {fs : List Fe} (hb : Below w.heap.size w w') (hr : ∀ k, rr k → k < w.heap.size) (h : RFs rr w fv fs) : RFs rr w' fv fs := h.same fun k hk => hb.block k (hr k hk)
theorem RefR.same {rr : Nat → Prop} {w w1 : World} {L : List Ent} (hs : St [] w w1 L) (hr : ∀ k, rr k → k < w.heap.size) {M M' : Dk} {fv v : Value} {code : Nat} (h : RFs rr w fv M.files) (hf : M'.files = M.files) (hv : v = .tuple #[.agg (rdC M' fv), .int .i64 code]) : RefR rr w M' code (.returned v) w1 :=
  ⟨fv, rr, by rw [hv], hs.below, by rw [hf]; exact h.below hs.below hr, fun k hk => .inl hk⟩
theorem own_new {w w1 : World} {L : List Ent} (hs : St [] w w1 L) (k : Nat) {r : Sx.Own} {xs : List Value} {e : TypeId} (hk : L[k]? = some (se r xs e)) (j : Nat) (hj : rowB r j) : w.heap.size ≤ j := by
  obtain ⟨b, c, jj, rfl, rfl⟩ := hj
  rcases hs.own _ (List.mem_of_getElem? hk) rfl rfl with h | h
  · exact h
  · simp at h
end Go.Proofs.Ytdgkaboaapfnmaa
