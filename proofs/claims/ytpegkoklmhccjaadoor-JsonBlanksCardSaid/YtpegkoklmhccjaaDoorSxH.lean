/- Symbolic steps, eighth part: rows that grow; slices that are read. -/
import Derived.Test.YtpegkoklmhccjaaDoorSxG
import Derived.Laws.AppendOwn
import Derived.Deep.AppendSrc
import Derived.Deep.DeepAppendWide
namespace Go.Sx
open Go Go.RowKit
set_option linter.unusedVariables false
variable {C : Cx} {L : List Ent}

/-- a row of one's own: its block, its room, what lies behind; none: nil -/
abbrev Own := Option (Nat × Nat × List Value)
def sv (r : Own) (n : Nat) : Value := match r with
  | none => .slice none 0 0
  | some (b, c, _) => .slice (some ⟨b, 0, none⟩) n c
def se (r : Own) (xs : List Value) (e : TypeId) : Ent := match r with
  | none => dead
  | some (b, _, j) => cl b (xs ++ j).toArray e
/-- n elements of z cells: xs -/
def Rw (z n : Nat) (r : Own) (xs : List Value) : Prop := xs.length = n * z ∧ match r with
  | none => n = 0
  | some (_, c, j) => n ≤ c ∧ c ≤ maxLen ∧ (xs ++ j).length = c * z
theorem Rw.nil (z : Nat) : Rw z 0 none [] := ⟨by simp, rfl⟩
theorem setCells_at (b : Nat) (t : TypeId) (l : List Value) : ∀ (w : World) (c : Array Value) (o : Nat), w.heap[b]? = some (.cells c t (0, 0)) → o + l.length ≤ c.size → (w.setCells b o l).heap[b]? = some (.cells (c.toList.take o ++ l ++ c.toList.drop (o + l.length)).toArray t (0, 0)) := by
  induction l with
  | nil => intro w c o h hl; simpa [World.setCells] using h
  | cons v l ih =>
    intro w c o h hl
    simp only [World.setCells]
    have h1 := ih (w.setCell ⟨b, o, none⟩ v) (c.setIfInBounds o v) (o + 1) (heap_setCell_same w b o c t v h) (by simp at hl ⊢; omega)
    have e : (c.setIfInBounds o v).toList.take (o + 1) ++ l ++ (c.setIfInBounds o v).toList.drop (o + 1 + l.length) = c.toList.take o ++ (v :: l) ++ c.toList.drop (o + (v :: l).length) := by
      have hlt : o < c.toList.length := by simp at hl ⊢; omega
      rw [Array.toList_setIfInBounds]
      generalize c.toList = xs at *
      have e1 : (xs.set o v).take (o + 1) = xs.take o ++ [v] := by
        rw [List.take_succ_eq_append_getElem (by simpa using hlt), List.take_set_of_le (Nat.le_refl _)]
        simp
      have e2 : (xs.set o v).drop (o + 1 + l.length) = xs.drop (o + 1 + l.length) := List.drop_set_of_lt (by omega)
      rw [e1, e2]
      simp [Nat.add_comm, Nat.add_left_comm]
    rw [← e]; exact h1
theorem setCells_other (b : Nat) (l : List Value) : ∀ (w : World) (o k : Nat), k ≠ b → (w.setCells b o l).heap[k]? = w.heap[k]? := by
  induction l with
  | nil => intro w o k _; rfl
  | cons v l ih => intro w o k hk; simp only [World.setCells]; rw [ih _ _ _ hk]; exact heap_setCell_other w ⟨b, o, none⟩ k v hk
theorem setCells_frame (b : Nat) (l : List Value) : ∀ (w : World) (o : Nat), (w.setCells b o l).os = w.os ∧ (w.setCells b o l).tape = w.tape ∧ (w.setCells b o l).output = w.output ∧ (w.setCells b o l).heap.size = w.heap.size := by
  induction l with
  | nil => intro w o; exact ⟨rfl, rfl, rfl, rfl⟩
  | cons v l ih => intro w o; simp only [World.setCells]; obtain ⟨h1, h2, h3, h4⟩ := ih (w.setCell ⟨b, o, none⟩ v) (o + 1); exact ⟨h1, h2, h3, h4.trans (by simp [World.setCell])⟩
theorem St.setCells {M : Bks} {B w : World} (h : St M B w L) {k b : Nat} {c : Array Value} {t : TypeId} (hk : L[k]? = some (cl b c t)) (o : Nat) (l : List Value) (hl : o + l.length ≤ c.size) :
    St M B (w.setCells b o l) (L.set k (cl b (c.toList.take o ++ l ++ c.toList.drop (o + l.length)).toArray t)) := by
  obtain ⟨h1, h2, h3, h4⟩ := setCells_frame b l w o
  exact h.set hk (by omega) (setCells_at b t l w c o (h.nth hk) hl) (fun j _ hj => setCells_other b l w o j hj) h1 h2 h3
/-- what a type's row of the table says -/
theorem slOf {P : Program} {T : Tab} (hT : TabOk P T) {t e z : Nat} (h : look T.rows t fun y _ => y = .sl e z) : P.underlying t = some (.slice e) := by
  obtain ⟨y, n, rfl, hr⟩ := hT.row h
  exact (rowOk_says hr).1
theorem infoOf {P : Program} {e : TypeId} {zv : Value} {z by' : Nat} (hi : (P.info? e).map (fun i => (i.zero, i.size, i.bytes)) = some (some zv, z, by')) : ∃ i, P.info? e = some i ∧ i.zero = some zv ∧ i.size = z ∧ i.bytes = by' := by
  cases h : P.info? e with
  | none => rw [h] at hi; cases hi
  | some i => rw [h] at hi; simp only [Option.map_some, Option.some.injEq, Prod.mk.injEq] at hi; exact ⟨i, rfl, hi⟩
/-- append to a row of one's own -/
theorem ap (k : Nat) (hT : TabOk C.P C.T) {t tx ty e z by' : Nat} {zv : Value} {cs : Array Bool} {r : Own} {xs news : List Value} {n m : Nat} {x : Value} {next : Value → List Ent → Prop}
    (ht : look C.T.rows t fun y _ => y = .sl e z) (hi : (C.P.info? e).map (fun i => (i.zero, i.size, i.bytes)) = some (some zv, z, by')) (hz : zv.cells.size = z)
    (hk : L[k]? = some (se r xs e)) (hR : Rw z n r xs) (hsrc : ∀ w, St C.M C.B w L → Src C.P z tx x m news w)
    (hby : (n + m + (n + m) / 4 + 192) * by' ≤ 281474976710656) (h63 : n + m ≤ maxLen) (go : ∀ r', Rw z (n + m) r' (xs ++ news) → next (sv r' (n + m)) (L.set k (se r' (xs ++ news) e))) :
    BiP C .append #[t, tx] ty cs [sv r n, x] L next := by
  refine ⟨fun w hs => ?_⟩
  obtain ⟨i0, hi0, hz0', rfl, hz2⟩ := infoOf hi
  subst hz2
  have hsr := hsrc w hs
  have key : ∃ r' w', (Builtin.append_ #[t, tx] ty #[sv r n, x]).run C.P w = .ok (sv r' (n + m)) w' ∧ Rw i0.size (n + m) r' (xs ++ news) ∧ St C.M C.B w' (L.set k (se r' (xs ++ news) e)) := by
    have h63' : ((n + m : Nat) : Int) ≤ 9223372036854775807 := by simp only [maxLen] at h63; omega
    have hgr : ∀ (base : Option Addr) (sCap : Nat), sCap < n + m → (Builtin.firstCells i0.size n (.slice base n sCap)).run C.P w.drew = .ok xs.toArray w.drew → sv r n = .slice base n sCap →
        ∃ r' w', (Builtin.append_ #[t, tx] ty #[sv r n, x]).run C.P w = .ok (sv r' (n + m)) w' ∧ Rw i0.size (n + m) r' (xs ++ news) ∧ St C.M C.B w' (L.set k (se r' (xs ++ news) e)) := by
      intro base sCap hg hold hv
      have hrun := run_append_grow_src w t tx ty e i0 zv (slOf hT ht) hi0 hz0' base n sCap xs hold x m news hsr hg h63' (growslice_fits_wide hg hby)
      rw [← hv] at hrun
      have hge := grownCap_ge w (n + m) sCap e
      refine ⟨some (w.heap.size, grownCap w (n + m) sCap e, (Builtin.zeroCells zv.cells (grownCap w (n + m) sCap e - (n + m))).toList), _, hrun, ⟨?_, hge, grownCap_le_maxLen w (n + m) sCap e h63, ?_⟩, ?_⟩
      · rw [List.length_append, hR.1, hsr.newsLen, Nat.add_mul]
      · simp only [List.length_append, hR.1, hsr.newsLen, Array.length_toList, size_zeroCells, hz, ← Nat.add_mul]
        congr 1; omega
      · have := hs.drew.swap k (below_alloc1 w.drew (.cells ((xs ++ news).toArray ++ Builtin.zeroCells zv.cells (grownCap w (n + m) sCap e - (n + m))) e)) (Nat.le_refl _) (heap_alloc_new _ _)
        have e2 : (xs ++ news ++ (Builtin.zeroCells zv.cells (grownCap w (n + m) sCap e - (n + m))).toList).toArray = (xs ++ news).toArray ++ Builtin.zeroCells zv.cells (grownCap w (n + m) sCap e - (n + m)) := by apply Array.ext'; simp
        simp only [se, e2]
        exact this
    cases r with
    | none =>
      have hn : n = 0 := hR.2
      subst hn
      have hx : xs = [] := List.eq_nil_of_length_eq_zero (by simpa using hR.1)
      subst hx
      by_cases hm : m = 0
      · subst hm
        have hnew : news = [] := List.eq_nil_of_length_eq_zero (by simpa using hsr.newsLen)
        subst hnew
        refine ⟨none, w, ?_, Rw.nil _, hs.kill k⟩
        rcases hsr.kind with ⟨e', hk'⟩ | hk' <;> simp [Builtin.append_, sv, run_underlying (slOf hT ht), run_underlying hk', sizeOf, typeInfo, hi0, hsr.len, hsr.cells]
      · exact hgr none 0 (by omega) (run_firstCells_none w.drew _ 0 0 0) rfl
    | some p =>
      obtain ⟨b, cap, j⟩ := p
      obtain ⟨h1, h2, h3, h4⟩ := hR
      have hcell : ∀ i, w.cell? ⟨b, i, none⟩ = (xs ++ j).toArray[i]? := fun i => hs.cell hk i
      by_cases hroom : n + m ≤ cap
      · have hlen : 0 + n * i0.size + news.length ≤ (xs ++ j).toArray.size := by
          rw [hsr.newsLen, List.size_toArray, h4, Nat.zero_add, ← Nat.add_mul]; exact Nat.mul_le_mul_right _ hroom
        have hrun := run_append_room_src w t tx ty e i0 (slOf hT ht) hi0 b 0 n cap x m news hsr hroom (fun q hq => by
          rw [hcell]; have : 0 + n * i0.size + q < (xs ++ j).toArray.size := by omega
          simp
          simpa using this) (fun q hq => frozen_of_row w b _ _ e (hs.nth hk))
        refine ⟨some (b, cap, j.drop news.length), _, hrun, ⟨?_, hroom, h3, ?_⟩, ?_⟩
        · rw [List.length_append, h1, hsr.newsLen, Nat.add_mul]
        · have := hsr.newsLen
          simp only [List.size_toArray] at hlen
          simp only [List.length_append, List.length_drop] at h4 hlen ⊢
          omega
        · have := hs.setCells hk (0 + n * i0.size) news hlen
          have e2 : ((xs ++ j).toArray.toList.take (0 + n * i0.size) ++ news ++ (xs ++ j).toArray.toList.drop (0 + n * i0.size + news.length)) = xs ++ news ++ j.drop news.length := by
            rw [Nat.zero_add, ← h1]; simp
          rw [e2] at this
          exact this
      · refine hgr (some ⟨b, 0, none⟩) cap (by omega) ?_ rfl
        refine run_firstCells_some w.drew i0.size n ⟨b, 0, none⟩ n cap xs h1 (fun q u hq => ?_)
        rw [addr_add, World.cell?_drew, hcell, Nat.zero_add]
        have := (List.getElem?_eq_some_iff.1 hq).1
        simp [List.getElem?_append, this]
        simpa [this] using hq
  obtain ⟨r', w', hr, hR', hs'⟩ := key
  have : (builtin .append #[t, tx] ty cs #[sv r n, x]).run C.P w = .ok (.value (sv r' (n + m))) w' := by simp [builtin, hr]
  show Fin C next ((builtin .append #[t, tx] ty cs #[sv r n, x]).run C.P w)
  rw [this]
  exact ⟨_, hs', go r' hR'⟩
/-- append, as it runs -/
theorem apRun {ts : Array TypeId} {ty : TypeId} {cs : Array Bool} {vs : List Value} {next : Value → List Ent → Prop} (h : ∀ w, St C.M C.B w L → ∃ r w' L', (Builtin.append_ ts ty vs.toArray).run C.P w = .ok r w' ∧ St C.M C.B w' L' ∧ next r L') : BiP C .append ts ty cs vs L next := by
  refine ⟨fun w hs => ?_⟩
  obtain ⟨r, w', L', hr, hs', hn⟩ := h w hs
  have : (builtin .append ts ty cs vs.toArray).run C.P w = .ok (.value r) w' := by simp [builtin, hr]
  rw [this]
  exact ⟨L', hs', hn⟩
/-- what is appended: a slice of one's own memory, a string, nothing -/
theorem srcE {z tx e' m c : Nat} (hk' : look C.T.rows tx fun y _ => y = .sl e' z) (hT : TabOk C.P C.T) {b o : Nat} {news : List Value} (hsrc : ∀ w, St C.M C.B w L → ∀ j u, news[j]? = some u → w.cell? ((⟨b, o, none⟩ : Addr).add j) = some u) (hl : news.length = m * z) (h1 : ∀ u ∈ news, u.oneCell' = true) :
    ∀ w, St C.M C.B w L → Src C.P z tx (.slice (some ⟨b, o, none⟩) m c) m news w := fun w hs => Src.ofSlice w (slOf hT hk') ⟨b, o, none⟩ m c news hl (hsrc w hs) h1
theorem srcS {tx : Nat} (hk' : look C.T.rows tx fun y _ => y = .str) (hT : TabOk C.P C.T) (s : ByteArray) : ∀ w, St C.M C.B w L → Src C.P 1 tx (.string s) s.size (byteCells s) w := fun w _ => Src.ofString w (by obtain ⟨y, n, rfl, hr⟩ := hT.row hk'; exact rowOk_says hr) s
/-- a slice of one-cell elements that is read: all of what an entry holds from o on -/
theorem src (k : Nat) {b o : Nat} {c : Array Value} {t : TypeId} {fz : Nat × Nat} {ro : Bool} {news : List Value} (hk : L[k]? = some ⟨b, some (.cells c t fz), ro, none⟩) (hx : (c.toList.drop o).take news.length = news) :
    ∀ w, St C.M C.B w L → ∀ j u, news[j]? = some u → w.cell? ((⟨b, o, none⟩ : Addr).add j) = some u := by
  intro w hs j u hu
  rw [addr_add, hs.cell hk]
  have hj := (List.getElem?_eq_some_iff.1 hu).1
  rw [← hx, List.getElem?_take, if_pos hj, List.getElem?_drop] at hu
  simpa using hu

/-- in world w the slice v reads as xs -/
def Rd (w : World) (v : Value) (xs : List Value) : Prop := ∃ a c, v = .slice a xs.length c ∧ (xs ≠ [] → ∃ b o, a = some ⟨b, o, none⟩ ∧ b < w.heap.size ∧ ∀ j u, xs[j]? = some u → w.cell? ⟨b, o + j, none⟩ = some u)
theorem Rd.below {w w' : World} {v : Value} {xs : List Value} (h : Rd w v xs) (hb : Below w.heap.size w w') : Rd w' v xs := by
  obtain ⟨a, c, h0, h⟩ := h
  refine ⟨a, c, h0, fun hx => ?_⟩
  obtain ⟨b, o, h1, h2, h3⟩ := h hx
  exact ⟨b, o, h1, Nat.lt_of_lt_of_le h2 hb.size, fun j u hu => (hb.cell (p := ⟨b, o + j, none⟩) h2).trans (h3 j u hu)⟩
theorem Rd.ent {M : Bks} {B w : World} (hs : St M B w L) (k : Nat) {b o n cap : Nat} {c : Array Value} {t : TypeId} {fz : Nat × Nat} {ro : Bool} {xs : List Value} (hk : L[k]? = some ⟨b, some (.cells c t fz), ro, none⟩) (hn : n = xs.length) (hx : (c.toList.drop o).take n = xs) : Rd w (.slice (some ⟨b, o, none⟩) n cap) xs := by
  subst hn
  refine ⟨_, cap, rfl, fun _ => ⟨b, o, rfl, hs.lt (List.mem_of_getElem? hk) rfl, fun j u hu => ?_⟩⟩
  have := src (C := ⟨default, ⟨[], [], 0, []⟩, 0, M, B, none⟩) k hk hx w hs j u hu
  rwa [addr_add] at this
theorem Rd.own {M : Bks} {B w : World} (hs : St M B w L) (k : Nat) {r : Own} {xs : List Value} {e : TypeId} {n : Nat} (hk : L[k]? = some (se r xs e)) (hR : Rw 1 n r xs) : Rd w (sv r n) xs := by
  obtain ⟨h1, h2⟩ := hR
  cases r with
  | none =>
    simp only at h2; subst h2
    have hx : xs = [] := List.eq_nil_of_length_eq_zero (by simpa using h1)
    subst hx
    exact ⟨none, 0, rfl, fun h => absurd rfl h⟩
  | some p =>
    obtain ⟨b, c, j⟩ := p
    refine Rd.ent hs k hk (by omega) ?_
    have : n = xs.length := by omega
    subst this
    simp
theorem Rd.src {w : World} {tx e' : Nat} {x : Value} {news : List Value} (h : Rd w x news) {P : Program} (hk : P.underlying tx = some (.slice e')) (h1 : ∀ u ∈ news, u.oneCell' = true) : Src P 1 tx x news.length news w := by
  obtain ⟨a, c, rfl, h⟩ := h
  by_cases hx : news = []
  · subst hx
    cases a with
    | none => exact Src.ofNil w hk c
    | some a => exact Src.ofSlice w hk a 0 c [] rfl (by simp) (by simp)
  · obtain ⟨b, o, rfl, _, hc⟩ := h hx
    exact Src.ofSlice w hk ⟨b, o, none⟩ _ c news (by simp) (fun j u hu => by rw [addr_add]; exact hc j u hu) h1
/-- one cell of what was there -/
theorem ldo {P : Program} {T : Tab} {N : Nat} {F : Option Nat} {B : World} {b o : Nat} {v : Value} {next : Value → Prop} (h : B.cell? ⟨b, o, none⟩ = some v) (hb : b < B.heap.size) (go : next v) : Ld1 ⟨P, T, N, [], B, F⟩ L b o next :=
  ⟨v, fun w hs => (hs.below.cell (p := ⟨b, o, none⟩) hb).trans h, go⟩
/-- a row that a call has made: it lies behind what was there -/
def Made (w w' : World) (r : Own) (xs : List Value) (e : TypeId) : Prop := ∀ b c j, r = some (b, c, j) → w.heap.size ≤ b ∧ w'.heap[b]? = some (.cells (xs ++ j).toArray e (0, 0))
/-- it returns a row of its own -/
theorem made_of {M : Bks} {B w : World} (hs : St M B w L) (hM : M = []) (k : Nat) {r : Own} {xs : List Value} {e : TypeId} (hk : L[k]? = some (se r xs e)) : Made B w r xs e := by
  rintro b c j rfl
  refine ⟨?_, hs.nth hk⟩
  rcases hs.own _ (List.mem_of_getElem? hk) rfl rfl with h | h
  · exact h
  · rw [hM] at h; simp at h
/-- a call that gives a row of its own -/
theorem co {g : FuncId} {vs : List Value} {n z : Nat} {xs : List Value} {e : TypeId} {next : Value → List Ent → Prop}
    (h : ∀ w, St C.M C.B w L → Calls C.P g vs.toArray w fun en w' => ∃ r, en = .returned (sv r n) ∧ Rw z n r xs ∧ Made w w' r xs e ∧ Below w.heap.size w w')
    (go : ∀ r, Rw z n r xs → next (sv r n) (L ++ [se r xs e])) : CallP C g vs L next := by
  refine ⟨fun w hs => (h w hs).mono fun en w' ⟨r, he, hR, ho, hb⟩ => ⟨_, _, he, ?_, go r hR⟩⟩
  cases r with
  | none => exact (hs.call hb).push (Below.refl _ _) (by simp [se]) (fun k hk => by simp [se] at hk) (fun k hk => by simp [se] at hk)
  | some p =>
    obtain ⟨b, c, j⟩ := p
    obtain ⟨h1, h2⟩ := ho b c j rfl
    exact hs.add hb h1 h2
end Go.Sx
