/- The disk: how it lies; its small functions. -/
import Derived.Test.YtdgkaboaapfnmaaNmB
namespace Go.Proofs.Ytdgkaboaapfnmaa
open Go.RowKit Go.Sx
set_option linter.unusedVariables false

abbrev TM : Nat := 60
abbrev TF : Nat := 69
abbrev TD : Nat := 64
theorem undM : Try.prog.underlying TM = some (.map 9 TF) := by kernel_rfl
theorem keyM : KeyOk Try.prog 9 keS := keyStr undST
/-- a file -/
structure Fe where
  name : List UInt8
  bs : List UInt8
  sure : Nat
/-- a disk -/
structure Dk where
  steps : Nat
  left : Nat
  armed : Bool
  gone : Bool
  quota : Nat
  files : List Fe
/-- where it lies -/
structure DkS where
  D : Dk
  bd : Nat
  bm : Nat
  rr : Nat → Prop
  es : Es (List UInt8)
  clk : Nat
def dkC (D : Dk) (bm : Nat) : Array Value := #[.int .i64 D.steps, .int .i64 D.left, .bool D.armed, .bool D.gone, .int .i64 D.quota, .map (some bm)]
/-- an entry and a file -/
def EF (rr : Nat → Prop) (u : World) (e : List UInt8 × Value × Nat) (f : Fe) : Prop := e.1 = f.name ∧ ∃ v, e.2.1 = .agg #[v, .int .i64 f.sure] ∧ RdR rr u v (Lib.byteCells f.bs)
structure FilesOk (rr : Nat → Prop) (u : World) (es : Es (List UInt8)) (clk : Nat) (fs : List Fe) : Prop where
  all : All2 (EF rr u) es fs
  nb : (es.map (·.2.2)).Nodup
  lt : ∀ e ∈ es, e.2.2 < clk
  nn : (fs.map (·.name)).Nodup
  sz : ∀ f ∈ fs, f.sure ≤ f.bs.length ∧ f.bs.length ≤ 16777216 ∧ f.name.length ≤ 64
structure DkP (S : DkS) (u : World) : Prop where
  d : u.heap[S.bd]? = some (.cells (dkC S.D S.bm) TD (0, 0))
  m : u.heap[S.bm]? = some (mapO keS S.es S.clk)
  f : FilesOk S.rr u S.es S.clk S.D.files
  ne : S.bd ≠ S.bm
  r : ∀ k, S.rr k → k < u.heap.size ∧ k ≠ S.bd ∧ k ≠ S.bm
theorem EF.same {rr : Nat → Prop} {u v : World} (hs : ∀ k, rr k → v.heap[k]? = u.heap[k]?) {e : List UInt8 × Value × Nat} {f : Fe} (h : EF rr u e f) : EF rr v e f := by
  obtain ⟨h1, x, h2, h3⟩ := h
  exact ⟨h1, x, h2, h3.same hs⟩
theorem EF.mono {rr rr' : Nat → Prop} {u : World} (hr : ∀ k, rr k → rr' k) {e : List UInt8 × Value × Nat} {f : Fe} (h : EF rr u e f) : EF rr' u e f := by
  obtain ⟨h1, x, h2, h3⟩ := h
  exact ⟨h1, x, h2, h3.mono hr⟩
theorem FilesOk.same {rr : Nat → Prop} {u v : World} (hs : ∀ k, rr k → v.heap[k]? = u.heap[k]?) {es : Es (List UInt8)} {clk : Nat} {fs : List Fe} (h : FilesOk rr u es clk fs) : FilesOk rr v es clk fs :=
  ⟨h.all.imp (fun _ _ h => h.same hs), h.nb, h.lt, h.nn, h.sz⟩
def dkR (S : DkS) : Res where
  w k := k = S.bd ∨ k = S.bm
  r k := S.rr k
  p u := DkP S u
  st u v h := fun hp => ⟨(h _ (.inl (.inl rfl))).trans hp.d, (h _ (.inl (.inr rfl))).trans hp.m, hp.f.same fun k hk => h k (.inr hk), hp.ne, fun k hk => ⟨by
    have h1 := (hp.r k hk).1
    have h2 := h k (.inr hk)
    rw [Array.getElem?_eq_getElem h1] at h2
    exact (Array.getElem?_eq_some_iff.1 h2).1, (hp.r k hk).2⟩⟩
  bd u := fun hp k hk => by
    rcases hk with (rfl | rfl) | hk
    · exact (Array.getElem?_eq_some_iff.1 hp.d).1
    · exact (Array.getElem?_eq_some_iff.1 hp.m).1
    · exact (hp.r k hk).1
abbrev mr (b : Nat) (fs : Es (List UInt8)) (clk : Nat) : Ent := ⟨b, some (mapO keS fs clk), true, none⟩
/-- it is only read -/
theorem dk_ro {S : DkS} {w : World} (h : DkP S w) : St [] w w [cr S.bd (dkC S.D S.bm) TD, mr S.bm S.es S.clk] :=
  St.from w [] _ (fun e he => by
    simp only [List.mem_cons, List.not_mem_nil, or_false] at he
    rcases he with rfl | rfl
    · exact ⟨by simpa using h.d, fun k hk => by simp at hk⟩
    · exact ⟨by simpa using h.m, fun k hk => by simp at hk⟩) (by
      refine .cons (fun y hy => ?_) (by simp)
      obtain rfl : y = mr S.bm S.es S.clk := by simpa using hy
      exact fun k => ⟨fun h => by simp at h, fun h => by simp at h⟩)
/-- it turns -/
theorem dk_rw {S : DkS} {w : World} (h : DkP S w) : St [bl S.bd, bl S.bm] w w [cl S.bd (dkC S.D S.bm) TD, me S.bm keS S.es S.clk] :=
  St.from w _ _ (fun e he => by
    simp only [List.mem_cons, List.not_mem_nil, or_false] at he
    rcases he with rfl | rfl
    · exact ⟨by simpa using h.d, fun k hk => by simp at hk; simp [bl, hk]⟩
    · exact ⟨by simpa using h.m, fun k hk => by simp at hk; simp [bl, hk]⟩) (by
      refine .cons (fun y hy => ?_) (by simp)
      obtain rfl : y = me S.bm keS S.es S.clk := by simpa using hy
      have := h.ne
      exact fun k => ⟨fun h1 h2 => by simp at h1 h2; omega, fun h1 h2 => by simp at h1 h2; omega⟩)
set_option maxRecDepth 100000 in
theorem down_any (S : DkS) (w : World) (h : DkP S w) : Calls Try.prog 13 ([ptr S.bd] : List Value).toArray w fun e w' => e = .returned (.bool S.D.gone) ∧ Below w.heap.size w w' := by
  refine enterV tab_ok Try.func13 rfl Try.ntmps13 rfl (dk_ro h) ?_
  iterate 5 refine ct rfl ?_
  refine ld1 0 rfl rfl ?_
  refine cf rfl ?_
  exact rt rfl
set_option maxRecDepth 100000 in
theorem steps_any (S : DkS) (w : World) (h : DkP S w) : Calls Try.prog 16 ([ptr S.bd] : List Value).toArray w fun e w' => e = .returned (.int .i64 S.D.steps) ∧ Below w.heap.size w w' := by
  refine enterV tab_ok Try.func16 rfl Try.ntmps16 rfl (dk_ro h) ?_
  refine cf rfl ?_
  refine ld1 0 rfl rfl ?_
  exact rt rfl
/-- an empty disk, by its numbers -/
def dk0 (quota : Nat) (bd bm : Nat) : DkS := ⟨⟨0, 0, false, false, quota, []⟩, bd, bm, fun _ => False, [], 0⟩
set_option maxRecDepth 100000 in
theorem new_bad (q : Int) (hq : q < 0 ∨ 16777216 < q) (hb : -9223372036854775808 ≤ q ∧ q ≤ 9223372036854775807) (w : World) : Calls Try.prog 11 ([.int .i64 q] : List Value).toArray w fun e w' => e = .returned (.tuple #[.pointer none, ErrN 2]) ∧ Below w.heap.size w w' := by
  refine enterV tab_ok Try.func11 rfl Try.ntmps11 rfl (St.start w) ?_
  by_cases h0 : q < 0
  · have e1 := decide_eq_true h0
    have e2 : (decide (q < 0) == false) = false := by rw [e1]; rfl
    refine cf e2 ?_
    refine cf e2 ?_
    refine ct e1 ?_
    refine ct rfl ?_
    exact rt rfl
  · have e1 := decide_eq_false h0
    have e2 : (decide (q < 0) == false) = true := by rw [e1]; rfl
    refine ct e2 ?_
    refine ct e2 ?_
    refine cf e1 ?_
    refine ct (decide_eq_true (by omega)) ?_
    exact rt rfl
set_option maxRecDepth 100000 in
theorem new_any (q : Nat) (hq : q ≤ 16777216) (w : World) : Calls Try.prog 11 ([.int .i64 q] : List Value).toArray w fun e w' => ∃ x : Nat × Nat, True ∧ e = .returned (.tuple #[ptr x.1, .nilIface]) ∧ Below w.heap.size w w' ∧ (dkR (dk0 q x.1 x.2)).p w' ∧ (∀ k, (dkR (dk0 q x.1 x.2)).w k → w.heap.size ≤ k) ∧ ∀ k, (dkR (dk0 q x.1 x.2)).r k → False := by
  refine (enter tab_ok Try.func11 rfl Try.ntmps11 rfl (St.start w) (R := fun v w' => ∃ x : Nat × Nat, v = .tuple #[ptr x.1, .nilIface] ∧ Below w.heap.size w w' ∧ (dkR (dk0 q x.1 x.2)).p w' ∧ (∀ k, (dkR (dk0 q x.1 x.2)).w k → w.heap.size ≤ k)) ?_).mono (fun e w' ⟨v, he, x, h1, h2, h3, h4⟩ => ⟨x, trivial, by rw [he, h1], h2, h3, h4, fun k hk => hk⟩)
  have e1 := decide_eq_false (show ¬ (q : Int) < 0 by omega)
  have e2 : (decide ((q : Int) < 0) == false) = true := by rw [e1]; rfl
  refine ct e2 ?_
  refine ct e2 ?_
  refine cf e1 ?_
  refine cf (decide_eq_false (by omega)) ?_
  refine mkm (keS : List UInt8 → Value) (fun bm => ?_)
  refine bu (c := #[.int .i64 0, .int .i64 0, .bool false, .bool false, .int .i64 q, .map (some bm)]) (by kernel_rfl) ?_
  intro bd
  refine ⟨fun w1 hs => ⟨(bd, bm), rfl, hs.below, ?_, ?_⟩⟩
  · refine ⟨hs.nth (k := 1) rfl, hs.nth (k := 0) rfl, ⟨.nil, by simp [dk0], by simp [dk0], by simp [dk0], by simp [dk0]⟩, ?_, fun k hk => hk.elim⟩
    have := pw_ne hs.apart (i := 0) (j := 1) rfl rfl (by decide)
    have h2 := (this bd).2 (by simp)
    simp at h2
    exact fun e => h2 e.symm
  · rintro k (rfl | rfl)
    · rcases hs.own _ (List.mem_of_getElem? (i := 1) rfl) rfl rfl with h | h
      · exact h
      · simp at h
    · rcases hs.own _ (List.mem_of_getElem? (i := 0) rfl) rfl rfl with h | h
      · exact h
      · simp at h
set_option maxRecDepth 100000 in
theorem arm_bad (S : DkS) (n : Int) (hn : n < 0) (w : World) (h : DkP S w) : Calls Try.prog 12 ([ptr S.bd, .int .i64 n] : List Value).toArray w fun e w' => e = .returned (ErrN 2) ∧ Below w.heap.size w w' := by
  refine enterV tab_ok Try.func12 rfl Try.ntmps12 rfl (dk_ro h) ?_
  refine cf rfl ?_
  refine ct (decide_eq_true hn) ?_
  exact rt rfl
def DkS.withD (S : DkS) (D : Dk) : DkS := { S with D := D }
/-- only its numbers have turned -/
theorem turn_nums {S : DkS} {w w' : World} {L : List Ent} (h : DkP S w) (hs : St [bl S.bd, bl S.bm] w w' L) (D' : Dk) (hf : D'.files = S.D.files) (hd : w'.heap[S.bd]? = some (.cells (dkC D' S.bm) TD (0, 0))) (hm : w'.heap[S.bm]? = some (mapO keS S.es S.clk)) : Turns w w' (dkR S) (dkR (S.withD D')) := by
  have hr : ∀ k, S.rr k → w'.heap[k]? = w.heap[k]? := fun k hk => hs.old k (h.r k hk).1 (by simp [bl]; exact (h.r k hk).2)
  refine Turns.of_st hs (fun k hk => ?_) ⟨hd, hm, ?_, h.ne, fun k hk => ⟨Nat.lt_of_lt_of_le (h.r k hk).1 hs.size, (h.r k hk).2⟩⟩ (fun k hk => .inl hk) (fun k hk => .inl hk)
  · simpa [bl, dkR] using hk
  · show FilesOk S.rr w' S.es S.clk D'.files
    rw [hf]; exact h.f.same hr
set_option maxRecDepth 100000 in
theorem arm_any (S : DkS) (n : Nat) (w : World) (h : DkP S w) : Calls Try.prog 12 ([ptr S.bd, .int .i64 n] : List Value).toArray w fun e w' => e = .returned .nilIface ∧ Turns w w' (dkR S) (dkR (S.withD { S.D with armed := true, left := n })) := by
  refine (enter tab_ok Try.func12 rfl Try.ntmps12 rfl (dk_rw h) (R := fun v w' => v = .nilIface ∧ Turns w w' (dkR S) (dkR (S.withD { S.D with armed := true, left := n }))) ?_).mono (fun e w' ⟨v, he, h1, h2⟩ => ⟨by rw [he, h1], h2⟩)
  refine cf rfl ?_
  refine cf (decide_eq_false (by omega)) ?_
  refine s1 0 rfl (show 2 < 6 by decide) ?_
  refine s1 0 rfl (show 1 < 6 by decide) ?_
  exact ⟨fun w1 hs => ⟨rfl, turn_nums h hs _ rfl (hs.nth (k := 0) rfl) (hs.nth (k := 1) rfl)⟩⟩
end Go.Proofs.Ytdgkaboaapfnmaa
