/- The disk: Names, Copy. -/
import Derived.Test.YtdgkaboaapfnmaaDkH
import Derived.Test.YtdgkaboaapfnmaaDkI
import Derived.StringKeys
namespace Go.Proofs.Ytdgkaboaapfnmaa
open Go.RowKit Go.Sx Go.Maps Go.Sort Go.Shelf
set_option linter.unusedVariables false

/-- texts in their order -/
def sortT (l : List (List UInt8)) : List (List UInt8) := l.mergeSort fun x y => decide (x ≤ y)
theorem sortT_pw (l : List (List UInt8)) : (sortT l).Pairwise (· ≤ ·) := by
  have h := List.pairwise_mergeSort (le := fun x y : List UInt8 => decide (x ≤ y)) (fun a b c h1 h2 => by simp at *; exact List.le_trans h1 h2) (fun a b => by simp; exact List.le_total a b) l
  exact h.imp (by simp)
theorem sortT_perm (l : List (List UInt8)) : (sortT l).Perm l := List.mergeSort_perm l _
theorem sorted_eq {l m : List (List UInt8)} (h : l.Perm m) (hl : l.Pairwise (· ≤ ·)) (hm : m.Pairwise (· ≤ ·)) : l = m := by
  induction l generalizing m with
  | nil => exact (List.Perm.nil_eq h)
  | cons a l ih =>
    cases m with
    | nil => exact absurd h.length_eq (by simp)
    | cons b m =>
      have hab : a = b := by
        have h1 : a ∈ b :: m := h.mem_iff.1 (by simp)
        have h2 : b ∈ a :: l := h.mem_iff.2 (by simp)
        rcases List.mem_cons.1 h1 with h1 | h1
        · exact h1
        · rcases List.mem_cons.1 h2 with h2 | h2
          · exact h2.symm
          · exact List.le_antisymm ((List.pairwise_cons.1 hl).1 b h2) ((List.pairwise_cons.1 hm).1 a h1)
      subst hab
      rw [ih (h.cons_inv) (List.pairwise_cons.1 hl).2 (List.pairwise_cons.1 hm).2]
theorem sortT_congr {l m : List (List UInt8)} (h : l.Perm m) : sortT l = sortT m := sorted_eq ((sortT_perm l).trans (h.trans (sortT_perm m).symm)) (sortT_pw l) (sortT_pw m)
theorem sorts (m : Nat) : AnyZ.SortsIn Try.prog Lsorted50_ren Fence.wide m :=
  ⟨fun blk off cap ss W hH hblk hsz => callsIn_wide.2 (AnyM.slices_Sort_string Lsort67 blk off cap ss W hH hblk hsz),
   fun p cap W => callsIn_wide.2 (AnyM.slices_Sort_string_none Lsort67 p cap W)⟩
theorem keys_call (mb : Option Nat) (W : World) : CallsIn Fence.wide 5 Try.prog 51 #[.map mb] W fun e w' => e = .returned (.func (.func 68) #[] #[.pointer (some ⟨W.heap.size, 0, none⟩)]) ∧ w' = W.alloc (.cells #[.map mb] TM) :=
  AnyZ.keys_in Lkeys51 Fence.wide 5 trivial rfl mb W
set_option maxHeartbeats 1000000 in
theorem sorted_call {H : Type} (Bm b nn : Nat) (D0 : DataW H) (R : Value → Option (DataW H × List MemPlace)) (w : World) (hBm : Bm < w.heap.size) (hm : w.cell? ⟨Bm, 0, none⟩ = some (.map (some b))) (hown : w.ownsMap Try.prog 9 R b nn D0) (hmax : Maps.size D0 ≤ maxLen) (hbytes : Maps.size D0 * 16 ≤ 140737488355328) :
    Calls Try.prog 50 ([.func (.func 68) #[] #[ptr Bm]] : List Value).toArray w fun e w' => ∃ (v : Value) (ss : List (List UInt8)), e = .returned v ∧ ss.Perm (strKeys D0) ∧
      w'.ownsRow w.heap.size 9 1 v ss.length ((sortT ss).map encStr) ∧ (v = .slice none 0 0 ↔ ss = []) ∧ Below w.heap.size w w' := by
  have hseq : SeqGives Fence.wide 2 Try.prog 68 #[.pointer (some ⟨Bm, 0, none⟩)] encStr (fun ss => ss.Perm (strKeys D0)) (Maps.size D0) w :=
    AnyZ.keys_gives (ρ := Lkeys51_ren) { Lkeys51 with } Fence.wide _ trivial rfl (by omega) Bm b nn D0 _ hBm hm hown
  exact (callsIn_wide (n := 5)).1 (AnyZ.sorted_in Lsorted50 Fence.wide 5 trivial trivial trivial trivial rfl (by omega) (sorts _) (enters_of Try.func67 (by kernel_rfl) rfl) 68 #[.pointer (some ⟨Bm, 0, none⟩)] trivial (enters_of Try.func68 (by kernel_rfl) rfl) _ _ hmax hbytes _ hseq)
/-- the map's keys, as the contracts speak of them -/
theorem insert_perm {H : Type} (x : Lit × DataW H) (l : List (Lit × DataW H)) : (DataW.insert x l).Perm (x :: l) := by
  induction l with
  | nil => exact .refl _
  | cons y l ih =>
    unfold DataW.insert
    split
    · exact .refl _
    · exact (ih.cons y).trans (.swap x y l)
theorem foldr_perm {H : Type} (l : List (Lit × DataW H)) : (l.foldr DataW.insert []).Perm l := by
  induction l with
  | nil => exact .refl _
  | cons y l ih => exact (insert_perm y _).trans (ih.cons y)
def RU : Value → Option (DataW Unit × List MemPlace) := fun _ => some (.nil, [])
theorem own_of {w : World} {bm clk : Nat} {es : Es (List UInt8)} {rr : Nat → Prop} {fs : List Fe} (hm : w.heap[bm]? = some (mapO keS es clk)) (hF : FilesOk rr w es clk fs) (hn : fs.length ≤ 1000000) :
    ∃ D0 : DataW Unit, w.ownsMap Try.prog 9 RU bm es.length D0 ∧ Maps.size D0 = es.length ∧ (strKeys D0).Perm (fs.map (·.name)) := by
  have hlen := hF.all.len
  have hnames := all2_names hF.all
  have hkey : ∀ e ∈ es, WideElems.rd Try.prog 9 RU (entS keS e) = some (.string e.1, .nil) := fun e he => by
    obtain ⟨f, hf, h1, _⟩ := hF.all.memL he
    have := (hF.sz f hf).2.2
    unfold WideElems.rd
    have hk : keyOf Try.prog 9 (entS keS e).key = some (.string e.1) := by
      have := WideMaps.keyOf_string_mk (k := 9) undST (s := ⟨e.1.toArray⟩) (by rw [size_mk, h1]; unfold maxLen; omega)
      simpa [entS, keS] using this
    rw [hk]; rfl
  have hrg : (es.map (entS keS)).map (WideElems.rg Try.prog 9 RU) = es.map fun e => (Lit.string e.1, DataW.nil) := by
    rw [List.map_map]
    exact List.map_congr_left fun e he => by simp only [Function.comp_apply, WideElems.rg, hkey e he]; rfl
  refine ⟨.map (((es.map (entS keS)).map (WideElems.rg Try.prog 9 RU)).foldr DataW.insert []), ⟨_, clk, hm, ⟨?_, ⟨?_, ?_, ?_⟩, ?_⟩, by simp, by simp⟩, ?_, ?_⟩
  · simp; unfold maxLen; omega
  · intro x hx
    simp only [List.mem_map] at hx
    obtain ⟨e, he, rfl⟩ := hx
    exact hF.lt e he
  · have := hF.nb
    simpa [List.map_map, Function.comp_def, entS] using this
  · have h1 : (es.map (·.1)).Nodup := by rw [hnames]; exact hF.nn
    have : ((es.map (·.1)).map keS).Nodup := by
      rw [List.nodup_iff_pairwise_ne] at *
      rw [List.pairwise_map]
      exact h1.imp fun {a b} h e => h (by simpa [keS] using e)
    simpa [List.map_map, Function.comp_def, entS] using this
  · intro x hx
    simp only [List.mem_map] at hx
    obtain ⟨e, he, rfl⟩ := hx
    exact ⟨_, hkey e he⟩
  · show List.length _ = _
    rw [(foldr_perm _).length_eq]; simp
  · show (List.map (fun p : Lit × DataW Unit => strOf p.1) _).Perm _
    refine ((foldr_perm _).map _).trans ?_
    rw [hrg, List.map_map, ← hnames]
    exact .refl _
set_option maxRecDepth 100000 in
theorem names_any (S : DkS) (w : World) (h : DkP S w) (hn : S.D.files.length ≤ 1000000) : Calls Try.prog 23 ([ptr S.bd] : List Value).toArray w fun e w' =>
    ∃ r, e = .returned (sv r S.D.files.length) ∧ Rw 1 S.D.files.length r (txtCells (sortT (S.D.files.map (·.name)))) ∧ Made w w' r (txtCells (sortT (S.D.files.map (·.name)))) 9 ∧ Below w.heap.size w w' := by
  refine (enter tab_ok Try.func23 rfl Try.ntmps23 rfl (dk_ro h) (R := fun v w' => ∃ r, v = sv r S.D.files.length ∧ Rw 1 S.D.files.length r (txtCells (sortT (S.D.files.map (·.name)))) ∧ Made w w' r (txtCells (sortT (S.D.files.map (·.name)))) 9 ∧ Below w.heap.size w w') ?_).mono (fun e w' ⟨v, he, r, h1, h2⟩ => ⟨r, by rw [he, h1], h2⟩)
  refine cf rfl ?_
  refine ld1 0 rfl (v := .map (some S.bm)) rfl ?_
  refine cn (v := fun b => .func (.func 68) #[] #[ptr b]) (o := .cells #[.map (some S.bm)] TM (0, 0)) (fun w1 hs => ?_) (fun bk1 => ?_)
  · refine ((callsIn_wide (n := 5)).1 (keys_call (some S.bm) w1)).mono ?_
    rintro e w2 ⟨rfl, rfl⟩
    exact ⟨w1.heap.size, rfl, Nat.le_refl _, heap_alloc_new w1 _, below_alloc1 w1 _⟩
  refine coV (n := S.D.files.length) (z := 1) (xs := txtCells (sortT (S.D.files.map (·.name)))) (e := 9) id (fun w1 hs => ?_) (fun r hR => ?_)
  · have hk := hs.nth (k := 2) rfl
    have hm : w1.cell? ⟨bk1, 0, none⟩ = some (.map (some S.bm)) := hs.cell (k := 2) rfl 0
    have hr : ∀ k, S.rr k → w1.heap[k]? = w.heap[k]? := fun k hk => hs.below.block k (h.r k hk).1
    obtain ⟨D0, hown, hsz, hp⟩ := own_of (w := w1) (hs.nth (k := 1) rfl) (h.f.same hr) hn
    have hl := h.f.all.len
    refine (sorted_call bk1 S.bm _ D0 RU w1 (hs.lt (List.mem_of_getElem? (i := 2) rfl) rfl) hm hown (by rw [hsz]; unfold maxLen; omega) (by rw [hsz]; omega)).mono ?_
    rintro e w2 ⟨v, ss, rfl, hss, hrow, hnil, hb⟩
    have hsl : ss.length = S.D.files.length := by rw [(hss.trans hp).length_eq]; simp
    have hst : (sortT ss).map encStr = txtCells (sortT (S.D.files.map (·.name))) := by rw [sortT_congr (hss.trans hp)]; rfl
    rw [hst, hsl] at hrow
    obtain ⟨h1, h2 | ⟨g, cap, cur, h2, h3, h4, h5, h6, h7, h8⟩⟩ := hrow
    · obtain ⟨rfl, h0⟩ := h2
      exact ⟨none, by rw [h0]; rfl, ⟨h1, h0⟩, fun _ _ _ h => (by cases h), hb⟩
    · rw [Nat.mul_one] at h8
      have hcur : cur = (txtCells (sortT (S.D.files.map (·.name))) ++ cur.toList.drop S.D.files.length).toArray := by
        apply Array.ext'
        rw [← h8]; simp
      refine ⟨some (g, cap, cur.toList.drop S.D.files.length), by rw [h2]; rfl, ⟨h1, h5, h6, ?_⟩, ?_, hb⟩
      · rw [← h8, List.take_append_drop]; simpa using h7
      · rintro b c j hj
        obtain ⟨rfl, rfl, rfl⟩ : g = b ∧ cap = c ∧ cur.toList.drop S.D.files.length = j := by injection hj with hj; injection hj with a1 a2; injection a2 with a2 a3; exact ⟨a1, a2, a3⟩
        exact ⟨h3, by rw [← hcur]; exact h4⟩
  exact ⟨fun w1 hs => ⟨r, rfl, hR, made_of hs rfl 3 rfl, hs.below⟩⟩
theorem clone_run (bm : Nat) (w : World) {es : Array MapEntry} {clk : Nat} (hm : w.heap[bm]? = some (.map es clk)) : (callFunc 65 #[.iface TM (.map (some bm))]).run Try.prog w = .ok (.value (.iface TM (.map (some w.heap.size)))) (w.alloc (.map es clk)) := by
  rw [run_callFunc_extern Try.func65 (by kernel_rfl) (by kernel_rfl) (by kernel_rfl) (e := Extern.MapsClone.clone) (by kernel_rfl)]
  have e : Extern.MapsClone.clone #[.iface TM (.map (some bm))] = (getObj bm >>= fun o => match o with
    | .map entries clock => (newObj (.map entries clock) >>= fun r => pure (.iface TM (.map (some r))))
    | _ => stuck "maps.clone: a map expected") := rfl
  simp only [e, Sem.run_bind, run_getObj hm (by simp), Result.andThen_ok, run_newObj_alloc, Sem.run_pure]
theorem assertM (b : Nat) (w : World) : (Instr.typeAssert (.iface TM (.map (some b))) 20 TM false).run Try.prog w = .ok (.map (some b)) w := by
  kernel_rfl
/-- a function that the program's text doesn't have, and that makes a block -/
theorem extA {C : Cx} {L : List Ent} {o : Oper} {σ : Fr} {v : Nat → Value} {ob : Obj} {next : Value → List Ent → Prop} {x : Operand} {aa : Array Operand} {ts : Array TypeId} {g : FuncId} {vs : List Value} (ho : o.op = .call ⟨.value x, aa, ts⟩) (hx : ev σ x (· = .func (.func g) #[] #[])) (ha : evs σ aa.toList (· = vs))
    (h : ∀ w, St C.M C.B w L → (callFunc g vs.toArray).run C.P w = .ok (.value (v w.heap.size)) (w.alloc ob)) (go : ∀ b, next (v b) (L ++ [⟨b, some ob, false, none⟩])) : OpP C o σ L next := by
  refine ⟨fun ρ w hf hs => ?_⟩
  have e1 := hf x _ hx
  have e2 := hf.evs _ _ ha
  have e3 : aa.map ρ = vs.toArray := by apply Array.ext'; rw [← e2]; simp
  refine Go.Sx.Fin.val (v := v w.heap.size) (w' := w.alloc ob) ?_ (hs.alloc ob) (go _)
  unfold execOp
  simp only [ho, resolve, e1, e3]
  simp [Deferred.ofValue, invoke, h w hs]
/-- another disk like it, elsewhere -/
def DkS.at (S : DkS) (x : Nat × Nat) : DkS := { S with bd := x.1, bm := x.2 }
set_option maxRecDepth 100000 in
theorem copyd_any (S : DkS) (w : World) (h : DkP S w) : Calls Try.prog 21 ([ptr S.bd] : List Value).toArray w fun e w' => ∃ x : Nat × Nat, True ∧ e = .returned (ptr x.1) ∧ Below w.heap.size w w' ∧ (dkR (S.at x)).p w' ∧ (∀ k, (dkR (S.at x)).w k → w.heap.size ≤ k) := by
  refine (enter tab_ok Try.func21 rfl Try.ntmps21 rfl (dk_ro h) (R := fun v w' => ∃ x : Nat × Nat, v = ptr x.1 ∧ Below w.heap.size w w' ∧ (dkR (S.at x)).p w' ∧ (∀ k, (dkR (S.at x)).w k → w.heap.size ≤ k)) ?_).mono (fun e w' ⟨v, he, x, h1, h2⟩ => ⟨x, trivial, by rw [he, h1], h2⟩)
  refine cf rfl ?_
  refine dr [cr S.bd (dkC S.D S.bm) TD, mr S.bm S.es S.clk] 99 (.t 0 (.t 1 (.t 2 (.t 3 (.t 4 (.t 5 (.t 6 (.t 7 (.t 8 (.t 9 (.t 10 (.t 11 (.n 12 (.t 13 (.n 14 (.t 15 .nil)))))))))))))))) tab_ok mixed_ok (by kernel_rfl) (.cons (.cons .nil)) ?_
  refine ldP 0 rfl (d := #[.int .i64 S.D.steps, .int .i64 S.D.left, .bool S.D.armed, .bool S.D.gone]) rfl (by simp [dkC, nad_eq]) ?_
  refine ld1 0 rfl (v := .int .i64 S.D.quota) rfl ?_
  refine ld1 0 rfl (v := .map (some S.bm)) rfl ?_
  refine inl (C := ⟨Try.prog, tab, 20, [], w, none⟩) tab_ok Try.func49 rfl Try.ntmps49 rfl ?_
  refine cf rfl ?_
  refine extA (v := fun b => .iface TM (.map (some b))) (ob := mapO keS S.es S.clk) rfl rfl rfl (fun w1 hs => clone_run S.bm w1 (hs.nth (k := 1) rfl)) (fun bm' => ?_)
  refine semV (fun w _ => assertM bm' w) ?_
  refine bk ?_
  refine ⟨.cons (.cons .nil), ?_⟩
  refine bu (c := #[.int .i64 S.D.steps, .int .i64 S.D.left, .bool S.D.armed, .bool S.D.gone, .int .i64 S.D.quota, .map (some bm')]) (by kernel_rfl) ?_
  intro bd'
  refine ⟨.cons (.cons .nil), ?_⟩
  refine ⟨fun w1 hs => ⟨(bd', bm'), rfl, hs.below, ?_, ?_⟩⟩
  · have hr : ∀ k, S.rr k → w1.heap[k]? = w.heap[k]? := fun k hk => hs.below.block k (h.r k hk).1
    have n1 : w.heap.size ≤ bm' := by
      rcases hs.own _ (List.mem_of_getElem? (i := 2) rfl) rfl rfl with h | h
      · exact h
      · simp at h
    have n2 : w.heap.size ≤ bd' := by
      rcases hs.own _ (List.mem_of_getElem? (i := 3) rfl) rfl rfl with h | h
      · exact h
      · simp at h
    refine ⟨hs.nth (k := 3) rfl, hs.nth (k := 2) rfl, h.f.same hr, ?_, fun k hk => ?_⟩
    · have := pw_ne hs.apart (i := 2) (j := 3) rfl rfl (by decide)
      have h2 := (this bd').2 (by simp)
      simp at h2
      exact fun e => h2 e.symm
    · have := (h.r k hk).1
      have hsz : w.heap.size ≤ w1.heap.size := hs.size
      exact ⟨by omega, by show k ≠ bd'; omega, by show k ≠ bm'; omega⟩
  · rintro k (rfl | rfl)
    · rcases hs.own _ (List.mem_of_getElem? (i := 3) rfl) rfl rfl with h | h
      · exact h
      · simp at h
    · rcases hs.own _ (List.mem_of_getElem? (i := 2) rfl) rfl rfl with h | h
      · exact h
      · simp at h
end Go.Proofs.Ytdgkaboaapfnmaa
