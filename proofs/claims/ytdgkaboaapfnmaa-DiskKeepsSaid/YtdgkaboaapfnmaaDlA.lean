/- The disk laws' fixed fact: alive. -/
import Derived.Test.YtdgkaboaapfnmaaDsA
namespace Go.Proofs.Ytdgkaboaapfnmaa
open Go.RowKit Go.Sx
set_option linter.unusedVariables false

theorem bs3 (x y z : Int) (w : World) : (Instr.buildSlice 31 3 #[(0, .int .u8 x), (1, .int .u8 y), (2, .int .u8 z)]).run Try.prog w = .ok (.slice (some ⟨w.heap.size, 0, none⟩) 3 3) (w.alloc (.cells #[.int .u8 x, .int .u8 y, .int .u8 z] 5)) := by
  obtain ⟨i, hi, hz, hs, hb⟩ := infoOf info5
  exact run_buildSlice w _ _ 3 _ #[.int .u8 x, .int .u8 y, .int .u8 z] i (.int .u8 0) und22 hi hz (by rw [hs]; decide) (by rw [hs]; decide) (by rw [hs]; kernel_rfl)
/-- a row beside a disk stays -/
theorem ent_keep {M : Bks} {w0 w : World} {L : List Ent} {S : DkS} {k b o n cap : Nat} {c : Array Value} {t : TypeId} {fz : Nat × Nat} {ro : Bool} {xs : List Value} (hs : St M w0 w L) (i : Nat) (h0 : L[i]? = some (rs (dkR S))) (hk : L[k]? = some ⟨b, some (.cells c t fz), ro, none⟩) (hki : i ≠ k) (hn : n = xs.length) (hx : (c.toList.drop o).take n = xs)
    (w' : World) (hw : ∀ j, j < w.heap.size → ¬ InM [bl S.bd, bl S.bm] j → w'.heap[j]? = w.heap[j]?) : Rd w' (.slice (some ⟨b, o, none⟩) n cap) xs := by
  obtain ⟨a, c1, e, h⟩ := Rd.ent hs k (cap := cap) hk hn hx
  refine ⟨a, c1, e, fun hne => ?_⟩
  obtain ⟨b1, o1, ea, hb, hc⟩ := h hne
  have hlt := hs.lt (List.mem_of_getElem? hk) rfl
  subst hn
  injection e with e1 e2 e3
  rw [← e1] at ea
  obtain rfl : b = b1 := by injection ea with ea; injection ea
  have hnb : ¬ InM [bl S.bd, bl S.bm] b := fun h2 => by
    simp only [inM_cons, inM_nil, or_false, bl] at h2
    exact (pw_ne hs.apart h0 hk hki b).1 ((rsW _ _).2 h2) (by simp)
  have hsame := hw b hlt hnb
  exact ⟨b, o1, by rw [← e1, ea], lt_same hlt hsame, fun j u hu => by rw [← hc j u hu]; simp only [World.cell?, hsame]⟩
def al0 : Dk := ⟨0, 0, false, false, 100, []⟩
def al1 : Dk := ⟨1, 0, false, false, 100, [⟨[97], [97, 98, 99], 0⟩]⟩
def al2 : Dk := ⟨2, 0, false, false, 100, [⟨[97], [97, 98, 99], 3⟩]⟩
def al3 : Dk := ⟨3, 0, false, false, 100, [⟨[97], [97, 98, 99, 100, 101, 102], 3⟩]⟩
def al4 : Dk := ⟨3, 0, false, false, 100, [⟨[97], [97, 98, 99, 100], 4⟩]⟩
theorem al_1 : appendD al0 [97] [97, 98, 99] = (al1, 0) := by rfl
theorem al_2 : syncD al1 [97] = (al2, 0) := by rfl
theorem al_3 : appendD al2 [97] [100, 101, 102] = (al3, 0) := by rfl
theorem al_4 : crashD al3 1 = al4 := by rfl
theorem al_5 : readD al4 [97] = ([97, 98, 99, 100], 0) := by rfl
set_option maxRecDepth 100000 in
set_option maxHeartbeats 4000000 in
theorem alive_any (w : World) : Calls Try.prog 9 #[] w fun e w' => e = .returned (.bool true) ∧ Below w.heap.size w w' := by
  refine enterV tab_ok Try.func9 rfl Try.ntmps9 rfl (St.start w) ?_
  refine cM (α := Nat × Nat) (Φ := fun _ => True) (v := fun x => .tuple #[ptr x.1, .nilIface]) (r' := fun x => dkR (dk0 100 x.1 x.2)) (fun w1 hs => (new_any 100 (by decide) w1).mono fun e w' ⟨x, h0, h1, h2, h3, h4, h5⟩ => ⟨x, h0, h1, h2, h3, h4, fun k hk => (h5 k hk).elim⟩) (fun x _ => ?_)
  obtain ⟨S0, hS0⟩ : ∃ S, S = dk0 100 x.1 x.2 := ⟨_, rfl⟩
  have hD0 : S0.D = al0 := by rw [hS0]; rfl
  have hb0 : S0.bd = x.1 := by rw [hS0]; rfl
  rw [← hS0]
  refine ct rfl ?_
  refine ct rfl ?_
  refine cf rfl ?_
  refine cf rfl ?_
  refine .mk _ _ (bs3 97 98 99) (fun b1 => ?_)
  refine cvB 1 und22 undU8 rfl ?_
  refine cTd (S := S0) (D' := al1) (code := 0) 0 rfl (fun w1 hs => ?_) (fun S1 hD1 hg1 => ?_)
  · have := append_any S0 [97] [97, 98, 99] (by decide) (by decide) (.slice (some ⟨b1, 0, none⟩) 3 3) w1 (hs.res (k := 0) rfl) (Rd.ent hs 1 rfl rfl rfl) (fun w' _ hw => ent_keep hs 0 rfl (k := 1) (o := 0) (n := 3) (xs := Lib.byteCells [97, 98, 99]) rfl (by decide) rfl rfl w' hw) (by rw [hD0]; decide) (by rw [hD0]; decide) (by rw [hD0]; decide) (by rw [hD0]; decide)
    rw [hD0, al_1, hb0] at this
    exact this
  have hb1 : S1.bd = x.1 := hg1.bd.trans hb0
  refine ct rfl ?_
  refine ct rfl ?_
  refine cTd (S := S1) (D' := al2) (code := 0) 0 rfl (fun w1 hs => ?_) (fun S2 hD2 hg2 => ?_)
  · have := sync_any S1 [97] w1 (hs.res (k := 0) rfl) (by rw [hD1]; decide) (by rw [hD1]; decide)
    rw [hD1, al_2, hb1] at this
    exact this
  have hb2 : S2.bd = x.1 := hg2.bd.trans hb1
  refine ct rfl ?_
  refine cf rfl ?_
  refine ct rfl ?_
  refine ct rfl ?_
  refine .mk _ _ (bs3 100 101 102) (fun b2 => ?_)
  refine ct rfl ?_
  refine cvB 2 und22 undU8 rfl ?_
  refine ct rfl ?_
  refine cTd (S := S2) (D' := al3) (code := 0) 0 rfl (fun w1 hs => ?_) (fun S3 hD3 hg3 => ?_)
  · have := append_any S2 [97] [100, 101, 102] (by decide) (by decide) (.slice (some ⟨b2, 0, none⟩) 3 3) w1 (hs.res (k := 0) rfl) (Rd.ent hs 2 rfl rfl rfl) (fun w' _ hw => ent_keep hs 0 rfl (k := 2) (o := 0) (n := 3) (xs := Lib.byteCells [100, 101, 102]) rfl (by decide) rfl rfl w' hw) (by rw [hD2]; decide) (by rw [hD2]; decide) (by rw [hD2]; decide) (by rw [hD2]; decide)
    rw [hD2, al_3, hb2] at this
    exact this
  have hb3 : S3.bd = x.1 := hg3.bd.trans hb2
  refine ct rfl ?_
  refine cf rfl ?_
  refine cf rfl ?_
  refine cT (α := DkS) (Φ := fun S' => S'.D = al4 ∧ S'.bd = x.1) (v := fun _ => .tuple #[]) (r' := dkR) 0 rfl (fun w1 hs => ?_) (fun S4 hS4 => ?_)
  · have := crash_any S3 1 (by decide) w1 (hs.res (k := 0) rfl)
    rw [hD3, al_4, hb3] at this
    exact this.mono fun e w' ⟨S', ⟨h1, h2, _⟩, he, ht⟩ => ⟨S', ⟨h1, h2⟩, he, ht⟩
  obtain ⟨hD4, hb4⟩ := hS4
  refine coV (n := 4) (z := 1) (xs := Lib.byteCells [97, 98, 99, 100]) (e := 5) (fun v => .tuple #[v, .nilIface]) (fun w1 hs => ?_) (fun r1 hR1 => ?_)
  · have := read_any S4 [97] w1 (hs.res (k := 0) rfl)
    rw [hD4, al_5, hb4] at this
    exact this
  refine ct rfl ?_
  refine ct rfl ?_
  refine semV (fun w1 hs => rd_str (l := [97, 98, 99, 100]) (Rd.own hs 3 rfl hR1)) ?_
  refine ct rfl ?_
  have e1 : ((ByteArray.mk [97, 98, 99, 100].toArray).toList == (ByteArray.mk #[97, 98, 99, 100]).toList) = true := by rw [const_beq]; rfl
  have e2 : (((ByteArray.mk [97, 98, 99, 100].toArray).toList == (ByteArray.mk #[97, 98, 99, 100]).toList) == true) = true := by rw [e1]; rfl
  refine ct rfl ?_
  refine ct e2 ?_
  refine ct e2 ?_
  refine cvs (v := .int .i64 3) (fun w1 hs => ?_) ?_
  · have := steps_any S4 w1 (hs.res (k := 0) rfl)
    rw [hD4, hb4] at this
    exact this
  refine ct e2 ?_
  refine ct e1 ?_
  refine ct rfl ?_
  refine ct rfl ?_
  refine cvs (v := .int .i64 4) (fun w1 hs => ?_) ?_
  · have := sure_any S4 [97] w1 (hs.res (k := 0) rfl)
    rw [hD4, hb4] at this
    exact this
  refine ct rfl ?_
  refine ct rfl ?_
  exact rt rfl
end Go.Proofs.Ytdgkaboaapfnmaa
