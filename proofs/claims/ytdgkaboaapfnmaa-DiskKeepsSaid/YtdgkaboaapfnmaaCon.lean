/- slices.Grow from nil, slices.Concat: rows of bytes. -/
import Derived.Test.YtdgkaboaapfnmaaNmB
namespace Go.Proofs.Ytdgkaboaapfnmaa
open Go.RowKit Go.Sx
set_option linter.unusedVariables false

theorem undI : Try.prog.underlying 3 = some (.int .i64) := by kernel_rfl
theorem run_zeros (w : World) (n : Nat) (h0 : 0 < n) (h1 : n ≤ 140737488355328) : ∃ c, n ≤ c ∧ c ≤ maxLen ∧ (Builtin.append_ #[31, 3] 31 #[.slice none 0 0, .int .i64 n]).run Try.prog w = .ok (.slice (some ⟨w.heap.size, 0, none⟩) n c) (w.drew.alloc (.cells (List.replicate c (.int .u8 0)).toArray 5)) := by
  refine ⟨grownCap w n 0 5, grownCap_ge w n 0 5, grownCap_le_maxLen w n 0 5 (by unfold maxLen; omega), ?_⟩
  have hge := grownCap_ge w n 0 5
  obtain ⟨i0, hi, hz, hs, hb⟩ := infoOf info5
  have hn : n ≠ 0 := by omega
  have hw : IntKind.i64.wrap (n : Int) = n := by rw [IntKind.wrap_i64]; omega
  have h63' : ¬ (9223372036854775807 < ((n : Int))) := by omega
  have h48' : ¬ (281474976710656 < Builtin.nextslicecap n 0 * i0.bytes) := by rw [hb]; simp [Builtin.nextslicecap, h0]; omega
  have h48i : ¬ (281474976710656 < (n : Int) * (i0.bytes : Int)) := by rw [hb]; omega
  have hneg : ¬ ((n : Int) < 0) := by omega
  have zc : ∀ k, Builtin.zeroCells #[Value.int .u8 0] k = (List.replicate k (.int .u8 0)).toArray := fun k => by
    apply Array.ext'
    simp only [Builtin.zeroCells, Array.toList_map, Array.toList_range, List.size_toArray, List.length_singleton, Nat.mul_one, Nat.mod_one]
    exact List.map_const' .. |>.trans (by simp)
  have hz' : (Builtin.zeroCells #[Value.int .u8 0] n ++ Builtin.zeroCells #[Value.int .u8 0] (grownCap w n 0 5 - n)) = (List.replicate (grownCap w n 0 5) (.int .u8 0)).toArray := by
    rw [zc, zc, List.append_toArray, List.replicate_append_replicate, Nat.add_sub_cancel' hge]
  simp [Builtin.append_, run_underlying und22, run_underlying undI, sizeOf, typeInfo, zeroValue, hi, hz, hs, hn, hw, h63', h48', h48i, hneg, asInt, asIntOf, Question.forced, newRow, run_firstCells_none]
  have hz2 : (Array.replicate (grownCap w n 0 5) (Value.int .u8 0)) = (List.replicate (grownCap w n 0 5) (.int .u8 0)).toArray := by simp
  refine ⟨rfl, ?_⟩
  rw [hz2, ← hz']
  rfl
/-- room for n bytes -/
theorem grow_any (n : Nat) (hn : n ≤ 100000000) (w : World) :
    Calls Try.prog 64 ([.slice none 0 0, .int .i64 n] : List Value).toArray w fun e w' => ∃ r, e = .returned (sv r 0) ∧ Rw 1 0 r [] ∧ Made w w' r [] 5 ∧ Below w.heap.size w w' := by
  have hz := fun w h0 => run_zeros w n h0 (by omega)
  refine (enter tab_ok Try.func64 rfl Try.ntmps64 rfl (St.start w) (R := fun v w' => ∃ r, v = sv r 0 ∧ Rw 1 0 r [] ∧ Made w w' r [] 5 ∧ Below w.heap.size w w') ?_).mono (fun e w' ⟨v, he, r, hv, h⟩ => ⟨r, by rw [he, hv], h⟩)
  refine cf (by simp) ?_
  refine .as 0 (by omega) (by decide) (by decide) ?_
  refine .as n (by omega) (by simp only [mn]; omega) (by simp only [mx]; omega) ?_
  refine cd (fun h => ?_) (fun h => ?_)
  · have hn0 : 0 < n := by omega
    refine ⟨.mk 0 0 0 rfl rfl rfl (by decide) (by decide) (by decide) (by simp) ?_⟩
    refine apRun fun w' hs => ?_
    refine (hz w' hn0).elim fun c h => ?_
    refine ⟨_, _, _, h.2.2, hs.drew.alloc _, ?_⟩
    have h1 := h.1
    have h2 := h.2.1
    clear h
    refine ⟨.mk 0 0 c rfl rfl rfl (by decide) (by omega) (by omega) (by simp) (.on (by omega) ?_)⟩
    refine ⟨fun w1 hs1 => ⟨some (w'.heap.size, c, List.replicate c (.int .u8 0)), rfl, ⟨rfl, by omega, h2, by simp⟩, ?_, hs1.below⟩⟩
    exact made_of (r := some (w'.heap.size, c, List.replicate c (.int .u8 0))) hs1 rfl 0 rfl
  · refine ⟨fun w1 hs1 => ⟨none, rfl, Rw.nil 1, fun _ _ _ h => (by cases h), hs1.below⟩⟩
/-- the first k of some rows, one behind the other -/
def flat (xss : List (List Value)) (k : Nat) : List Value := (xss.take k).flatten
theorem flat_succ (xss : List (List Value)) (k : Nat) (h : k < xss.length) : flat xss (k + 1) = flat xss k ++ xss[k] := by
  unfold flat
  rw [List.take_succ_eq_append_getElem h, List.flatten_append]; simp
theorem flat_len_le (xss : List (List Value)) (k : Nat) : (flat xss k).length ≤ xss.flatten.length := by
  unfold flat
  conv => rhs; rw [← List.take_append_drop k xss]
  rw [List.flatten_append, List.length_append]; omega
theorem flat_all (xss : List (List Value)) : flat xss xss.length = xss.flatten := by simp [flat]
set_option maxRecDepth 100000 in
/-- rows of bytes, one behind the other -/
theorem concat_any (pb po kc : Nat) (vs : List Value) (xss : List (List Value)) (hlen : vs.length = xss.length) (w : World) (hpb : pb < w.heap.size) (hp : ∀ (i : Nat) (u : Value), vs[i]? = some u → w.cell? ⟨pb, po + i, none⟩ = some u)
    (hx : ∀ (i : Nat) (v : Value) (xs : List Value), vs[i]? = some v → xss[i]? = some xs → Rd w v xs) (h1 : ∀ xs ∈ xss, ∀ u ∈ xs, u.oneCell' = true) (hn : xss.flatten.length ≤ 100000000) (hk : xss.length ≤ 1000) :
    Calls Try.prog 47 ([.slice (some ⟨pb, po, none⟩) xss.length kc] : List Value).toArray w fun e w' => ∃ r, e = .returned (sv r xss.flatten.length) ∧ Rw 1 xss.flatten.length r xss.flatten ∧ Made w w' r xss.flatten 5 ∧ Below w.heap.size w w' := by
  have hg := fun w => grow_any xss.flatten.length hn w
  refine (enter tab_ok Try.func47 rfl Try.ntmps47 rfl (St.start w) (R := fun v w' => ∃ r, v = sv r xss.flatten.length ∧ Rw 1 xss.flatten.length r xss.flatten ∧ Made w w' r xss.flatten 5 ∧ Below w.heap.size w w') ?_).mono (fun e w' ⟨v, he, r, hv, h⟩ => ⟨r, by rw [he, hv], h⟩)
  refine lp tab_ok (fun i : Nat => i ≤ xss.length) (fun i => ⟨[(0, .slice (some ⟨pb, po, none⟩) xss.length kc), (3, .int .i64 (flat xss i).length), (9, .slice (some ⟨pb, po, none⟩) xss.length kc), (10, .int .i64 xss.length), (11, .int .i64 i)], [], []⟩) (fun i => xss.length - i) 0 (Nat.zero_le _) ⟨⟨rfl, rfl, rfl, rfl, rfl, trivial⟩, .nil, rfl⟩ ?_
  intro i hi
  refine cd (fun h => ?_) (fun h => ?_)
  · have hlt : i < xss.length := by omega
    obtain ⟨a, c, hv, _⟩ := hx i vs[i] xss[i] (by simp [hlen, hlt]) (by simp [hlt])
    have hle := flat_len_le xss (i + 1)
    have hsucc := flat_succ xss i hlt
    refine ⟨by omega, by omega, ?_⟩
    refine ldo (v := .slice a xss[i].length c) (by rw [← hv, nad_eq, nmu_eq]; simpa using hp i _ (by simp [hlen, hlt])) hpb ?_
    refine .as ((flat xss (i + 1)).length : Int) (by rw [hsucc, List.length_append]; omega) (by simp only [mn]; omega) (by simp only [mx]; omega) ?_
    refine cf (by simp) ?_
    refine .as ((i + 1 : Nat) : Int) (by omega) (by simp only [mn]; omega) (by simp only [mx]; omega) ?_
    exact ⟨i + 1, by omega, by omega, ⟨⟨rfl, rfl, rfl, rfl, rfl, trivial⟩, .nil, rfl⟩⟩
  · obtain rfl : i = xss.length := by omega
    rw [flat_all]
    refine co (fun w _ => hg w) (fun r hr => ?_)
    refine lp tab_ok (fun x : Nat × Sx.Own => x.1 ≤ xss.length ∧ Rw 1 (flat xss x.1).length x.2 (flat xss x.1)) (fun x => ⟨[(6, sv x.2 (flat xss x.1).length), (25, .slice (some ⟨pb, po, none⟩) xss.length kc), (26, .int .i64 xss.length), (27, .int .i64 x.1)], [se x.2 (flat xss x.1) 5], []⟩) (fun x => xss.length - x.1) (0, r) ⟨Nat.zero_le _, hr⟩ ⟨⟨rfl, rfl, rfl, rfl, trivial⟩, .cons .nil, rfl⟩ ?_
    rintro ⟨i, r⟩ ⟨hi, hR⟩
    refine cd (fun h => ?_) (fun h => ?_)
    · have hlt : i < xss.length := by simp only at h; omega
      have hrd := hx i vs[i] xss[i] (by simp [hlen, hlt]) (by simp [hlt])
      obtain ⟨a, c, hv, _⟩ := hx i vs[i] xss[i] (by simp [hlen, hlt]) (by simp [hlt])
      have hle := flat_len_le xss (i + 1)
      have hsucc := flat_succ xss i hlt
      have hsl := congrArg List.length hsucc
      rw [List.length_append] at hsl
      refine ⟨by omega, by omega, ?_⟩
      refine ldo (v := .slice a xss[i].length c) (by rw [← hv, nad_eq, nmu_eq]; simpa using hp i _ (by simp [hlen, hlt])) hpb ?_
      refine ap (n := (flat xss i).length) (m := xss[i].length) (news := xss[i]) 0 tab_ok rfl info5 rfl rfl hR (fun w' hs => ?_) (by omega) (by unfold maxLen; omega) (fun r' hR' => ?_)
      · rw [← hv]; exact (hrd.below hs.below).src und22 (h1 _ (List.getElem_mem hlt))
      · refine .as ((i + 1 : Nat) : Int) (by simp only; omega) (by simp only [mn]; omega) (by simp only [mx]; omega) ?_
        rw [← hsl, ← hsucc] at *
        exact ⟨(i + 1, r'), ⟨by omega, hR'⟩, by simp only; omega, ⟨⟨rfl, rfl, rfl, rfl, trivial⟩, .cons .nil, rfl⟩⟩
    · obtain rfl : i = xss.length := by simp only at h hi; omega
      simp only [flat_all] at hR ⊢
      refine ⟨fun w1 hs1 => ⟨r, rfl, hR, made_of hs1 rfl 0 rfl, hs1.below⟩⟩
end Go.Proofs.Ytdgkaboaapfnmaa
