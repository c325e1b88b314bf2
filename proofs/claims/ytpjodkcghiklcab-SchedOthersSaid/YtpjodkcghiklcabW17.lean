/- Walks of layer 17: a line's Push, Pop, Remove and List, the program's and the document's, answer as the plain functions say. No condition. -/
import Derived.Test.YtpjodkcghiklcabM17
set_option linter.unusedVariables false
set_option linter.unusedSimpArgs false
namespace Go.Proofs.Ytpjodkcghiklcab
open Go.SL
theorem set_same {c : List Value} {i : Nat} {v : Value} (h : nth c i = some v) : c.set i v = c := by
  apply List.ext_getElem?
  intro j
  rw [nth_eq] at h
  rw [List.getElem?_set]
  split
  · rename_i e; subst e; rw [h]; simp [(List.getElem?_eq_some_iff.1 h).1]
  · rfl

theorem tr_right (x : Int) : TrR Try.prog 39 [.int .i64 x] ([]) (.bool (rightM x)) := by
  refine Tr.enter Try.func39 rfl Try.ntmps39 rfl (fun W F => ?_)
  refine Wp.app ?_
  refine Wp.seq ?_
  refine Wp.region ?_
  refine Ops.pv (pv_assign rfl) rfl ?_
  refine Ops.nil ?_
  refine Ends.seq ?_
  refine Wp.seq ?_
  refine Wp.region ?_
  refine Ops.pv (pv_move rfl) rfl ?_
  refine Ops.pv (pv_geq rfl rfl) rfl ?_
  refine Ops.pv (pv_move rfl) rfl ?_
  first | refine Ops.split (t := 5) rfl (fun h1 => ?_) (fun h1 => ?_) | refine Ops.splitb (t := 5) rfl (fun h1 => ?_) (fun h1 => ?_)
  · refine Ops.pvg ⟨_, _, rfl, rfl, rfl⟩ (pv_move rfl) rfl ?_
    refine Ops.pvg ⟨_, _, rfl, rfl, rfl⟩ (pv_lss rfl rfl) rfl ?_
    refine Ops.pv (pv_pick_true rfl rfl) rfl ?_
    refine Ops.pv (pv_assign rfl) rfl ?_
    refine Ops.nil ?_
    refine Ends.seq ?_
    refine Wp.ret ?_
    exact Ends.ret (res1 rfl rfl) ⟨by simp only [rightM]; simp [*], rfl⟩
  · refine Ops.skipg ⟨_, _, rfl, rfl, rfl⟩ rfl ?_
    refine Ops.skipg ⟨_, _, rfl, rfl, rfl⟩ rfl ?_
    refine Ops.pv (pv_pick_false rfl rfl) rfl ?_
    refine Ops.pv (pv_assign rfl) rfl ?_
    refine Ops.nil ?_
    refine Ends.seq ?_
    refine Wp.ret ?_
    exact Ends.ret (res1 rfl rfl) ⟨by simp only [rightM]; simp [*], rfl⟩

theorem tr_lpushG (lb off TT : Nat) (c0 : List Value) (v : Value) (H : Hp) (l : List Int) (x : Int) (hs : Slc 3 1 v l.length (intsC l) H) (hl : l.length ≤ 2 ^ 30) (hc0 : nth c0 off = some v) : Tr Try.prog 40 [.pointer (some ⟨lb, off, none⟩), .int .i64 x] ((lb, .cells c0.toArray TT) :: H) (fun u L' => u = .int .i64 (pushE l x) ∧ ∃ v' H', Slc 3 1 v' (pushL l x).length (intsC (pushL l x)) H' ∧ L' = (lb, .cells (c0.set off (v') : List Value).toArray TT) :: H') := by
  obtain ⟨a, c, rfl⟩ := hs.form
  have hv := hs.view
  have hset : ∀ v', SetL c0 (off + 0) [v'] (c0.set off v') := fun v' => SetL.set1 (by rw [nth_eq] at hc0; exact (List.getElem?_eq_some_iff.1 hc0).1)
  have hset0 : c0.set off (.slice a l.length c) = c0 := set_same hc0
  refine Tr.enter Try.func40 rfl Try.ntmps40 rfl (fun W F => ?_)
  refine Wp.app ?_
  refine Wp.seq ?_
  refine Wp.region ?_
  refine Ops.pv (pv_assign rfl) rfl ?_
  refine Ops.nil ?_
  refine Ends.seq ?_
  refine Wp.seq ?_
  refine Wp.block ?_
  refine Wp.seq ?_
  refine Wp.region ?_
  refine Ops.pv (pv_move rfl) rfl ?_
  refine Ops.ef rfl (ef_callr (tr_right x) rfl rfl) ?_
  rintro _ _ ⟨rfl, rfl⟩
  first | refine Ops.pv (pv_not_dec rfl) rfl ?_ | refine Ops.pv (pv_not rfl) rfl ?_
  refine Ops.pv (pv_assign rfl) rfl ?_
  refine Ops.nil ?_
  refine Ends.seq ?_
  refine Wp.cond_t rfl (fun h1 => ?_) (fun h1 => ?_)
  · refine Wp.seq ?_
    refine Wp.region ?_
    refine Ops.pv (pv_assign rfl) rfl ?_
    refine Ops.nil ?_
    refine Ends.seq ?_
    refine Wp.ret ?_
    refine Ends.block_ret ?_
    refine Ends.then_ret ?_
    exact Ends.ret (L' := (lb, .cells c0.toArray TT) :: H) (res1 rfl rfl) ⟨by rw [(pushL_range (by simpa using h1)).1], _, H, by rw [(pushL_range (l := l) (by simpa using h1)).2]; exact hs, by rw [hset0]⟩
  · refine Wp.seq ?_
    refine Wp.region ?_
    refine Ops.pv (pv_move rfl) rfl ?_
    first | refine Ops.pv (pv_nilCheck rfl) rfl ?_ | refine Ops.pv (pv_nilCheck_func rfl rfl) rfl ?_
    first | refine Ops.pv (pv_fieldAddr0 rfl rfl) rfl ?_ | refine Ops.pv (pv_fieldAddr rfl rfl) rfl ?_
    first | refine Ops.pv (pv_load rfl rfl rfl) rfl ?_ | refine Ops.pv (pv_load rfl rfl (by assumption)) rfl ?_
    refine Ops.pv (pv_move rfl) rfl ?_
    refine Ops.ef rfl (ef_callr (tr_contains H a c l x hv (by omega)) rfl rfl) ?_
    rintro _ _ ⟨rfl, rfl⟩
    refine Ops.pv (pv_assign rfl) rfl ?_
    refine Ops.nil ?_
    refine Ends.seq ?_
    first | refine Wp.cond_dect rfl (fun h2 => ?_) (fun h2 => ?_) | refine Wp.cond_t rfl (fun h2 => ?_) (fun h2 => ?_)
    · refine Wp.seq ?_
      refine Wp.region ?_
      refine Ops.pv (pv_assign rfl) rfl ?_
      refine Ops.nil ?_
      refine Ends.seq ?_
      refine Wp.ret ?_
      refine Ends.block_ret ?_
      refine Ends.then_ret ?_
      exact Ends.ret (L' := (lb, .cells c0.toArray TT) :: H) (res1 rfl rfl) ⟨by rw [(pushL_twice (by simpa using h1) h2).1], _, H, by rw [(pushL_twice (by simpa using h1) h2).2]; exact hs, by rw [hset0]⟩
    · refine Wp.skip ?_
      refine Ends.block_normal ?_
      refine Ends.seq ?_
      refine Wp.seq ?_
      refine Wp.region ?_
      refine Ops.pv (pv_move rfl) rfl ?_
      refine Ops.pv (pv_move rfl) rfl ?_
      first | refine Ops.pv (pv_nilCheck rfl) rfl ?_ | refine Ops.pv (pv_nilCheck_func rfl rfl) rfl ?_
      first | refine Ops.pv (pv_fieldAddr0 rfl rfl) rfl ?_ | refine Ops.pv (pv_fieldAddr rfl rfl) rfl ?_
      first | refine Ops.pv (pv_load rfl rfl rfl) rfl ?_ | refine Ops.pv (pv_load rfl rfl (by assumption)) rfl ?_
      refine Ops.pv (pv_move rfl) rfl ?_
      refine Ops.ef rfl (ef_buildSlice1 (k := 1) rfl rfl rfl rfl rfl) ?_
      rintro _ _ ⟨b1, rfl, rfl⟩
      refine Ops.ef rfl (ef_append (H := H) (xs := [.int .i64 x]) rfl hs rfl ⟨rfl, trivial⟩ rfl rfl rfl (by omega) (by omega) rfl rfl) ?_
      rintro _ _ ⟨v1, H1, hs1, rfl, rfl⟩
      refine Ops.app ?_
      have ho1 := hs1.one
      have ho2 := hs1.cells1
      first | refine Ops.pv (pv_nilCheck rfl) rfl ?_ | refine Ops.pv (pv_nilCheck_func rfl rfl) rfl ?_
      first | refine Ops.pv (pv_fieldAddr0 rfl rfl) rfl ?_ | refine Ops.pv (pv_fieldAddr rfl rfl) rfl ?_
      refine Ops.ef rfl (ef_store1 rfl rfl (by first | rfl | assumption) (by first | rfl | assumption)) ?_
      rintro _ _ ⟨rfl, rfl⟩
      refine Ops.nil ?_
      refine Ends.seq ?_
      refine Wp.seq ?_
      refine Wp.region ?_
      refine Ops.pv (pv_assign rfl) rfl ?_
      refine Ops.nil ?_
      refine Ends.seq ?_
      refine Wp.ret ?_
      rw [show l.length + 1 = (pushL l x).length by rw [(pushL_ok (by simpa using h1) h2).2]; simp, show intsC l ++ [.int .i64 x] = intsC (pushL l x) by rw [(pushL_ok (by simpa using h1) h2).2, intsC_app]; rfl] at hs1
      exact Ends.ret (L' := (lb, .cells (c0.set off (v1) : List Value).toArray TT) :: H1) (res1 rfl rfl) ⟨by rw [(pushL_ok (by simpa using h1) h2).1], v1, H1, hs1, rfl⟩

theorem tr_lremoveG (lb off TT : Nat) (c0 : List Value) (v : Value) (H : Hp) (l : List Int) (x : Int) (hs : Slc 3 1 v l.length (intsC l) H) (hl : l.length ≤ 2 ^ 30) (hc0 : nth c0 off = some v) : Tr Try.prog 43 [.pointer (some ⟨lb, off, none⟩), .int .i64 x] ((lb, .cells c0.toArray TT) :: H) (fun u L' => u = .bool (remB l x) ∧ ∃ v' H', Slc 3 1 v' (remL l x).length (intsC (remL l x)) H' ∧ L' = (lb, .cells (c0.set off (v') : List Value).toArray TT) :: H') := by
  obtain ⟨a, c, rfl⟩ := hs.form
  have hv := hs.view
  have hset : ∀ v', SetL c0 (off + 0) [v'] (c0.set off v') := fun v' => SetL.set1 (by rw [nth_eq] at hc0; exact (List.getElem?_eq_some_iff.1 hc0).1)
  have hset0 : c0.set off (.slice a l.length c) = c0 := set_same hc0
  have hlc : l.length ≤ c := by obtain ⟨_, _, _, e, h, _⟩ := hv; cases e; exact h
  refine Tr.enter Try.func43 rfl Try.ntmps43 rfl (fun W F => ?_)
  refine Wp.app ?_
  refine Wp.seq ?_
  refine Wp.region ?_
  refine Ops.pv (pv_assign rfl) rfl ?_
  refine Ops.nil ?_
  refine Ends.seq ?_
  refine Wp.seq ?_
  refine Wp.region ?_
  refine Ops.pv (pv_move rfl) rfl ?_
  first | refine Ops.pv (pv_nilCheck rfl) rfl ?_ | refine Ops.pv (pv_nilCheck_func rfl rfl) rfl ?_
  first | refine Ops.pv (pv_fieldAddr0 rfl rfl) rfl ?_ | refine Ops.pv (pv_fieldAddr rfl rfl) rfl ?_
  first | refine Ops.pv (pv_load rfl rfl rfl) rfl ?_ | refine Ops.pv (pv_load rfl rfl (by assumption)) rfl ?_
  refine Ops.pv (pv_move rfl) rfl ?_
  refine Ops.ef rfl (ef_callr (tr_index H a c l x hv (by omega)) rfl rfl) ?_
  rintro _ _ ⟨rfl, rfl⟩
  refine Ops.pv (pv_assign rfl) rfl ?_
  refine Ops.nil ?_
  refine Ends.seq ?_
  refine Wp.seq ?_
  refine Wp.seq ?_
  refine Wp.region ?_
  refine Ops.pv (pv_move rfl) rfl ?_
  refine Ops.pv (pv_lss rfl rfl) rfl ?_
  refine Ops.nil ?_
  refine Ends.seq ?_
  first | refine Wp.cond_dect rfl (fun h1 => ?_) (fun h1 => ?_) | refine Wp.cond_t rfl (fun h1 => ?_) (fun h1 => ?_)
  · refine Wp.seq ?_
    refine Wp.region ?_
    refine Ops.pv (pv_assign rfl) rfl ?_
    refine Ops.nil ?_
    refine Ends.seq ?_
    refine Wp.ret ?_
    refine Ends.then_ret ?_
    exact Ends.ret (L' := (lb, .cells c0.toArray TT) :: H) (res1 rfl rfl) ⟨by rw [show remB l x = false from decide_eq_false (by omega)], _, H, by rw [show remL l x = l from if_neg (by omega)]; exact hs, by rw [hset0]⟩
  · obtain ⟨i, hi⟩ : ∃ i : Nat, idxM l x = i := ⟨(idxM l x).toNat, by omega⟩
    have hil : i < l.length := by have := idx_lt l x; omega
    rw [hi]
    have hA := view_part hv (i := 0) (j := i) (Nat.zero_le _) (by omega)
    have hB := view_part hv (i := i + 1) (j := l.length) (by omega) (Nat.le_refl _)
    have eA : (l.drop 0).take (i - 0) = l.take i := by simp
    have eB : (l.drop (i + 1)).take (l.length - (i + 1)) = l.drop (i + 1) := List.take_of_length_le (by simp)
    have lA := part_len (l := l) (i := 0) (j := i) (Nat.zero_le _) (by omega)
    have lB := part_len (l := l) (i := i + 1) (j := l.length) (by omega) (Nat.le_refl _)
    rw [eA] at hA lA
    rw [eB] at hB lB
    have hrem : remL l x = l.take i ++ l.drop (i + 1) := by unfold remL; rw [if_pos (by omega), hi, Int.toNat_natCast]
    have hrb : remB l x = true := decide_eq_true (by omega)
    refine Wp.skip ?_
    refine Ends.seq ?_
    refine Wp.seq ?_
    refine AnyH.start H 19 rfl ?_
    refine AnyH.take 0 rfl (by kernel_rfl) (by kernel_rfl) (by kernel_rfl) PF.pf rfl (pv_move rfl) rfl ?_
    refine AnyH.take 1 rfl (by kernel_rfl) (by kernel_rfl) (by kernel_rfl) PF.pf rfl (pv_move rfl) rfl ?_
    first | refine AnyH.take 2 rfl (by kernel_rfl) (by kernel_rfl) (by kernel_rfl) PF.pf rfl (pv_nilCheck rfl) rfl ?_ | refine AnyH.take 2 rfl (by kernel_rfl) (by kernel_rfl) (by kernel_rfl) PF.pf rfl (pv_nilCheck_func rfl rfl) rfl ?_
    first | refine AnyH.take 3 rfl (by kernel_rfl) (by kernel_rfl) (by kernel_rfl) PF.pf rfl (pv_fieldAddr0 rfl rfl) rfl ?_ | refine AnyH.take 3 rfl (by kernel_rfl) (by kernel_rfl) (by kernel_rfl) PF.pf rfl (pv_fieldAddr rfl rfl) rfl ?_
    refine AnyH.take 5 rfl (by kernel_rfl) (by kernel_rfl) (by kernel_rfl) PF.pf rfl (pv_move rfl) rfl ?_
    refine AnyH.take 7 rfl (by kernel_rfl) (by kernel_rfl) (by kernel_rfl) PF.pf rfl (pv_move rfl) rfl ?_
    first | refine AnyH.take 8 rfl (by kernel_rfl) (by kernel_rfl) (by kernel_rfl) PF.pf rfl (pv_nilCheck rfl) rfl ?_ | refine AnyH.take 8 rfl (by kernel_rfl) (by kernel_rfl) (by kernel_rfl) PF.pf rfl (pv_nilCheck_func rfl rfl) rfl ?_
    first | refine AnyH.take 9 rfl (by kernel_rfl) (by kernel_rfl) (by kernel_rfl) PF.pf rfl (pv_fieldAddr0 rfl rfl) rfl ?_ | refine AnyH.take 9 rfl (by kernel_rfl) (by kernel_rfl) (by kernel_rfl) PF.pf rfl (pv_fieldAddr rfl rfl) rfl ?_
    refine AnyH.take 11 rfl (by kernel_rfl) (by kernel_rfl) (by kernel_rfl) PF.pf rfl (pv_move rfl) rfl ?_
    refine AnyH.take 12 rfl (by kernel_rfl) (by kernel_rfl) (by kernel_rfl) PF.pf rfl (pv_add rfl rfl (w64n (k := i + 1) (by omega) (by omega))) rfl ?_
    refine AnyH.two 4 10 (by kernel_rfl) ?_ ?_
    · first | refine Turn.ef rfl rfl (ef_pv (pv_load rfl rfl rfl) rfl) ?_ ?_ | refine Turn.ef rfl rfl (ef_pv (pv_load rfl rfl (by assumption)) rfl) ?_ ?_
      · rintro _ _ ⟨rfl, rfl⟩; infer_instance
      rintro _ _ ⟨rfl, rfl⟩
      refine AnyH.take 6 rfl (by kernel_rfl) (by kernel_rfl) (by kernel_rfl) PF.pf rfl (pv_sliceL (i := 0) (j := i) rfl rfl ⟨_, rfl⟩ (Nat.zero_le _) (by omega) lA.symm) rfl ?_
      refine AnyH.one 10 (by kernel_rfl) ?_
      first | refine Turn.ef rfl rfl (ef_pv (pv_load rfl rfl rfl) rfl) ?_ ?_ | refine Turn.ef rfl rfl (ef_pv (pv_load rfl rfl (by assumption)) rfl) ?_ ?_
      · rintro _ _ ⟨rfl, rfl⟩; infer_instance
      rintro _ _ ⟨rfl, rfl⟩
      refine AnyH.take 13 rfl (by kernel_rfl) (by kernel_rfl) (by kernel_rfl) PF.pf rfl (pv_sliceL (i := i + 1) (j := l.length) rfl ⟨_, rfl⟩ rfl (by omega) hlc lB.symm) rfl ?_
      refine AnyH.one 14 (by kernel_rfl) ?_
      refine Turn.ef rfl rfl (ef_buildSlice2 rfl rfl rfl rfl rfl rfl) ?_ ?_
      · rintro _ _ ⟨b1, rfl, rfl⟩; infer_instance
      rintro _ _ ⟨b1, rfl, rfl⟩
      refine AnyH.one 15 (by kernel_rfl) ?_
      refine Turn.ef rfl rfl (ef_call (tr_concat2 H b1 2 (if c = 0 then a else a.map (·.add (0 * 1))) (if c = i + 1 then a else a.map (·.add ((i + 1) * 1))) (c - 0) (c - (i + 1)) (l.take i) (l.drop (i + 1)) hA hB (by simp; omega)) rfl rfl) ?_ ?_
      · rintro _ _ ⟨_, _, ⟨H1, hs1, rfl⟩, rfl, rfl⟩; infer_instance
      rintro _ _ ⟨_, _, ⟨H1, hs1, rfl⟩, rfl, rfl⟩
      refine AnyH.app ?_
      have ho1 := hs1.one
      have ho2 := hs1.cells1
      first | refine AnyH.take 16 rfl (by kernel_rfl) (by kernel_rfl) (by kernel_rfl) PF.pf rfl (pv_nilCheck rfl) rfl ?_ | refine AnyH.take 16 rfl (by kernel_rfl) (by kernel_rfl) (by kernel_rfl) PF.pf rfl (pv_nilCheck_func rfl rfl) rfl ?_
      first | refine AnyH.take 17 rfl (by kernel_rfl) (by kernel_rfl) (by kernel_rfl) PF.pf rfl (pv_fieldAddr0 rfl rfl) rfl ?_ | refine AnyH.take 17 rfl (by kernel_rfl) (by kernel_rfl) (by kernel_rfl) PF.pf rfl (pv_fieldAddr rfl rfl) rfl ?_
      refine AnyH.one 18 (by kernel_rfl) ?_
      refine Turn.ef rfl rfl (ef_store1 rfl rfl (by first | rfl | assumption) (by first | rfl | assumption)) ?_ ?_
      · rintro _ _ ⟨rfl, rfl⟩; infer_instance
      rintro _ _ ⟨rfl, rfl⟩
      refine AnyH.done (by kernel_rfl) ?_
      refine Ends.seq ?_
      refine Wp.seq ?_
      refine Wp.region ?_
      refine Ops.pv (pv_assign rfl) rfl ?_
      refine Ops.nil ?_
      refine Ends.seq ?_
      refine Wp.ret ?_
      rw [← hrem] at hs1
      exact Ends.ret (L' := (lb, .cells (c0.set off _ : List Value).toArray TT) :: H1) (res1 rfl rfl) ⟨by rw [hrb], _, H1, hs1, rfl⟩
    · first | refine Turn.ef rfl rfl (ef_pv (pv_load rfl rfl rfl) rfl) ?_ ?_ | refine Turn.ef rfl rfl (ef_pv (pv_load rfl rfl (by assumption)) rfl) ?_ ?_
      · rintro _ _ ⟨rfl, rfl⟩; infer_instance
      rintro _ _ ⟨rfl, rfl⟩
      refine AnyH.take 13 rfl (by kernel_rfl) (by kernel_rfl) (by kernel_rfl) PF.pf rfl (pv_sliceL (i := i + 1) (j := l.length) rfl ⟨_, rfl⟩ rfl (by omega) hlc lB.symm) rfl ?_
      refine AnyH.one 4 (by kernel_rfl) ?_
      first | refine Turn.ef rfl rfl (ef_pv (pv_load rfl rfl rfl) rfl) ?_ ?_ | refine Turn.ef rfl rfl (ef_pv (pv_load rfl rfl (by assumption)) rfl) ?_ ?_
      · rintro _ _ ⟨rfl, rfl⟩; infer_instance
      rintro _ _ ⟨rfl, rfl⟩
      refine AnyH.take 6 rfl (by kernel_rfl) (by kernel_rfl) (by kernel_rfl) PF.pf rfl (pv_sliceL (i := 0) (j := i) rfl rfl ⟨_, rfl⟩ (Nat.zero_le _) (by omega) lA.symm) rfl ?_
      refine AnyH.one 14 (by kernel_rfl) ?_
      refine Turn.ef rfl rfl (ef_buildSlice2 rfl rfl rfl rfl rfl rfl) ?_ ?_
      · rintro _ _ ⟨b2, rfl, rfl⟩; infer_instance
      rintro _ _ ⟨b2, rfl, rfl⟩
      refine AnyH.one 15 (by kernel_rfl) ?_
      refine Turn.ef rfl rfl (ef_call (tr_concat2 H b2 2 (if c = 0 then a else a.map (·.add (0 * 1))) (if c = i + 1 then a else a.map (·.add ((i + 1) * 1))) (c - 0) (c - (i + 1)) (l.take i) (l.drop (i + 1)) hA hB (by simp; omega)) rfl rfl) ?_ ?_
      · rintro _ _ ⟨_, _, ⟨H2, hs2, rfl⟩, rfl, rfl⟩; infer_instance
      rintro _ _ ⟨_, _, ⟨H2, hs2, rfl⟩, rfl, rfl⟩
      refine AnyH.app ?_
      have ho1 := hs2.one
      have ho2 := hs2.cells1
      first | refine AnyH.take 16 rfl (by kernel_rfl) (by kernel_rfl) (by kernel_rfl) PF.pf rfl (pv_nilCheck rfl) rfl ?_ | refine AnyH.take 16 rfl (by kernel_rfl) (by kernel_rfl) (by kernel_rfl) PF.pf rfl (pv_nilCheck_func rfl rfl) rfl ?_
      first | refine AnyH.take 17 rfl (by kernel_rfl) (by kernel_rfl) (by kernel_rfl) PF.pf rfl (pv_fieldAddr0 rfl rfl) rfl ?_ | refine AnyH.take 17 rfl (by kernel_rfl) (by kernel_rfl) (by kernel_rfl) PF.pf rfl (pv_fieldAddr rfl rfl) rfl ?_
      refine AnyH.one 18 (by kernel_rfl) ?_
      refine Turn.ef rfl rfl (ef_store1 rfl rfl (by first | rfl | assumption) (by first | rfl | assumption)) ?_ ?_
      · rintro _ _ ⟨rfl, rfl⟩; infer_instance
      rintro _ _ ⟨rfl, rfl⟩
      refine AnyH.done (by kernel_rfl) ?_
      refine Ends.seq ?_
      refine Wp.seq ?_
      refine Wp.region ?_
      refine Ops.pv (pv_assign rfl) rfl ?_
      refine Ops.nil ?_
      refine Ends.seq ?_
      refine Wp.ret ?_
      rw [← hrem] at hs2
      exact Ends.ret (L' := (lb, .cells (c0.set off _ : List Value).toArray TT) :: H2) (res1 rfl rfl) ⟨by rw [hrb], _, H2, hs2, rfl⟩

theorem tr_lpush (lb : Nat) (v : Value) (H : Hp) (l : List Int) (x : Int) (hs : Slc 3 1 v l.length (intsC l) H) (hl : l.length ≤ 2 ^ 30) : Tr Try.prog 40 [.pointer (some ⟨lb, 0, none⟩), .int .i64 x] ((lb, .cells [v].toArray 70) :: H) (fun u L' => u = .int .i64 (pushE l x) ∧ ∃ v' H', Slc 3 1 v' (pushL l x).length (intsC (pushL l x)) H' ∧ L' = (lb, .cells [v'].toArray 70) :: H') :=
  tr_lpushG lb 0 70 [v] v H l x hs hl rfl

theorem tr_lremove (lb : Nat) (v : Value) (H : Hp) (l : List Int) (x : Int) (hs : Slc 3 1 v l.length (intsC l) H) (hl : l.length ≤ 2 ^ 30) : Tr Try.prog 43 [.pointer (some ⟨lb, 0, none⟩), .int .i64 x] ((lb, .cells [v].toArray 70) :: H) (fun u L' => u = .bool (remB l x) ∧ ∃ v' H', Slc 3 1 v' (remL l x).length (intsC (remL l x)) H' ∧ L' = (lb, .cells [v'].toArray 70) :: H') :=
  tr_lremoveG lb 0 70 [v] v H l x hs hl rfl

theorem tr_listG (lb off TT : Nat) (c0 : List Value) (G : Hp) (a : Option Addr) (c : Nat) (l : List Int) (hv : View G 1 (.slice a l.length c) l.length (intsC l)) (hl : l.length ≤ 2 ^ 30) (hc0 : nth c0 off = some (.slice a l.length c)) : Tr Try.prog 46 [.pointer (some ⟨lb, off, none⟩)] ((lb, .cells c0.toArray TT) :: G) (fun u L' => ∃ H', Slc 3 1 u l.length (intsC l) H' ∧ L' = H' ++ ((lb, .cells c0.toArray TT) :: G)) := by
  refine Tr.enter Try.func46 rfl Try.ntmps46 rfl (fun W F => ?_)
  refine Wp.app ?_
  refine Wp.seq ?_
  refine Wp.region ?_
  refine Ops.pv (pv_assign rfl) rfl ?_
  refine Ops.nil ?_
  refine Ends.seq ?_
  refine Wp.seq ?_
  refine Wp.region ?_
  refine Ops.pv (pv_move rfl) rfl ?_
  first | refine Ops.pv (pv_nilCheck rfl) rfl ?_ | refine Ops.pv (pv_nilCheck_func rfl rfl) rfl ?_
  first | refine Ops.pv (pv_fieldAddr0 rfl rfl) rfl ?_ | refine Ops.pv (pv_fieldAddr rfl rfl) rfl ?_
  first | refine Ops.pv (pv_load rfl rfl rfl) rfl ?_ | refine Ops.pv (pv_load rfl rfl (by assumption)) rfl ?_
  refine Ops.ef rfl (ef_call (tr_clone G a c l hv (by omega)) rfl rfl) ?_
  rintro _ _ ⟨_, _, ⟨H1, hs1, rfl⟩, rfl, rfl⟩
  refine Ops.app ?_
  skip
  refine Ops.pv (pv_assign rfl) rfl ?_
  refine Ops.nil ?_
  refine Ends.seq ?_
  refine Wp.ret ?_
  exact Ends.ret (L' := H1 ++ ((lb, .cells c0.toArray TT) :: G)) (res1 rfl rfl) ⟨H1, hs1, rfl⟩

theorem tr_list (lb : Nat) (v : Value) (H : Hp) (l : List Int) (hs : Slc 3 1 v l.length (intsC l) H) (hl : l.length ≤ 2 ^ 30) : Tr Try.prog 46 [.pointer (some ⟨lb, 0, none⟩)] ((lb, .cells [v].toArray 70) :: H) (fun u L' => ∃ H', Slc 3 1 u l.length (intsC l) H' ∧ L' = H' ++ ((lb, .cells [v].toArray 70) :: H)) := by
  obtain ⟨a, c, rfl⟩ := hs.form
  exact tr_listG lb 0 70 [.slice a l.length c] H a c l hs.view hl rfl

end Go.Proofs.Ytpjodkcghiklcab
