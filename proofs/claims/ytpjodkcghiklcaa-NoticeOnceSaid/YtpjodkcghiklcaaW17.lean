/- Walks of layer 17: a line's Push, Pop, Remove and List, the program's and the document's, answer as the plain functions say. No condition. -/
import Derived.Test.YtpjodkcghiklcaaM17
set_option linter.unusedVariables false
set_option linter.unusedSimpArgs false
namespace Go.Proofs.Ytpjodkcghiklcaa
open Go.SL
theorem set_same {c : List Value} {i : Nat} {v : Value} (h : nth c i = some v) : c.set i v = c := by
  apply List.ext_getElem?
  intro j
  rw [nth_eq] at h
  rw [List.getElem?_set]
  split
  · rename_i e; subst e; rw [h]; simp [(List.getElem?_eq_some_iff.1 h).1]
  · rfl

theorem tr_right (x : Int) : TrR Try.prog 63 [.int .i64 x] ([]) (.bool (rightM x)) := by
  refine Tr.enter Try.func63 rfl Try.ntmps63 rfl (fun W F => ?_)
  refine Wp.app ?_
  refine Wp.seq ?_
  refine Wp.region ?_
  refine Ops.pv (pv_assign rfl) rfl ?_
  refine Ops.nil ?_
  refine Ends.seq ?_
  refine Wp.seq ?_
  refine Wp.region ?_
  refine Ops.pv (pv_move rfl) rfl ?_
  refine Ops.pv (pv_geq rfl rfl) rfl ?_
  refine Ops.pv (pv_move rfl) rfl ?_
  first | refine Ops.split (t := 5) rfl (fun h1 => ?_) (fun h1 => ?_) | refine Ops.splitb (t := 5) rfl (fun h1 => ?_) (fun h1 => ?_)
  · refine Ops.pvg ⟨_, _, rfl, rfl, rfl⟩ (pv_move rfl) rfl ?_
    refine Ops.pvg ⟨_, _, rfl, rfl, rfl⟩ (pv_lss rfl rfl) rfl ?_
    refine Ops.pv (pv_pick_true rfl rfl) rfl ?_
    refine Ops.pv (pv_assign rfl) rfl ?_
    refine Ops.nil ?_
    refine Ends.seq ?_
    refine Wp.ret ?_
    exact Ends.ret (res1 rfl rfl) ⟨by simp only [rightM]; simp [*], rfl⟩
  · refine Ops.skipg ⟨_, _, rfl, rfl, rfl⟩ rfl ?_
    refine Ops.skipg ⟨_, _, rfl, rfl, rfl⟩ rfl ?_
    refine Ops.pv (pv_pick_false rfl rfl) rfl ?_
    refine Ops.pv (pv_assign rfl) rfl ?_
    refine Ops.nil ?_
    refine Ends.seq ?_
    refine Wp.ret ?_
    exact Ends.ret (res1 rfl rfl) ⟨by simp only [rightM]; simp [*], rfl⟩

theorem tr_lpushG (lb off TT : Nat) (c0 : List Value) (v : Value) (H : Hp) (l : List Int) (x : Int) (hs : Slc 3 1 v l.length (intsC l) H) (hl : l.length ≤ 2 ^ 30) (hc0 : nth c0 off = some v) : Tr Try.prog 16 [.pointer (some ⟨lb, off, none⟩), .int .i64 x] ((lb, .cells c0.toArray TT) :: H) (fun u L' => u = .int .i64 (pushE l x) ∧ ∃ v' H', Slc 3 1 v' (pushL l x).length (intsC (pushL l x)) H' ∧ L' = (lb, .cells (c0.set off (v') : List Value).toArray TT) :: H') := by
  obtain ⟨a, c, rfl⟩ := hs.form
  have hv := hs.view
  have hset : ∀ v', SetL c0 (off + 0) [v'] (c0.set off v') := fun v' => SetL.set1 (by rw [nth_eq] at hc0; exact (List.getElem?_eq_some_iff.1 hc0).1)
  have hset0 : c0.set off (.slice a l.length c) = c0 := set_same hc0
  refine Tr.enter Try.func16 rfl Try.ntmps16 rfl (fun W F => ?_)
  refine Wp.app ?_
  refine Wp.seq ?_
  refine Wp.region ?_
  refine Ops.pv (pv_assign rfl) rfl ?_
  refine Ops.nil ?_
  refine Ends.seq ?_
  refine Wp.seq ?_
  refine Wp.block ?_
  refine Wp.seq ?_
  refine Wp.region ?_
  refine Ops.pv (pv_move rfl) rfl ?_
  refine Ops.ef rfl (ef_callr (tr_right x) rfl rfl) ?_
  rintro _ _ ⟨rfl, rfl⟩
  first | refine Ops.pv (pv_not_dec rfl) rfl ?_ | refine Ops.pv (pv_not rfl) rfl ?_
  refine Ops.pv (pv_assign rfl) rfl ?_
  refine Ops.nil ?_
  refine Ends.seq ?_
  refine Wp.cond_t rfl (fun h1 => ?_) (fun h1 => ?_)
  · refine Wp.seq ?_
    refine Wp.region ?_
    refine Ops.pv (pv_assign rfl) rfl ?_
    refine Ops.nil ?_
    refine Ends.seq ?_
    refine Wp.ret ?_
    refine Ends.block_ret ?_
    refine Ends.then_ret ?_
    exact Ends.ret (L' := (lb, .cells c0.toArray TT) :: H) (res1 rfl rfl) ⟨by rw [(pushL_range (by simpa using h1)).1], _, H, by rw [(pushL_range (l := l) (by simpa using h1)).2]; exact hs, by rw [hset0]⟩
  · refine Wp.seq ?_
    refine Wp.region ?_
    refine Ops.pv (pv_move rfl) rfl ?_
    first | refine Ops.pv (pv_nilCheck rfl) rfl ?_ | refine Ops.pv (pv_nilCheck_func rfl rfl) rfl ?_
    first | refine Ops.pv (pv_fieldAddr0 rfl rfl) rfl ?_ | refine Ops.pv (pv_fieldAddr rfl rfl) rfl ?_
    first | refine Ops.pv (pv_load rfl rfl rfl) rfl ?_ | refine Ops.pv (pv_load rfl rfl (by assumption)) rfl ?_
    refine Ops.pv (pv_move rfl) rfl ?_
    refine Ops.ef rfl (ef_callr (tr_contains H a c l x hv (by omega)) rfl rfl) ?_
    rintro _ _ ⟨rfl, rfl⟩
    refine Ops.pv (pv_assign rfl) rfl ?_
    refine Ops.nil ?_
    refine Ends.seq ?_
    first | refine Wp.cond_dect rfl (fun h2 => ?_) (fun h2 => ?_) | refine Wp.cond_t rfl (fun h2 => ?_) (fun h2 => ?_)
    · refine Wp.seq ?_
      refine Wp.region ?_
      refine Ops.pv (pv_assign rfl) rfl ?_
      refine Ops.nil ?_
      refine Ends.seq ?_
      refine Wp.ret ?_
      refine Ends.block_ret ?_
      refine Ends.then_ret ?_
      exact Ends.ret (L' := (lb, .cells c0.toArray TT) :: H) (res1 rfl rfl) ⟨by rw [(pushL_twice (by simpa using h1) h2).1], _, H, by rw [(pushL_twice (by simpa using h1) h2).2]; exact hs, by rw [hset0]⟩
    · refine Wp.skip ?_
      refine Ends.block_normal ?_
      refine Ends.seq ?_
      refine Wp.seq ?_
      refine Wp.region ?_
      refine Ops.pv (pv_move rfl) rfl ?_
      refine Ops.pv (pv_move rfl) rfl ?_
      first | refine Ops.pv (pv_nilCheck rfl) rfl ?_ | refine Ops.pv (pv_nilCheck_func rfl rfl) rfl ?_
      first | refine Ops.pv (pv_fieldAddr0 rfl rfl) rfl ?_ | refine Ops.pv (pv_fieldAddr rfl rfl) rfl ?_
      first | refine Ops.pv (pv_load rfl rfl rfl) rfl ?_ | refine Ops.pv (pv_load rfl rfl (by assumption)) rfl ?_
      refine Ops.pv (pv_move rfl) rfl ?_
      refine Ops.ef rfl (ef_buildSlice1 (k := 1) rfl rfl rfl rfl rfl) ?_
      rintro _ _ ⟨b1, rfl, rfl⟩
      refine Ops.ef rfl (ef_append (H := H) (xs := [.int .i64 x]) rfl hs rfl ⟨rfl, trivial⟩ rfl rfl rfl (by omega) (by omega) rfl rfl) ?_
      rintro _ _ ⟨v1, H1, hs1, rfl, rfl⟩
      refine Ops.app ?_
      have ho1 := hs1.one
      have ho2 := hs1.cells1
      first | refine Ops.pv (pv_nilCheck rfl) rfl ?_ | refine Ops.pv (pv_nilCheck_func rfl rfl) rfl ?_
      first | refine Ops.pv (pv_fieldAddr0 rfl rfl) rfl ?_ | refine Ops.pv (pv_fieldAddr rfl rfl) rfl ?_
      refine Ops.ef rfl (ef_store1 rfl rfl (by first | rfl | assumption) (by first | rfl | assumption)) ?_
      rintro _ _ ⟨rfl, rfl⟩
      refine Ops.nil ?_
      refine Ends.seq ?_
      refine Wp.seq ?_
      refine Wp.region ?_
      refine Ops.pv (pv_assign rfl) rfl ?_
      refine Ops.nil ?_
      refine Ends.seq ?_
      refine Wp.ret ?_
      rw [show l.length + 1 = (pushL l x).length by rw [(pushL_ok (by simpa using h1) h2).2]; simp, show intsC l ++ [.int .i64 x] = intsC (pushL l x) by rw [(pushL_ok (by simpa using h1) h2).2, intsC_app]; rfl] at hs1
      exact Ends.ret (L' := (lb, .cells (c0.set off (v1) : List Value).toArray TT) :: H1) (res1 rfl rfl) ⟨by rw [(pushL_ok (by simpa using h1) h2).1], v1, H1, hs1, rfl⟩

theorem tr_lpopG (lb off TT : Nat) (c0 : List Value) (v : Value) (H : Hp) (l : List Int) (hs : Slc 3 1 v l.length (intsC l) H) (hl : l.length ≤ 2 ^ 30) (hc0 : nth c0 off = some v) : Tr Try.prog 18 [.pointer (some ⟨lb, off, none⟩)] ((lb, .cells c0.toArray TT) :: H) (fun u L' => u = .tuple #[.int .i64 (popV l), .bool (popB l)] ∧ ∃ v' H', Slc 3 1 v' (l.tail).length (intsC (l.tail)) H' ∧ L' = (lb, .cells (c0.set off (v') : List Value).toArray TT) :: H') := by
  obtain ⟨a, c, rfl⟩ := hs.form
  have hv := hs.view
  have hset : ∀ v', SetL c0 (off + 0) [v'] (c0.set off v') := fun v' => SetL.set1 (by rw [nth_eq] at hc0; exact (List.getElem?_eq_some_iff.1 hc0).1)
  have hset0 : c0.set off (.slice a l.length c) = c0 := set_same hc0
  refine Tr.enter Try.func18 rfl Try.ntmps18 rfl (fun W F => ?_)
  refine Wp.app ?_
  refine Wp.seq ?_
  refine Wp.region ?_
  refine Ops.pv (pv_assign rfl) rfl ?_
  refine Ops.pv (pv_assign rfl) rfl ?_
  refine Ops.nil ?_
  refine Ends.seq ?_
  refine Wp.seq ?_
  refine Wp.seq ?_
  refine Wp.region ?_
  refine Ops.pv (pv_move rfl) rfl ?_
  first | refine Ops.pv (pv_nilCheck rfl) rfl ?_ | refine Ops.pv (pv_nilCheck_func rfl rfl) rfl ?_
  first | refine Ops.pv (pv_fieldAddr0 rfl rfl) rfl ?_ | refine Ops.pv (pv_fieldAddr rfl rfl) rfl ?_
  first | refine Ops.pv (pv_load rfl rfl rfl) rfl ?_ | refine Ops.pv (pv_load rfl rfl (by assumption)) rfl ?_
  refine Ops.pv (pv_len_slice (T := 26) rfl rfl) rfl ?_
  refine Ops.pv (pv_eql rfl rfl) rfl ?_
  refine Ops.nil ?_
  refine Ends.seq ?_
  first | refine Wp.cond_dect rfl (fun h1 => ?_) (fun h1 => ?_) | refine Wp.cond_t rfl (fun h1 => ?_) (fun h1 => ?_)
  · obtain rfl : l = [] := List.eq_nil_of_length_eq_zero (by omega)
    refine Wp.seq ?_
    refine Wp.region ?_
    refine Ops.pv (pv_assign rfl) rfl ?_
    refine Ops.pv (pv_assign rfl) rfl ?_
    refine Ops.nil ?_
    refine Ends.seq ?_
    refine Wp.ret ?_
    refine Ends.then_ret ?_
    exact Ends.ret (L' := (lb, .cells c0.toArray TT) :: H) (res2 rfl rfl rfl) ⟨rfl, _, H, hs, by rw [hset0]⟩
  · obtain ⟨y, t, rfl⟩ : ∃ y t, l = y :: t := by cases l with | nil => exact absurd rfl h1 | cons y t => exact ⟨y, t, rfl⟩
    obtain ⟨b, o, cap, cc, T, f, hv1, hbv, hr⟩ := hv.open (by simp)
    cases hv1
    have hny := ints_nth (i := 0) hr rfl
    refine Wp.skip ?_
    refine Ends.seq ?_
    refine Wp.seq ?_
    refine Wp.region ?_
    refine Ops.pv (pv_move rfl) rfl ?_
    first | refine Ops.pv (pv_nilCheck rfl) rfl ?_ | refine Ops.pv (pv_nilCheck_func rfl rfl) rfl ?_
    first | refine Ops.pv (pv_fieldAddr0 rfl rfl) rfl ?_ | refine Ops.pv (pv_fieldAddr rfl rfl) rfl ?_
    first | refine Ops.pv (pv_load rfl rfl rfl) rfl ?_ | refine Ops.pv (pv_load rfl rfl (by assumption)) rfl ?_
    refine Ops.pv (pv_indexAddr (i := 0) rfl rfl rfl (by simp)) rfl ?_
    refine Ops.pv (pv_load rfl rfl hny) rfl ?_
    refine Ops.pv (pv_assign rfl) rfl ?_
    refine Ops.nil ?_
    refine Ends.seq ?_
    refine Wp.seq ?_
    refine Wp.region ?_
    refine Ops.pv (pv_move rfl) rfl ?_
    refine Ops.pv (pv_move rfl) rfl ?_
    first | refine Ops.pv (pv_nilCheck rfl) rfl ?_ | refine Ops.pv (pv_nilCheck_func rfl rfl) rfl ?_
    first | refine Ops.pv (pv_fieldAddr0 rfl rfl) rfl ?_ | refine Ops.pv (pv_fieldAddr rfl rfl) rfl ?_
    first | refine Ops.pv (pv_load rfl rfl rfl) rfl ?_ | refine Ops.pv (pv_load rfl rfl (by assumption)) rfl ?_
    refine Ops.pv (pv_slice (i := 1) (j := t.length + 1) rfl ⟨_, rfl⟩ rfl (by omega) (by have := hv.2; obtain ⟨_, _, e, h, _⟩ := this; cases e; exact h)) rfl ?_
    first | refine Ops.pv (pv_nilCheck rfl) rfl ?_ | refine Ops.pv (pv_nilCheck_func rfl rfl) rfl ?_
    first | refine Ops.pv (pv_fieldAddr0 rfl rfl) rfl ?_ | refine Ops.pv (pv_fieldAddr rfl rfl) rfl ?_
    refine Ops.ef rfl (ef_store1 rfl rfl (by first | rfl | assumption) (by first | rfl | assumption)) ?_
    rintro _ _ ⟨rfl, rfl⟩
    refine Ops.nil ?_
    refine Ends.seq ?_
    refine Wp.seq ?_
    refine Wp.region ?_
    refine Ops.pv (pv_move rfl) rfl ?_
    refine Ops.pv (pv_assign rfl) rfl ?_
    refine Ops.pv (pv_assign rfl) rfl ?_
    refine Ops.nil ?_
    refine Ends.seq ?_
    refine Wp.ret ?_
    exact Ends.ret (L' := (lb, .cells (c0.set off (.slice (if c = 1 then some ⟨b, o, none⟩ else (some ⟨b, o, none⟩ : Option Addr).map (·.add (1 * 1))) (t.length + 1 - 1) (c - 1)) : List Value).toArray TT) :: H) (res2 rfl rfl rfl) ⟨rfl, _, H, hs.tail, rfl⟩

theorem tr_lremoveG (lb off TT : Nat) (c0 : List Value) (v : Value) (H : Hp) (l : List Int) (x : Int) (hs : Slc 3 1 v l.length (intsC l) H) (hl : l.length ≤ 2 ^ 30) (hc0 : nth c0 off = some v) : Tr Try.prog 20 [.pointer (some ⟨lb, off, none⟩), .int .i64 x] ((lb, .cells c0.toArray TT) :: H) (fun u L' => u = .bool (remB l x) ∧ ∃ v' H', Slc 3 1 v' (remL l x).length (intsC (remL l x)) H' ∧ L' = (lb, .cells (c0.set off (v') : List Value).toArray TT) :: H') := by
  obtain ⟨a, c, rfl⟩ := hs.form
  have hv := hs.view
  have hset : ∀ v', SetL c0 (off + 0) [v'] (c0.set off v') := fun v' => SetL.set1 (by rw [nth_eq] at hc0; exact (List.getElem?_eq_some_iff.1 hc0).1)
  have hset0 : c0.set off (.slice a l.length c) = c0 := set_same hc0
  have hlc : l.length ≤ c := by obtain ⟨_, _, _, e, h, _⟩ := hv; cases e; exact h
  refine Tr.enter Try.func20 rfl Try.ntmps20 rfl (fun W F => ?_)
  refine Wp.app ?_
  refine Wp.seq ?_
  refine Wp.region ?_
  refine Ops.pv (pv_assign rfl) rfl ?_
  refine Ops.nil ?_
  refine Ends.seq ?_
  refine Wp.seq ?_
  refine Wp.region ?_
  refine Ops.pv (pv_move rfl) rfl ?_
  first | refine Ops.pv (pv_nilCheck rfl) rfl ?_ | refine Ops.pv (pv_nilCheck_func rfl rfl) rfl ?_
  first | refine Ops.pv (pv_fieldAddr0 rfl rfl) rfl ?_ | refine Ops.pv (pv_fieldAddr rfl rfl) rfl ?_
  first | refine Ops.pv (pv_load rfl rfl rfl) rfl ?_ | refine Ops.pv (pv_load rfl rfl (by assumption)) rfl ?_
  refine Ops.pv (pv_move rfl) rfl ?_
  refine Ops.ef rfl (ef_callr (tr_index H a c l x hv (by omega)) rfl rfl) ?_
  rintro _ _ ⟨rfl, rfl⟩
  refine Ops.pv (pv_assign rfl) rfl ?_
  refine Ops.nil ?_
  refine Ends.seq ?_
  refine Wp.seq ?_
  refine Wp.seq ?_
  refine Wp.region ?_
  refine Ops.pv (pv_move rfl) rfl ?_
  refine Ops.pv (pv_lss rfl rfl) rfl ?_
  refine Ops.nil ?_
  refine Ends.seq ?_
  first | refine Wp.cond_dect rfl (fun h1 => ?_) (fun h1 => ?_) | refine Wp.cond_t rfl (fun h1 => ?_) (fun h1 => ?_)
  · refine Wp.seq ?_
    refine Wp.region ?_
    refine Ops.pv (pv_assign rfl) rfl ?_
    refine Ops.nil ?_
    refine Ends.seq ?_
    refine Wp.ret ?_
    refine Ends.then_ret ?_
    exact Ends.ret (L' := (lb, .cells c0.toArray TT) :: H) (res1 rfl rfl) ⟨by rw [show remB l x = false from decide_eq_false (by omega)], _, H, by rw [show remL l x = l from if_neg (by omega)]; exact hs, by rw [hset0]⟩
  · obtain ⟨i, hi⟩ : ∃ i : Nat, idxM l x = i := ⟨(idxM l x).toNat, by omega⟩
    have hil : i < l.length := by have := idx_lt l x; omega
    rw [hi]
    have hA := view_part hv (i := 0) (j := i) (Nat.zero_le _) (by omega)
    have hB := view_part hv (i := i + 1) (j := l.length) (by omega) (Nat.le_refl _)
    have eA : (l.drop 0).take (i - 0) = l.take i := by simp
    have eB : (l.drop (i + 1)).take (l.length - (i + 1)) = l.drop (i + 1) := List.take_of_length_le (by simp)
    have lA := part_len (l := l) (i := 0) (j := i) (Nat.zero_le _) (by omega)
    have lB := part_len (l := l) (i := i + 1) (j := l.length) (by omega) (Nat.le_refl _)
    rw [eA] at hA lA
    rw [eB] at hB lB
    have hrem : remL l x = l.take i ++ l.drop (i + 1) := by unfold remL; rw [if_pos (by omega), hi, Int.toNat_natCast]
    have hrb : remB l x = true := decide_eq_true (by omega)
    refine Wp.skip ?_
    refine Ends.seq ?_
    refine Wp.seq ?_
    refine AnyH.start H 19 rfl ?_
    refine AnyH.take 0 rfl (by kernel_rfl) (by kernel_rfl) (by kernel_rfl) PF.pf rfl (pv_move rfl) rfl ?_
    refine AnyH.take 1 rfl (by kernel_rfl) (by kernel_rfl) (by kernel_rfl) PF.pf rfl (pv_move rfl) rfl ?_
    first | refine AnyH.take 2 rfl (by kernel_rfl) (by kernel_rfl) (by kernel_rfl) PF.pf rfl (pv_nilCheck rfl) rfl ?_ | refine AnyH.take 2 rfl (by kernel_rfl) (by kernel_rfl) (by kernel_rfl) PF.pf rfl (pv_nilCheck_func rfl rfl) rfl ?_
    first | refine AnyH.take 3 rfl (by kernel_rfl) (by kernel_rfl) (by kernel_rfl) PF.pf rfl (pv_fieldAddr0 rfl rfl) rfl ?_ | refine AnyH.take 3 rfl (by kernel_rfl) (by kernel_rfl) (by kernel_rfl) PF.pf rfl (pv_fieldAddr rfl rfl) rfl ?_
    refine AnyH.take 5 rfl (by kernel_rfl) (by kernel_rfl) (by kernel_rfl) PF.pf rfl (pv_move rfl) rfl ?_
    refine AnyH.take 7 rfl (by kernel_rfl) (by kernel_rfl) (by kernel_rfl) PF.pf rfl (pv_move rfl) rfl ?_
    first | refine AnyH.take 8 rfl (by kernel_rfl) (by kernel_rfl) (by kernel_rfl) PF.pf rfl (pv_nilCheck rfl) rfl ?_ | refine AnyH.take 8 rfl (by kernel_rfl) (by kernel_rfl) (by kernel_rfl) PF.pf rfl (pv_nilCheck_func rfl rfl) rfl ?_
    first | refine AnyH.take 9 rfl (by kernel_rfl) (by kernel_rfl) (by kernel_rfl) PF.pf rfl (pv_fieldAddr0 rfl rfl) rfl ?_ | refine AnyH.take 9 rfl (by kernel_rfl) (by kernel_rfl) (by kernel_rfl) PF.pf rfl (pv_fieldAddr rfl rfl) rfl ?_
    refine AnyH.take 11 rfl (by kernel_rfl) (by kernel_rfl) (by kernel_rfl) PF.pf rfl (pv_move rfl) rfl ?_
    refine AnyH.take 12 rfl (by kernel_rfl) (by kernel_rfl) (by kernel_rfl) PF.pf rfl (pv_add rfl rfl (w64n (k := i + 1) (by omega) (by omega))) rfl ?_
    refine AnyH.two 4 10 (by kernel_rfl) ?_ ?_
    · first | refine Turn.ef rfl rfl (ef_pv (pv_load rfl rfl rfl) rfl) ?_ ?_ | refine Turn.ef rfl rfl (ef_pv (pv_load rfl rfl (by assumption)) rfl) ?_ ?_
      · rintro _ _ ⟨rfl, rfl⟩; infer_instance
      rintro _ _ ⟨rfl, rfl⟩
      refine AnyH.take 6 rfl (by kernel_rfl) (by kernel_rfl) (by kernel_rfl) PF.pf rfl (pv_sliceL (i := 0) (j := i) rfl rfl ⟨_, rfl⟩ (Nat.zero_le _) (by omega) lA.symm) rfl ?_
      refine AnyH.one 10 (by kernel_rfl) ?_
      first | refine Turn.ef rfl rfl (ef_pv (pv_load rfl rfl rfl) rfl) ?_ ?_ | refine Turn.ef rfl rfl (ef_pv (pv_load rfl rfl (by assumption)) rfl) ?_ ?_
      · rintro _ _ ⟨rfl, rfl⟩; infer_instance
      rintro _ _ ⟨rfl, rfl⟩
      refine AnyH.take 13 rfl (by kernel_rfl) (by kernel_rfl) (by kernel_rfl) PF.pf rfl (pv_sliceL (i := i + 1) (j := l.length) rfl ⟨_, rfl⟩ rfl (by omega) hlc lB.symm) rfl ?_
      refine AnyH.one 14 (by kernel_rfl) ?_
      refine Turn.ef rfl rfl (ef_buildSlice2 rfl rfl rfl rfl rfl rfl) ?_ ?_
      · rintro _ _ ⟨b1, rfl, rfl⟩; infer_instance
      rintro _ _ ⟨b1, rfl, rfl⟩
      refine AnyH.one 15 (by kernel_rfl) ?_
      refine Turn.ef rfl rfl (ef_call (tr_concat2 H b1 2 (if c = 0 then a else a.map (·.add (0 * 1))) (if c = i + 1 then a else a.map (·.add ((i + 1) * 1))) (c - 0) (c - (i + 1)) (l.take i) (l.drop (i + 1)) hA hB (by simp; omega)) rfl rfl) ?_ ?_
      · rintro _ _ ⟨_, _, ⟨H1, hs1, rfl⟩, rfl, rfl⟩; infer_instance
      rintro _ _ ⟨_, _, ⟨H1, hs1, rfl⟩, rfl, rfl⟩
      refine AnyH.app ?_
      have ho1 := hs1.one
      have ho2 := hs1.cells1
      first | refine AnyH.take 16 rfl (by kernel_rfl) (by kernel_rfl) (by kernel_rfl) PF.pf rfl (pv_nilCheck rfl) rfl ?_ | refine AnyH.take 16 rfl (by kernel_rfl) (by kernel_rfl) (by kernel_rfl) PF.pf rfl (pv_nilCheck_func rfl rfl) rfl ?_
      first | refine AnyH.take 17 rfl (by kernel_rfl) (by kernel_rfl) (by kernel_rfl) PF.pf rfl (pv_fieldAddr0 rfl rfl) rfl ?_ | refine AnyH.take 17 rfl (by kernel_rfl) (by kernel_rfl) (by kernel_rfl) PF.pf rfl (pv_fieldAddr rfl rfl) rfl ?_
      refine AnyH.one 18 (by kernel_rfl) ?_
      refine Turn.ef rfl rfl (ef_store1 rfl rfl (by first | rfl | assumption) (by first | rfl | assumption)) ?_ ?_
      · rintro _ _ ⟨rfl, rfl⟩; infer_instance
      rintro _ _ ⟨rfl, rfl⟩
      refine AnyH.done (by kernel_rfl) ?_
      refine Ends.seq ?_
      refine Wp.seq ?_
      refine Wp.region ?_
      refine Ops.pv (pv_assign rfl) rfl ?_
      refine Ops.nil ?_
      refine Ends.seq ?_
      refine Wp.ret ?_
      rw [← hrem] at hs1
      exact Ends.ret (L' := (lb, .cells (c0.set off _ : List Value).toArray TT) :: H1) (res1 rfl rfl) ⟨by rw [hrb], _, H1, hs1, rfl⟩
    · first | refine Turn.ef rfl rfl (ef_pv (pv_load rfl rfl rfl) rfl) ?_ ?_ | refine Turn.ef rfl rfl (ef_pv (pv_load rfl rfl (by assumption)) rfl) ?_ ?_
      · rintro _ _ ⟨rfl, rfl⟩; infer_instance
      rintro _ _ ⟨rfl, rfl⟩
      refine AnyH.take 13 rfl (by kernel_rfl) (by kernel_rfl) (by kernel_rfl) PF.pf rfl (pv_sliceL (i := i + 1) (j := l.length) rfl ⟨_, rfl⟩ rfl (by omega) hlc lB.symm) rfl ?_
      refine AnyH.one 4 (by kernel_rfl) ?_
      first | refine Turn.ef rfl rfl (ef_pv (pv_load rfl rfl rfl) rfl) ?_ ?_ | refine Turn.ef rfl rfl (ef_pv (pv_load rfl rfl (by assumption)) rfl) ?_ ?_
      · rintro _ _ ⟨rfl, rfl⟩; infer_instance
      rintro _ _ ⟨rfl, rfl⟩
      refine AnyH.take 6 rfl (by kernel_rfl) (by kernel_rfl) (by kernel_rfl) PF.pf rfl (pv_sliceL (i := 0) (j := i) rfl rfl ⟨_, rfl⟩ (Nat.zero_le _) (by omega) lA.symm) rfl ?_
      refine AnyH.one 14 (by kernel_rfl) ?_
      refine Turn.ef rfl rfl (ef_buildSlice2 rfl rfl rfl rfl rfl rfl) ?_ ?_
      · rintro _ _ ⟨b2, rfl, rfl⟩; infer_instance
      rintro _ _ ⟨b2, rfl, rfl⟩
      refine AnyH.one 15 (by kernel_rfl) ?_
      refine Turn.ef rfl rfl (ef_call (tr_concat2 H b2 2 (if c = 0 then a else a.map (·.add (0 * 1))) (if c = i + 1 then a else a.map (·.add ((i + 1) * 1))) (c - 0) (c - (i + 1)) (l.take i) (l.drop (i + 1)) hA hB (by simp; omega)) rfl rfl) ?_ ?_
      · rintro _ _ ⟨_, _, ⟨H2, hs2, rfl⟩, rfl, rfl⟩; infer_instance
      rintro _ _ ⟨_, _, ⟨H2, hs2, rfl⟩, rfl, rfl⟩
      refine AnyH.app ?_
      have ho1 := hs2.one
      have ho2 := hs2.cells1
      first | refine AnyH.take 16 rfl (by kernel_rfl) (by kernel_rfl) (by kernel_rfl) PF.pf rfl (pv_nilCheck rfl) rfl ?_ | refine AnyH.take 16 rfl (by kernel_rfl) (by kernel_rfl) (by kernel_rfl) PF.pf rfl (pv_nilCheck_func rfl rfl) rfl ?_
      first | refine AnyH.take 17 rfl (by kernel_rfl) (by kernel_rfl) (by kernel_rfl) PF.pf rfl (pv_fieldAddr0 rfl rfl) rfl ?_ | refine AnyH.take 17 rfl (by kernel_rfl) (by kernel_rfl) (by kernel_rfl) PF.pf rfl (pv_fieldAddr rfl rfl) rfl ?_
      refine AnyH.one 18 (by kernel_rfl) ?_
      refine Turn.ef rfl rfl (ef_store1 rfl rfl (by first | rfl | assumption) (by first | rfl | assumption)) ?_ ?_
      · rintro _ _ ⟨rfl, rfl⟩; infer_instance
      rintro _ _ ⟨rfl, rfl⟩
      refine AnyH.done (by kernel_rfl) ?_
      refine Ends.seq ?_
      refine Wp.seq ?_
      refine Wp.region ?_
      refine Ops.pv (pv_assign rfl) rfl ?_
      refine Ops.nil ?_
      refine Ends.seq ?_
      refine Wp.ret ?_
      rw [← hrem] at hs2
      exact Ends.ret (L' := (lb, .cells (c0.set off _ : List Value).toArray TT) :: H2) (res1 rfl rfl) ⟨by rw [hrb], _, H2, hs2, rfl⟩

theorem tr_rpush (lb : Nat) (v : Value) (H : Hp) (l : List Int) (x : Int) (hs : Slc 3 1 v l.length (intsC l) H) (hl : l.length ≤ 2 ^ 30) : Tr Try.prog 17 [.pointer (some ⟨lb, 0, none⟩), .int .i64 x] ((lb, .cells [v].toArray 28) :: H) (fun u L' => u = .int .i64 (pushE l x) ∧ ∃ v' H', Slc 3 1 v' (pushL l x).length (intsC (pushL l x)) H' ∧ L' = (lb, .cells [v'].toArray 28) :: H') := by
  obtain ⟨a, c, rfl⟩ := hs.form
  have hv := hs.view
  refine Tr.enter Try.func17 rfl Try.ntmps17 rfl (fun W F => ?_)
  refine Wp.app ?_
  refine Wp.seq ?_
  refine Wp.region ?_
  refine Ops.pv (pv_assign rfl) rfl ?_
  refine Ops.nil ?_
  refine Ends.seq ?_
  refine Wp.seq ?_
  refine Wp.block ?_
  refine Wp.seq ?_
  refine Wp.region ?_
  refine Ops.pv (pv_move rfl) rfl ?_
  refine Ops.pv (pv_lss rfl rfl) rfl ?_
  refine Ops.pv (pv_move rfl) rfl ?_
  first | refine Ops.split (t := 8) rfl (fun h1 => ?_) (fun h1 => ?_) | refine Ops.splitb (t := 8) rfl (fun h1 => ?_) (fun h1 => ?_)
  · refine Ops.skipg ⟨_, _, rfl, rfl, rfl⟩ rfl ?_
    refine Ops.skipg ⟨_, _, rfl, rfl, rfl⟩ rfl ?_
    refine Ops.pv (pv_pick_true rfl rfl) rfl ?_
    refine Ops.pv (pv_assign rfl) rfl ?_
    refine Ops.nil ?_
    refine Ends.seq ?_
    refine Wp.cond_true rfl ?_
    refine Wp.seq ?_
    refine Wp.region ?_
    refine Ops.pv (pv_assign rfl) rfl ?_
    refine Ops.nil ?_
    refine Ends.seq ?_
    refine Wp.ret ?_
    refine Ends.block_ret ?_
    refine Ends.then_ret ?_
    exact Ends.ret (L' := (lb, .cells [.slice a l.length c].toArray 28) :: H) (res1 rfl rfl) ⟨by rw [(pushL_range (by simp [rightM]; omega)).1], _, H, by rw [(pushL_range (l := l) (by simp [rightM]; omega)).2]; exact hs, rfl⟩
  · refine Ops.pvg ⟨_, _, rfl, rfl, rfl⟩ (pv_move rfl) rfl ?_
    refine Ops.pvg ⟨_, _, rfl, rfl, rfl⟩ (pv_gtr rfl rfl) rfl ?_
    refine Ops.pv (pv_pick_false rfl rfl) rfl ?_
    refine Ops.pv (pv_assign rfl) rfl ?_
    refine Ops.nil ?_
    refine Ends.seq ?_
    first | refine Wp.cond_dect rfl (fun h2 => ?_) (fun h2 => ?_) | refine Wp.cond_t rfl (fun h2 => ?_) (fun h2 => ?_)
    · refine Wp.seq ?_
      refine Wp.region ?_
      refine Ops.pv (pv_assign rfl) rfl ?_
      refine Ops.nil ?_
      refine Ends.seq ?_
      refine Wp.ret ?_
      refine Ends.block_ret ?_
      refine Ends.then_ret ?_
      exact Ends.ret (L' := (lb, .cells [.slice a l.length c].toArray 28) :: H) (res1 rfl rfl) ⟨by rw [(pushL_range (by simp [rightM]; omega)).1], _, H, by rw [(pushL_range (l := l) (by simp [rightM]; omega)).2]; exact hs, rfl⟩
    · refine Wp.seq ?_
      refine Wp.region ?_
      refine Ops.pv (pv_move rfl) rfl ?_
      first | refine Ops.pv (pv_nilCheck rfl) rfl ?_ | refine Ops.pv (pv_nilCheck_func rfl rfl) rfl ?_
      first | refine Ops.pv (pv_fieldAddr0 rfl rfl) rfl ?_ | refine Ops.pv (pv_fieldAddr rfl rfl) rfl ?_
      first | refine Ops.pv (pv_load rfl rfl rfl) rfl ?_ | refine Ops.pv (pv_load rfl rfl (by assumption)) rfl ?_
      refine Ops.pv (pv_move rfl) rfl ?_
      refine Ops.ef rfl (ef_callr (tr_at H a c l x hv (by omega)) rfl rfl) ?_
      rintro _ _ ⟨rfl, rfl⟩
      refine Ops.pv (pv_geq rfl rfl) rfl ?_
      refine Ops.pv (pv_assign rfl) rfl ?_
      refine Ops.nil ?_
      refine Ends.seq ?_
      first | refine Wp.cond_dect rfl (fun h3 => ?_) (fun h3 => ?_) | refine Wp.cond_t rfl (fun h3 => ?_) (fun h3 => ?_)
      · refine Wp.seq ?_
        refine Wp.region ?_
        refine Ops.pv (pv_assign rfl) rfl ?_
        refine Ops.nil ?_
        refine Ends.seq ?_
        refine Wp.ret ?_
        refine Ends.block_ret ?_
        refine Ends.then_ret ?_
        exact Ends.ret (L' := (lb, .cells [.slice a l.length c].toArray 28) :: H) (res1 rfl rfl) ⟨by rw [(pushL_twice (by simp [rightM]; omega) h3).1], _, H, by rw [(pushL_twice (by simp [rightM]; omega) h3).2]; exact hs, rfl⟩
      · refine Wp.skip ?_
        refine Ends.block_normal ?_
        refine Ends.seq ?_
        refine Wp.seq ?_
        refine Wp.region ?_
        refine Ops.pv (pv_move rfl) rfl ?_
        refine Ops.pv (pv_move rfl) rfl ?_
        first | refine Ops.pv (pv_nilCheck rfl) rfl ?_ | refine Ops.pv (pv_nilCheck_func rfl rfl) rfl ?_
        first | refine Ops.pv (pv_fieldAddr0 rfl rfl) rfl ?_ | refine Ops.pv (pv_fieldAddr rfl rfl) rfl ?_
        first | refine Ops.pv (pv_load rfl rfl rfl) rfl ?_ | refine Ops.pv (pv_load rfl rfl (by assumption)) rfl ?_
        refine Ops.pv (pv_move rfl) rfl ?_
        refine Ops.ef rfl (ef_buildSlice1 (k := 1) rfl rfl rfl rfl rfl) ?_
        rintro _ _ ⟨b1, rfl, rfl⟩
        refine Ops.ef rfl (ef_append (H := H) (xs := [.int .i64 x]) rfl hs rfl ⟨rfl, trivial⟩ rfl rfl rfl (by omega) (by omega) rfl rfl) ?_
        rintro _ _ ⟨v1, H1, hs1, rfl, rfl⟩
        refine Ops.app ?_
        have ho1 := hs1.one
        have ho2 := hs1.cells1
        first | refine Ops.pv (pv_nilCheck rfl) rfl ?_ | refine Ops.pv (pv_nilCheck_func rfl rfl) rfl ?_
        first | refine Ops.pv (pv_fieldAddr0 rfl rfl) rfl ?_ | refine Ops.pv (pv_fieldAddr rfl rfl) rfl ?_
        refine Ops.ef rfl (ef_store1 rfl rfl (by first | rfl | assumption) (by first | rfl | assumption)) ?_
        rintro _ _ ⟨rfl, rfl⟩
        refine Ops.nil ?_
        refine Ends.seq ?_
        refine Wp.seq ?_
        refine Wp.region ?_
        refine Ops.pv (pv_assign rfl) rfl ?_
        refine Ops.nil ?_
        refine Ends.seq ?_
        refine Wp.ret ?_
        rw [show l.length + 1 = (pushL l x).length by rw [(pushL_ok (by simp [rightM]; omega) h3).2]; simp, show intsC l ++ [.int .i64 x] = intsC (pushL l x) by rw [(pushL_ok (by simp [rightM]; omega) h3).2, intsC_app]; rfl] at hs1
        exact Ends.ret (L' := (lb, .cells [v1].toArray 28) :: H1) (res1 rfl rfl) ⟨by rw [(pushL_ok (by simp [rightM]; omega) h3).1], v1, H1, hs1, rfl⟩

theorem tr_rpop (lb : Nat) (v : Value) (H : Hp) (l : List Int) (hs : Slc 3 1 v l.length (intsC l) H) (hl : l.length ≤ 2 ^ 30) : Tr Try.prog 19 [.pointer (some ⟨lb, 0, none⟩)] ((lb, .cells [v].toArray 28) :: H) (fun u L' => u = .tuple #[.int .i64 (popV l), .bool (popB l)] ∧ ∃ v' H', Slc 3 1 v' (l.tail).length (intsC (l.tail)) H' ∧ L' = (lb, .cells [v'].toArray 28) :: H') := by
  obtain ⟨a, c, rfl⟩ := hs.form
  have hv := hs.view
  refine Tr.enter Try.func19 rfl Try.ntmps19 rfl (fun W F => ?_)
  refine Wp.app ?_
  refine Wp.seq ?_
  refine Wp.region ?_
  refine Ops.pv (pv_assign rfl) rfl ?_
  refine Ops.pv (pv_assign rfl) rfl ?_
  refine Ops.nil ?_
  refine Ends.seq ?_
  refine Wp.seq ?_
  refine Wp.seq ?_
  refine Wp.region ?_
  refine Ops.pv (pv_move rfl) rfl ?_
  first | refine Ops.pv (pv_nilCheck rfl) rfl ?_ | refine Ops.pv (pv_nilCheck_func rfl rfl) rfl ?_
  first | refine Ops.pv (pv_fieldAddr0 rfl rfl) rfl ?_ | refine Ops.pv (pv_fieldAddr rfl rfl) rfl ?_
  first | refine Ops.pv (pv_load rfl rfl rfl) rfl ?_ | refine Ops.pv (pv_load rfl rfl (by assumption)) rfl ?_
  refine Ops.pv (pv_len_slice (T := 26) rfl rfl) rfl ?_
  refine Ops.pv (pv_eql rfl rfl) rfl ?_
  refine Ops.nil ?_
  refine Ends.seq ?_
  first | refine Wp.cond_dect rfl (fun h1 => ?_) (fun h1 => ?_) | refine Wp.cond_t rfl (fun h1 => ?_) (fun h1 => ?_)
  · obtain rfl : l = [] := List.eq_nil_of_length_eq_zero (by omega)
    refine Wp.seq ?_
    refine Wp.region ?_
    refine Ops.pv (pv_assign rfl) rfl ?_
    refine Ops.pv (pv_assign rfl) rfl ?_
    refine Ops.nil ?_
    refine Ends.seq ?_
    refine Wp.ret ?_
    refine Ends.then_ret ?_
    exact Ends.ret (L' := (lb, .cells [.slice a 0 c].toArray 28) :: H) (res2 rfl rfl rfl) ⟨rfl, _, H, hs, rfl⟩
  · obtain ⟨y, t, rfl⟩ : ∃ y t, l = y :: t := by cases l with | nil => exact absurd rfl h1 | cons y t => exact ⟨y, t, rfl⟩
    obtain ⟨b, o, cap, cc, T, f, hv1, hbv, hr⟩ := hv.open (by simp)
    cases hv1
    have hny := ints_nth (i := 0) hr rfl
    refine Wp.skip ?_
    refine Ends.seq ?_
    refine Wp.seq ?_
    refine Wp.region ?_
    refine Ops.pv (pv_move rfl) rfl ?_
    first | refine Ops.pv (pv_nilCheck rfl) rfl ?_ | refine Ops.pv (pv_nilCheck_func rfl rfl) rfl ?_
    first | refine Ops.pv (pv_fieldAddr0 rfl rfl) rfl ?_ | refine Ops.pv (pv_fieldAddr rfl rfl) rfl ?_
    first | refine Ops.pv (pv_load rfl rfl rfl) rfl ?_ | refine Ops.pv (pv_load rfl rfl (by assumption)) rfl ?_
    refine Ops.pv (pv_indexAddr (i := 0) rfl rfl rfl (by simp)) rfl ?_
    refine Ops.pv (pv_load rfl rfl hny) rfl ?_
    refine Ops.pv (pv_assign rfl) rfl ?_
    refine Ops.nil ?_
    refine Ends.seq ?_
    refine Wp.seq ?_
    refine Wp.region ?_
    refine Ops.pv (pv_move rfl) rfl ?_
    refine Ops.ef rfl (ef_buildSlice0 rfl) ?_
    rintro _ _ ⟨b1, rfl, rfl⟩
    refine Ops.pv (pv_move rfl) rfl ?_
    first | refine Ops.pv (pv_nilCheck rfl) rfl ?_ | refine Ops.pv (pv_nilCheck_func rfl rfl) rfl ?_
    first | refine Ops.pv (pv_fieldAddr0 rfl rfl) rfl ?_ | refine Ops.pv (pv_fieldAddr rfl rfl) rfl ?_
    first | refine Ops.pv (pv_load rfl rfl rfl) rfl ?_ | refine Ops.pv (pv_load rfl rfl (by assumption)) rfl ?_
    refine Ops.pv (pv_sliceL (i := 1) (j := t.length + 1) (r := (((y :: t).drop 1).take (t.length + 1 - 1)).length) rfl ⟨_, rfl⟩ rfl (by omega) (by have := hv.2; obtain ⟨_, _, e, h, _⟩ := this; cases e; exact h) (part_len (l := y :: t) (by omega) (by simp)).symm) rfl ?_
    refine Ops.ef rfl (ef_appendV (H := [(b1, .cells ([] : List Value).toArray 3)]) rfl (slc_empty 3 b1) rfl ((view_part hv (i := 1) (j := t.length + 1) (by omega) (by simp)).mono (by intro p hp; simp [hp])) (intsC_one _) (by simp only [List.length_take, List.length_drop, List.length_cons] at hl ⊢; omega) (by simp only [List.length_take, List.length_drop, List.length_cons] at hl ⊢; omega) rfl rfl) ?_
    rintro _ _ ⟨v1, H1, hs1, rfl, rfl⟩
    refine Ops.app ?_
    have ho1 := hs1.one
    have ho2 := hs1.cells1
    first | refine Ops.pv (pv_nilCheck rfl) rfl ?_ | refine Ops.pv (pv_nilCheck_func rfl rfl) rfl ?_
    first | refine Ops.pv (pv_fieldAddr0 rfl rfl) rfl ?_ | refine Ops.pv (pv_fieldAddr rfl rfl) rfl ?_
    refine Ops.ef rfl (ef_store1 rfl rfl (by first | rfl | assumption) (by first | rfl | assumption)) ?_
    rintro _ _ ⟨rfl, rfl⟩
    refine Ops.nil ?_
    refine Ends.seq ?_
    refine Wp.seq ?_
    refine Wp.region ?_
    refine Ops.pv (pv_move rfl) rfl ?_
    refine Ops.pv (pv_assign rfl) rfl ?_
    refine Ops.pv (pv_assign rfl) rfl ?_
    refine Ops.nil ?_
    refine Ends.seq ?_
    refine Wp.ret ?_
    rw [Nat.zero_add, List.nil_append] at hs1
    have et : ((y :: t).drop 1).take (t.length + 1 - 1) = t := by simp
    rw [et] at hs1
    exact Ends.ret (L' := (lb, .cells [v1].toArray 28) :: H1) (res2 rfl rfl rfl) ⟨rfl, v1, H1, hs1, rfl⟩

theorem tr_rremove (lb : Nat) (v : Value) (H : Hp) (l : List Int) (x : Int) (hs : Slc 3 1 v l.length (intsC l) H) (hl : l.length ≤ 2 ^ 30) : Tr Try.prog 21 [.pointer (some ⟨lb, 0, none⟩), .int .i64 x] ((lb, .cells [v].toArray 28) :: H) (fun u L' => u = .bool (remB l x) ∧ ∃ v' H', Slc 3 1 v' (remL l x).length (intsC (remL l x)) H' ∧ L' = (lb, .cells [v'].toArray 28) :: H') := by
  obtain ⟨a, c, rfl⟩ := hs.form
  have hv := hs.view
  have hlc : l.length ≤ c := by obtain ⟨_, _, _, e, h, _⟩ := hv; cases e; exact h
  refine Tr.enter Try.func21 rfl Try.ntmps21 rfl (fun W F => ?_)
  refine Wp.app ?_
  refine Wp.seq ?_
  refine Wp.region ?_
  refine Ops.pv (pv_assign rfl) rfl ?_
  refine Ops.nil ?_
  refine Ends.seq ?_
  refine Wp.seq ?_
  refine Wp.region ?_
  refine Ops.pv (pv_move rfl) rfl ?_
  first | refine Ops.pv (pv_nilCheck rfl) rfl ?_ | refine Ops.pv (pv_nilCheck_func rfl rfl) rfl ?_
  first | refine Ops.pv (pv_fieldAddr0 rfl rfl) rfl ?_ | refine Ops.pv (pv_fieldAddr rfl rfl) rfl ?_
  first | refine Ops.pv (pv_load rfl rfl rfl) rfl ?_ | refine Ops.pv (pv_load rfl rfl (by assumption)) rfl ?_
  refine Ops.pv (pv_move rfl) rfl ?_
  refine Ops.ef rfl (ef_callr (tr_at H a c l x hv (by omega)) rfl rfl) ?_
  rintro _ _ ⟨rfl, rfl⟩
  refine Ops.pv (pv_assign rfl) rfl ?_
  refine Ops.nil ?_
  refine Ends.seq ?_
  refine Wp.seq ?_
  refine Wp.seq ?_
  refine Wp.region ?_
  refine Ops.pv (pv_move rfl) rfl ?_
  refine Ops.pv (pv_lss rfl rfl) rfl ?_
  refine Ops.nil ?_
  refine Ends.seq ?_
  first | refine Wp.cond_dect rfl (fun h1 => ?_) (fun h1 => ?_) | refine Wp.cond_t rfl (fun h1 => ?_) (fun h1 => ?_)
  · refine Wp.seq ?_
    refine Wp.region ?_
    refine Ops.pv (pv_assign rfl) rfl ?_
    refine Ops.nil ?_
    refine Ends.seq ?_
    refine Wp.ret ?_
    refine Ends.then_ret ?_
    exact Ends.ret (L' := (lb, .cells [.slice a l.length c].toArray 28) :: H) (res1 rfl rfl) ⟨by rw [show remB l x = false from decide_eq_false (by omega)], _, H, by rw [show remL l x = l from if_neg (by omega)]; exact hs, rfl⟩
  · obtain ⟨i, hi⟩ : ∃ i : Nat, idxM l x = i := ⟨(idxM l x).toNat, by omega⟩
    have hil : i < l.length := by have := idx_lt l x; omega
    rw [hi]
    have hA := view_part hv (i := 0) (j := i) (Nat.zero_le _) (by omega)
    have hB := view_part hv (i := i + 1) (j := l.length) (by omega) (Nat.le_refl _)
    have eA : (l.drop 0).take (i - 0) = l.take i := by simp
    have eB : (l.drop (i + 1)).take (l.length - (i + 1)) = l.drop (i + 1) := List.take_of_length_le (by simp)
    have lA := part_len (l := l) (i := 0) (j := i) (Nat.zero_le _) (by omega)
    have lB := part_len (l := l) (i := i + 1) (j := l.length) (by omega) (Nat.le_refl _)
    rw [eA] at hA lA
    rw [eB] at hB lB
    have hrem : remL l x = l.take i ++ l.drop (i + 1) := by unfold remL; rw [if_pos (by omega), hi, Int.toNat_natCast]
    have hrb : remB l x = true := decide_eq_true (by omega)
    refine Wp.skip ?_
    refine Ends.seq ?_
    refine Wp.seq ?_
    refine AnyH.start H 20 rfl ?_
    refine AnyH.take 0 rfl (by kernel_rfl) (by kernel_rfl) (by kernel_rfl) PF.pf rfl (pv_move rfl) rfl ?_
    refine AnyH.take 2 rfl (by kernel_rfl) (by kernel_rfl) (by kernel_rfl) PF.pf rfl (pv_move rfl) rfl ?_
    first | refine AnyH.take 3 rfl (by kernel_rfl) (by kernel_rfl) (by kernel_rfl) PF.pf rfl (pv_nilCheck rfl) rfl ?_ | refine AnyH.take 3 rfl (by kernel_rfl) (by kernel_rfl) (by kernel_rfl) PF.pf rfl (pv_nilCheck_func rfl rfl) rfl ?_
    first | refine AnyH.take 4 rfl (by kernel_rfl) (by kernel_rfl) (by kernel_rfl) PF.pf rfl (pv_fieldAddr0 rfl rfl) rfl ?_ | refine AnyH.take 4 rfl (by kernel_rfl) (by kernel_rfl) (by kernel_rfl) PF.pf rfl (pv_fieldAddr rfl rfl) rfl ?_
    refine AnyH.take 6 rfl (by kernel_rfl) (by kernel_rfl) (by kernel_rfl) PF.pf rfl (pv_move rfl) rfl ?_
    refine AnyH.take 9 rfl (by kernel_rfl) (by kernel_rfl) (by kernel_rfl) PF.pf rfl (pv_move rfl) rfl ?_
    first | refine AnyH.take 10 rfl (by kernel_rfl) (by kernel_rfl) (by kernel_rfl) PF.pf rfl (pv_nilCheck rfl) rfl ?_ | refine AnyH.take 10 rfl (by kernel_rfl) (by kernel_rfl) (by kernel_rfl) PF.pf rfl (pv_nilCheck_func rfl rfl) rfl ?_
    first | refine AnyH.take 11 rfl (by kernel_rfl) (by kernel_rfl) (by kernel_rfl) PF.pf rfl (pv_fieldAddr0 rfl rfl) rfl ?_ | refine AnyH.take 11 rfl (by kernel_rfl) (by kernel_rfl) (by kernel_rfl) PF.pf rfl (pv_fieldAddr rfl rfl) rfl ?_
    refine AnyH.take 13 rfl (by kernel_rfl) (by kernel_rfl) (by kernel_rfl) PF.pf rfl (pv_move rfl) rfl ?_
    refine AnyH.take 14 rfl (by kernel_rfl) (by kernel_rfl) (by kernel_rfl) PF.pf rfl (pv_add rfl rfl (w64n (k := i + 1) (by omega) (by omega))) rfl ?_
    refine AnyH.three 1 5 12 (by kernel_rfl) ?_ ?_ ?_
    · refine Turn.ef rfl rfl (ef_buildSlice0 rfl) ?_ ?_
      · rintro _ _ ⟨b1, rfl, rfl⟩; infer_instance
      rintro _ _ ⟨b1, rfl, rfl⟩
      refine AnyH.two 5 12 (by kernel_rfl) ?_ ?_
      · first | refine Turn.ef rfl rfl (ef_pv (pv_load rfl rfl rfl) rfl) ?_ ?_ | refine Turn.ef rfl rfl (ef_pv (pv_load rfl rfl (by assumption)) rfl) ?_ ?_
        · rintro _ _ ⟨rfl, rfl⟩; infer_instance
        rintro _ _ ⟨rfl, rfl⟩
        refine AnyH.take 7 rfl (by kernel_rfl) (by kernel_rfl) (by kernel_rfl) PF.pf rfl (pv_sliceL (i := 0) (j := i) rfl rfl ⟨_, rfl⟩ (Nat.zero_le _) (by omega) lA.symm) rfl ?_
        refine AnyH.two 8 12 (by kernel_rfl) ?_ ?_
        · refine Turn.ef rfl rfl (ef_appendV (H := [(b1, .cells ([] : List Value).toArray 3)]) rfl (slc_empty 3 b1) rfl (hA.mono (by intro p hp; simp [hp])) (intsC_one _) (by omega) (by omega) rfl rfl) ?_ ?_
          · rintro _ _ ⟨v1, H1, hs1, rfl, rfl⟩; infer_instance
          rintro _ _ ⟨v1, H1, hs1, rfl, rfl⟩
          refine AnyH.app ?_
          skip
          refine AnyH.one 12 (by kernel_rfl) ?_
          first | refine Turn.ef rfl rfl (ef_pv (pv_load rfl rfl rfl) rfl) ?_ ?_ | refine Turn.ef rfl rfl (ef_pv (pv_load rfl rfl (by assumption)) rfl) ?_ ?_
          · rintro _ _ ⟨rfl, rfl⟩; infer_instance
          rintro _ _ ⟨rfl, rfl⟩
          refine AnyH.take 15 rfl (by kernel_rfl) (by kernel_rfl) (by kernel_rfl) PF.pf rfl (pv_sliceL (i := i + 1) (j := l.length) rfl ⟨_, rfl⟩ rfl (by omega) hlc lB.symm) rfl ?_
          refine AnyH.one 16 (by kernel_rfl) ?_
          refine Turn.ef rfl rfl (ef_appendV (H := H1) rfl hs1 rfl (hB.mono (by intro p hp; simp [hp])) (intsC_one _) (by omega) (by omega) rfl rfl) ?_ ?_
          · rintro _ _ ⟨v2, H2, hs2, rfl, rfl⟩; infer_instance
          rintro _ _ ⟨v2, H2, hs2, rfl, rfl⟩
          refine AnyH.app ?_
          have ho1 := hs2.one
          have ho2 := hs2.cells1
          first | refine AnyH.take 17 rfl (by kernel_rfl) (by kernel_rfl) (by kernel_rfl) PF.pf rfl (pv_nilCheck rfl) rfl ?_ | refine AnyH.take 17 rfl (by kernel_rfl) (by kernel_rfl) (by kernel_rfl) PF.pf rfl (pv_nilCheck_func rfl rfl) rfl ?_
          first | refine AnyH.take 18 rfl (by kernel_rfl) (by kernel_rfl) (by kernel_rfl) PF.pf rfl (pv_fieldAddr0 rfl rfl) rfl ?_ | refine AnyH.take 18 rfl (by kernel_rfl) (by kernel_rfl) (by kernel_rfl) PF.pf rfl (pv_fieldAddr rfl rfl) rfl ?_
          refine AnyH.one 19 (by kernel_rfl) ?_
          refine Turn.ef rfl rfl (ef_store1 rfl rfl (by first | rfl | assumption) (by first | rfl | assumption)) ?_ ?_
          · rintro _ _ ⟨rfl, rfl⟩; infer_instance
          rintro _ _ ⟨rfl, rfl⟩
          refine AnyH.done (by kernel_rfl) ?_
          refine Ends.seq ?_
          refine Wp.seq ?_
          refine Wp.region ?_
          refine Ops.pv (pv_assign rfl) rfl ?_
          refine Ops.nil ?_
          refine Ends.seq ?_
          refine Wp.ret ?_
          rw [Nat.zero_add, List.nil_append, ← intsC_app, ← List.length_append, ← hrem] at hs2
          exact Ends.ret (L' := (lb, .cells [v2].toArray 28) :: H2) (res1 rfl rfl) ⟨by rw [hrb], v2, H2, hs2, rfl⟩
        · first | refine Turn.ef rfl rfl (ef_pv (pv_load rfl rfl rfl) rfl) ?_ ?_ | refine Turn.ef rfl rfl (ef_pv (pv_load rfl rfl (by assumption)) rfl) ?_ ?_
          · rintro _ _ ⟨rfl, rfl⟩; infer_instance
          rintro _ _ ⟨rfl, rfl⟩
          refine AnyH.take 15 rfl (by kernel_rfl) (by kernel_rfl) (by kernel_rfl) PF.pf rfl (pv_sliceL (i := i + 1) (j := l.length) rfl ⟨_, rfl⟩ rfl (by omega) hlc lB.symm) rfl ?_
          refine AnyH.one 8 (by kernel_rfl) ?_
          refine Turn.ef rfl rfl (ef_appendV (H := [(b1, .cells ([] : List Value).toArray 3)]) rfl (slc_empty 3 b1) rfl (hA.mono (by intro p hp; simp [hp])) (intsC_one _) (by omega) (by omega) rfl rfl) ?_ ?_
          · rintro _ _ ⟨v3, H3, hs3, rfl, rfl⟩; infer_instance
          rintro _ _ ⟨v3, H3, hs3, rfl, rfl⟩
          refine AnyH.app ?_
          skip
          refine AnyH.one 16 (by kernel_rfl) ?_
          refine Turn.ef rfl rfl (ef_appendV (H := H3) rfl hs3 rfl (hB.mono (by intro p hp; simp [hp])) (intsC_one _) (by omega) (by omega) rfl rfl) ?_ ?_
          · rintro _ _ ⟨v4, H4, hs4, rfl, rfl⟩; infer_instance
          rintro _ _ ⟨v4, H4, hs4, rfl, rfl⟩
          refine AnyH.app ?_
          have ho1 := hs4.one
          have ho2 := hs4.cells1
          first | refine AnyH.take 17 rfl (by kernel_rfl) (by kernel_rfl) (by kernel_rfl) PF.pf rfl (pv_nilCheck rfl) rfl ?_ | refine AnyH.take 17 rfl (by kernel_rfl) (by kernel_rfl) (by kernel_rfl) PF.pf rfl (pv_nilCheck_func rfl rfl) rfl ?_
          first | refine AnyH.take 18 rfl (by kernel_rfl) (by kernel_rfl) (by kernel_rfl) PF.pf rfl (pv_fieldAddr0 rfl rfl) rfl ?_ | refine AnyH.take 18 rfl (by kernel_rfl) (by kernel_rfl) (by kernel_rfl) PF.pf rfl (pv_fieldAddr rfl rfl) rfl ?_
          refine AnyH.one 19 (by kernel_rfl) ?_
          refine Turn.ef rfl rfl (ef_store1 rfl rfl (by first | rfl | assumption) (by first | rfl | assumption)) ?_ ?_
          · rintro _ _ ⟨rfl, rfl⟩; infer_instance
          rintro _ _ ⟨rfl, rfl⟩
          refine AnyH.done (by kernel_rfl) ?_
          refine Ends.seq ?_
          refine Wp.seq ?_
          refine Wp.region ?_
          refine Ops.pv (pv_assign rfl) rfl ?_
          refine Ops.nil ?_
          refine Ends.seq ?_
          refine Wp.ret ?_
          rw [Nat.zero_add, List.nil_append, ← intsC_app, ← List.length_append, ← hrem] at hs4
          exact Ends.ret (L' := (lb, .cells [v4].toArray 28) :: H4) (res1 rfl rfl) ⟨by rw [hrb], v4, H4, hs4, rfl⟩
      · first | refine Turn.ef rfl rfl (ef_pv (pv_load rfl rfl rfl) rfl) ?_ ?_ | refine Turn.ef rfl rfl (ef_pv (pv_load rfl rfl (by assumption)) rfl) ?_ ?_
        · rintro _ _ ⟨rfl, rfl⟩; infer_instance
        rintro _ _ ⟨rfl, rfl⟩
        refine AnyH.take 15 rfl (by kernel_rfl) (by kernel_rfl) (by kernel_rfl) PF.pf rfl (pv_sliceL (i := i + 1) (j := l.length) rfl ⟨_, rfl⟩ rfl (by omega) hlc lB.symm) rfl ?_
        refine AnyH.one 5 (by kernel_rfl) ?_
        first | refine Turn.ef rfl rfl (ef_pv (pv_load rfl rfl rfl) rfl) ?_ ?_ | refine Turn.ef rfl rfl (ef_pv (pv_load rfl rfl (by assumption)) rfl) ?_ ?_
        · rintro _ _ ⟨rfl, rfl⟩; infer_instance
        rintro _ _ ⟨rfl, rfl⟩
        refine AnyH.take 7 rfl (by kernel_rfl) (by kernel_rfl) (by kernel_rfl) PF.pf rfl (pv_sliceL (i := 0) (j := i) rfl rfl ⟨_, rfl⟩ (Nat.zero_le _) (by omega) lA.symm) rfl ?_
        refine AnyH.one 8 (by kernel_rfl) ?_
        refine Turn.ef rfl rfl (ef_appendV (H := [(b1, .cells ([] : List Value).toArray 3)]) rfl (slc_empty 3 b1) rfl (hA.mono (by intro p hp; simp [hp])) (intsC_one _) (by omega) (by omega) rfl rfl) ?_ ?_
        · rintro _ _ ⟨v5, H5, hs5, rfl, rfl⟩; infer_instance
        rintro _ _ ⟨v5, H5, hs5, rfl, rfl⟩
        refine AnyH.app ?_
        skip
        refine AnyH.one 16 (by kernel_rfl) ?_
        refine Turn.ef rfl rfl (ef_appendV (H := H5) rfl hs5 rfl (hB.mono (by intro p hp; simp [hp])) (intsC_one _) (by omega) (by omega) rfl rfl) ?_ ?_
        · rintro _ _ ⟨v6, H6, hs6, rfl, rfl⟩; infer_instance
        rintro _ _ ⟨v6, H6, hs6, rfl, rfl⟩
        refine AnyH.app ?_
        have ho1 := hs6.one
        have ho2 := hs6.cells1
        first | refine AnyH.take 17 rfl (by kernel_rfl) (by kernel_rfl) (by kernel_rfl) PF.pf rfl (pv_nilCheck rfl) rfl ?_ | refine AnyH.take 17 rfl (by kernel_rfl) (by kernel_rfl) (by kernel_rfl) PF.pf rfl (pv_nilCheck_func rfl rfl) rfl ?_
        first | refine AnyH.take 18 rfl (by kernel_rfl) (by kernel_rfl) (by kernel_rfl) PF.pf rfl (pv_fieldAddr0 rfl rfl) rfl ?_ | refine AnyH.take 18 rfl (by kernel_rfl) (by kernel_rfl) (by kernel_rfl) PF.pf rfl (pv_fieldAddr rfl rfl) rfl ?_
        refine AnyH.one 19 (by kernel_rfl) ?_
        refine Turn.ef rfl rfl (ef_store1 rfl rfl (by first | rfl | assumption) (by first | rfl | assumption)) ?_ ?_
        · rintro _ _ ⟨rfl, rfl⟩; infer_instance
        rintro _ _ ⟨rfl, rfl⟩
        refine AnyH.done (by kernel_rfl) ?_
        refine Ends.seq ?_
        refine Wp.seq ?_
        refine Wp.region ?_
        refine Ops.pv (pv_assign rfl) rfl ?_
        refine Ops.nil ?_
        refine Ends.seq ?_
        refine Wp.ret ?_
        rw [Nat.zero_add, List.nil_append, ← intsC_app, ← List.length_append, ← hrem] at hs6
        exact Ends.ret (L' := (lb, .cells [v6].toArray 28) :: H6) (res1 rfl rfl) ⟨by rw [hrb], v6, H6, hs6, rfl⟩
    · first | refine Turn.ef rfl rfl (ef_pv (pv_load rfl rfl rfl) rfl) ?_ ?_ | refine Turn.ef rfl rfl (ef_pv (pv_load rfl rfl (by assumption)) rfl) ?_ ?_
      · rintro _ _ ⟨rfl, rfl⟩; infer_instance
      rintro _ _ ⟨rfl, rfl⟩
      refine AnyH.take 7 rfl (by kernel_rfl) (by kernel_rfl) (by kernel_rfl) PF.pf rfl (pv_sliceL (i := 0) (j := i) rfl rfl ⟨_, rfl⟩ (Nat.zero_le _) (by omega) lA.symm) rfl ?_
      refine AnyH.two 1 12 (by kernel_rfl) ?_ ?_
      · refine Turn.ef rfl rfl (ef_buildSlice0 rfl) ?_ ?_
        · rintro _ _ ⟨b2, rfl, rfl⟩; infer_instance
        rintro _ _ ⟨b2, rfl, rfl⟩
        refine AnyH.two 8 12 (by kernel_rfl) ?_ ?_
        · refine Turn.ef rfl rfl (ef_appendV (H := [(b2, .cells ([] : List Value).toArray 3)]) rfl (slc_empty 3 b2) rfl (hA.mono (by intro p hp; simp [hp])) (intsC_one _) (by omega) (by omega) rfl rfl) ?_ ?_
          · rintro _ _ ⟨v7, H7, hs7, rfl, rfl⟩; infer_instance
          rintro _ _ ⟨v7, H7, hs7, rfl, rfl⟩
          refine AnyH.app ?_
          skip
          refine AnyH.one 12 (by kernel_rfl) ?_
          first | refine Turn.ef rfl rfl (ef_pv (pv_load rfl rfl rfl) rfl) ?_ ?_ | refine Turn.ef rfl rfl (ef_pv (pv_load rfl rfl (by assumption)) rfl) ?_ ?_
          · rintro _ _ ⟨rfl, rfl⟩; infer_instance
          rintro _ _ ⟨rfl, rfl⟩
          refine AnyH.take 15 rfl (by kernel_rfl) (by kernel_rfl) (by kernel_rfl) PF.pf rfl (pv_sliceL (i := i + 1) (j := l.length) rfl ⟨_, rfl⟩ rfl (by omega) hlc lB.symm) rfl ?_
          refine AnyH.one 16 (by kernel_rfl) ?_
          refine Turn.ef rfl rfl (ef_appendV (H := H7) rfl hs7 rfl (hB.mono (by intro p hp; simp [hp])) (intsC_one _) (by omega) (by omega) rfl rfl) ?_ ?_
          · rintro _ _ ⟨v8, H8, hs8, rfl, rfl⟩; infer_instance
          rintro _ _ ⟨v8, H8, hs8, rfl, rfl⟩
          refine AnyH.app ?_
          have ho1 := hs8.one
          have ho2 := hs8.cells1
          first | refine AnyH.take 17 rfl (by kernel_rfl) (by kernel_rfl) (by kernel_rfl) PF.pf rfl (pv_nilCheck rfl) rfl ?_ | refine AnyH.take 17 rfl (by kernel_rfl) (by kernel_rfl) (by kernel_rfl) PF.pf rfl (pv_nilCheck_func rfl rfl) rfl ?_
          first | refine AnyH.take 18 rfl (by kernel_rfl) (by kernel_rfl) (by kernel_rfl) PF.pf rfl (pv_fieldAddr0 rfl rfl) rfl ?_ | refine AnyH.take 18 rfl (by kernel_rfl) (by kernel_rfl) (by kernel_rfl) PF.pf rfl (pv_fieldAddr rfl rfl) rfl ?_
          refine AnyH.one 19 (by kernel_rfl) ?_
          refine Turn.ef rfl rfl (ef_store1 rfl rfl (by first | rfl | assumption) (by first | rfl | assumption)) ?_ ?_
          · rintro _ _ ⟨rfl, rfl⟩; infer_instance
          rintro _ _ ⟨rfl, rfl⟩
          refine AnyH.done (by kernel_rfl) ?_
          refine Ends.seq ?_
          refine Wp.seq ?_
          refine Wp.region ?_
          refine Ops.pv (pv_assign rfl) rfl ?_
          refine Ops.nil ?_
          refine Ends.seq ?_
          refine Wp.ret ?_
          rw [Nat.zero_add, List.nil_append, ← intsC_app, ← List.length_append, ← hrem] at hs8
          exact Ends.ret (L' := (lb, .cells [v8].toArray 28) :: H8) (res1 rfl rfl) ⟨by rw [hrb], v8, H8, hs8, rfl⟩
        · first | refine Turn.ef rfl rfl (ef_pv (pv_load rfl rfl rfl) rfl) ?_ ?_ | refine Turn.ef rfl rfl (ef_pv (pv_load rfl rfl (by assumption)) rfl) ?_ ?_
          · rintro _ _ ⟨rfl, rfl⟩; infer_instance
          rintro _ _ ⟨rfl, rfl⟩
          refine AnyH.take 15 rfl (by kernel_rfl) (by kernel_rfl) (by kernel_rfl) PF.pf rfl (pv_sliceL (i := i + 1) (j := l.length) rfl ⟨_, rfl⟩ rfl (by omega) hlc lB.symm) rfl ?_
          refine AnyH.one 8 (by kernel_rfl) ?_
          refine Turn.ef rfl rfl (ef_appendV (H := [(b2, .cells ([] : List Value).toArray 3)]) rfl (slc_empty 3 b2) rfl (hA.mono (by intro p hp; simp [hp])) (intsC_one _) (by omega) (by omega) rfl rfl) ?_ ?_
          · rintro _ _ ⟨v9, H9, hs9, rfl, rfl⟩; infer_instance
          rintro _ _ ⟨v9, H9, hs9, rfl, rfl⟩
          refine AnyH.app ?_
          skip
          refine AnyH.one 16 (by kernel_rfl) ?_
          refine Turn.ef rfl rfl (ef_appendV (H := H9) rfl hs9 rfl (hB.mono (by intro p hp; simp [hp])) (intsC_one _) (by omega) (by omega) rfl rfl) ?_ ?_
          · rintro _ _ ⟨v10, H10, hs10, rfl, rfl⟩; infer_instance
          rintro _ _ ⟨v10, H10, hs10, rfl, rfl⟩
          refine AnyH.app ?_
          have ho1 := hs10.one
          have ho2 := hs10.cells1
          first | refine AnyH.take 17 rfl (by kernel_rfl) (by kernel_rfl) (by kernel_rfl) PF.pf rfl (pv_nilCheck rfl) rfl ?_ | refine AnyH.take 17 rfl (by kernel_rfl) (by kernel_rfl) (by kernel_rfl) PF.pf rfl (pv_nilCheck_func rfl rfl) rfl ?_
          first | refine AnyH.take 18 rfl (by kernel_rfl) (by kernel_rfl) (by kernel_rfl) PF.pf rfl (pv_fieldAddr0 rfl rfl) rfl ?_ | refine AnyH.take 18 rfl (by kernel_rfl) (by kernel_rfl) (by kernel_rfl) PF.pf rfl (pv_fieldAddr rfl rfl) rfl ?_
          refine AnyH.one 19 (by kernel_rfl) ?_
          refine Turn.ef rfl rfl (ef_store1 rfl rfl (by first | rfl | assumption) (by first | rfl | assumption)) ?_ ?_
          · rintro _ _ ⟨rfl, rfl⟩; infer_instance
          rintro _ _ ⟨rfl, rfl⟩
          refine AnyH.done (by kernel_rfl) ?_
          refine Ends.seq ?_
          refine Wp.seq ?_
          refine Wp.region ?_
          refine Ops.pv (pv_assign rfl) rfl ?_
          refine Ops.nil ?_
          refine Ends.seq ?_
          refine Wp.ret ?_
          rw [Nat.zero_add, List.nil_append, ← intsC_app, ← List.length_append, ← hrem] at hs10
          exact Ends.ret (L' := (lb, .cells [v10].toArray 28) :: H10) (res1 rfl rfl) ⟨by rw [hrb], v10, H10, hs10, rfl⟩
      · first | refine Turn.ef rfl rfl (ef_pv (pv_load rfl rfl rfl) rfl) ?_ ?_ | refine Turn.ef rfl rfl (ef_pv (pv_load rfl rfl (by assumption)) rfl) ?_ ?_
        · rintro _ _ ⟨rfl, rfl⟩; infer_instance
        rintro _ _ ⟨rfl, rfl⟩
        refine AnyH.take 15 rfl (by kernel_rfl) (by kernel_rfl) (by kernel_rfl) PF.pf rfl (pv_sliceL (i := i + 1) (j := l.length) rfl ⟨_, rfl⟩ rfl (by omega) hlc lB.symm) rfl ?_
        refine AnyH.one 1 (by kernel_rfl) ?_
        refine Turn.ef rfl rfl (ef_buildSlice0 rfl) ?_ ?_
        · rintro _ _ ⟨b3, rfl, rfl⟩; infer_instance
        rintro _ _ ⟨b3, rfl, rfl⟩
        refine AnyH.one 8 (by kernel_rfl) ?_
        refine Turn.ef rfl rfl (ef_appendV (H := [(b3, .cells ([] : List Value).toArray 3)]) rfl (slc_empty 3 b3) rfl (hA.mono (by intro p hp; simp [hp])) (intsC_one _) (by omega) (by omega) rfl rfl) ?_ ?_
        · rintro _ _ ⟨v11, H11, hs11, rfl, rfl⟩; infer_instance
        rintro _ _ ⟨v11, H11, hs11, rfl, rfl⟩
        refine AnyH.app ?_
        skip
        refine AnyH.one 16 (by kernel_rfl) ?_
        refine Turn.ef rfl rfl (ef_appendV (H := H11) rfl hs11 rfl (hB.mono (by intro p hp; simp [hp])) (intsC_one _) (by omega) (by omega) rfl rfl) ?_ ?_
        · rintro _ _ ⟨v12, H12, hs12, rfl, rfl⟩; infer_instance
        rintro _ _ ⟨v12, H12, hs12, rfl, rfl⟩
        refine AnyH.app ?_
        have ho1 := hs12.one
        have ho2 := hs12.cells1
        first | refine AnyH.take 17 rfl (by kernel_rfl) (by kernel_rfl) (by kernel_rfl) PF.pf rfl (pv_nilCheck rfl) rfl ?_ | refine AnyH.take 17 rfl (by kernel_rfl) (by kernel_rfl) (by kernel_rfl) PF.pf rfl (pv_nilCheck_func rfl rfl) rfl ?_
        first | refine AnyH.take 18 rfl (by kernel_rfl) (by kernel_rfl) (by kernel_rfl) PF.pf rfl (pv_fieldAddr0 rfl rfl) rfl ?_ | refine AnyH.take 18 rfl (by kernel_rfl) (by kernel_rfl) (by kernel_rfl) PF.pf rfl (pv_fieldAddr rfl rfl) rfl ?_
        refine AnyH.one 19 (by kernel_rfl) ?_
        refine Turn.ef rfl rfl (ef_store1 rfl rfl (by first | rfl | assumption) (by first | rfl | assumption)) ?_ ?_
        · rintro _ _ ⟨rfl, rfl⟩; infer_instance
        rintro _ _ ⟨rfl, rfl⟩
        refine AnyH.done (by kernel_rfl) ?_
        refine Ends.seq ?_
        refine Wp.seq ?_
        refine Wp.region ?_
        refine Ops.pv (pv_assign rfl) rfl ?_
        refine Ops.nil ?_
        refine Ends.seq ?_
        refine Wp.ret ?_
        rw [Nat.zero_add, List.nil_append, ← intsC_app, ← List.length_append, ← hrem] at hs12
        exact Ends.ret (L' := (lb, .cells [v12].toArray 28) :: H12) (res1 rfl rfl) ⟨by rw [hrb], v12, H12, hs12, rfl⟩
    · first | refine Turn.ef rfl rfl (ef_pv (pv_load rfl rfl rfl) rfl) ?_ ?_ | refine Turn.ef rfl rfl (ef_pv (pv_load rfl rfl (by assumption)) rfl) ?_ ?_
      · rintro _ _ ⟨rfl, rfl⟩; infer_instance
      rintro _ _ ⟨rfl, rfl⟩
      refine AnyH.take 15 rfl (by kernel_rfl) (by kernel_rfl) (by kernel_rfl) PF.pf rfl (pv_sliceL (i := i + 1) (j := l.length) rfl ⟨_, rfl⟩ rfl (by omega) hlc lB.symm) rfl ?_
      refine AnyH.two 1 5 (by kernel_rfl) ?_ ?_
      · refine Turn.ef rfl rfl (ef_buildSlice0 rfl) ?_ ?_
        · rintro _ _ ⟨b4, rfl, rfl⟩; infer_instance
        rintro _ _ ⟨b4, rfl, rfl⟩
        refine AnyH.one 5 (by kernel_rfl) ?_
        first | refine Turn.ef rfl rfl (ef_pv (pv_load rfl rfl rfl) rfl) ?_ ?_ | refine Turn.ef rfl rfl (ef_pv (pv_load rfl rfl (by assumption)) rfl) ?_ ?_
        · rintro _ _ ⟨rfl, rfl⟩; infer_instance
        rintro _ _ ⟨rfl, rfl⟩
        refine AnyH.take 7 rfl (by kernel_rfl) (by kernel_rfl) (by kernel_rfl) PF.pf rfl (pv_sliceL (i := 0) (j := i) rfl rfl ⟨_, rfl⟩ (Nat.zero_le _) (by omega) lA.symm) rfl ?_
        refine AnyH.one 8 (by kernel_rfl) ?_
        refine Turn.ef rfl rfl (ef_appendV (H := [(b4, .cells ([] : List Value).toArray 3)]) rfl (slc_empty 3 b4) rfl (hA.mono (by intro p hp; simp [hp])) (intsC_one _) (by omega) (by omega) rfl rfl) ?_ ?_
        · rintro _ _ ⟨v13, H13, hs13, rfl, rfl⟩; infer_instance
        rintro _ _ ⟨v13, H13, hs13, rfl, rfl⟩
        refine AnyH.app ?_
        skip
        refine AnyH.one 16 (by kernel_rfl) ?_
        refine Turn.ef rfl rfl (ef_appendV (H := H13) rfl hs13 rfl (hB.mono (by intro p hp; simp [hp])) (intsC_one _) (by omega) (by omega) rfl rfl) ?_ ?_
        · rintro _ _ ⟨v14, H14, hs14, rfl, rfl⟩; infer_instance
        rintro _ _ ⟨v14, H14, hs14, rfl, rfl⟩
        refine AnyH.app ?_
        have ho1 := hs14.one
        have ho2 := hs14.cells1
        first | refine AnyH.take 17 rfl (by kernel_rfl) (by kernel_rfl) (by kernel_rfl) PF.pf rfl (pv_nilCheck rfl) rfl ?_ | refine AnyH.take 17 rfl (by kernel_rfl) (by kernel_rfl) (by kernel_rfl) PF.pf rfl (pv_nilCheck_func rfl rfl) rfl ?_
        first | refine AnyH.take 18 rfl (by kernel_rfl) (by kernel_rfl) (by kernel_rfl) PF.pf rfl (pv_fieldAddr0 rfl rfl) rfl ?_ | refine AnyH.take 18 rfl (by kernel_rfl) (by kernel_rfl) (by kernel_rfl) PF.pf rfl (pv_fieldAddr rfl rfl) rfl ?_
        refine AnyH.one 19 (by kernel_rfl) ?_
        refine Turn.ef rfl rfl (ef_store1 rfl rfl (by first | rfl | assumption) (by first | rfl | assumption)) ?_ ?_
        · rintro _ _ ⟨rfl, rfl⟩; infer_instance
        rintro _ _ ⟨rfl, rfl⟩
        refine AnyH.done (by kernel_rfl) ?_
        refine Ends.seq ?_
        refine Wp.seq ?_
        refine Wp.region ?_
        refine Ops.pv (pv_assign rfl) rfl ?_
        refine Ops.nil ?_
        refine Ends.seq ?_
        refine Wp.ret ?_
        rw [Nat.zero_add, List.nil_append, ← intsC_app, ← List.length_append, ← hrem] at hs14
        exact Ends.ret (L' := (lb, .cells [v14].toArray 28) :: H14) (res1 rfl rfl) ⟨by rw [hrb], v14, H14, hs14, rfl⟩
      · first | refine Turn.ef rfl rfl (ef_pv (pv_load rfl rfl rfl) rfl) ?_ ?_ | refine Turn.ef rfl rfl (ef_pv (pv_load rfl rfl (by assumption)) rfl) ?_ ?_
        · rintro _ _ ⟨rfl, rfl⟩; infer_instance
        rintro _ _ ⟨rfl, rfl⟩
        refine AnyH.take 7 rfl (by kernel_rfl) (by kernel_rfl) (by kernel_rfl) PF.pf rfl (pv_sliceL (i := 0) (j := i) rfl rfl ⟨_, rfl⟩ (Nat.zero_le _) (by omega) lA.symm) rfl ?_
        refine AnyH.one 1 (by kernel_rfl) ?_
        refine Turn.ef rfl rfl (ef_buildSlice0 rfl) ?_ ?_
        · rintro _ _ ⟨b5, rfl, rfl⟩; infer_instance
        rintro _ _ ⟨b5, rfl, rfl⟩
        refine AnyH.one 8 (by kernel_rfl) ?_
        refine Turn.ef rfl rfl (ef_appendV (H := [(b5, .cells ([] : List Value).toArray 3)]) rfl (slc_empty 3 b5) rfl (hA.mono (by intro p hp; simp [hp])) (intsC_one _) (by omega) (by omega) rfl rfl) ?_ ?_
        · rintro _ _ ⟨v15, H15, hs15, rfl, rfl⟩; infer_instance
        rintro _ _ ⟨v15, H15, hs15, rfl, rfl⟩
        refine AnyH.app ?_
        skip
        refine AnyH.one 16 (by kernel_rfl) ?_
        refine Turn.ef rfl rfl (ef_appendV (H := H15) rfl hs15 rfl (hB.mono (by intro p hp; simp [hp])) (intsC_one _) (by omega) (by omega) rfl rfl) ?_ ?_
        · rintro _ _ ⟨v16, H16, hs16, rfl, rfl⟩; infer_instance
        rintro _ _ ⟨v16, H16, hs16, rfl, rfl⟩
        refine AnyH.app ?_
        have ho1 := hs16.one
        have ho2 := hs16.cells1
        first | refine AnyH.take 17 rfl (by kernel_rfl) (by kernel_rfl) (by kernel_rfl) PF.pf rfl (pv_nilCheck rfl) rfl ?_ | refine AnyH.take 17 rfl (by kernel_rfl) (by kernel_rfl) (by kernel_rfl) PF.pf rfl (pv_nilCheck_func rfl rfl) rfl ?_
        first | refine AnyH.take 18 rfl (by kernel_rfl) (by kernel_rfl) (by kernel_rfl) PF.pf rfl (pv_fieldAddr0 rfl rfl) rfl ?_ | refine AnyH.take 18 rfl (by kernel_rfl) (by kernel_rfl) (by kernel_rfl) PF.pf rfl (pv_fieldAddr rfl rfl) rfl ?_
        refine AnyH.one 19 (by kernel_rfl) ?_
        refine Turn.ef rfl rfl (ef_store1 rfl rfl (by first | rfl | assumption) (by first | rfl | assumption)) ?_ ?_
        · rintro _ _ ⟨rfl, rfl⟩; infer_instance
        rintro _ _ ⟨rfl, rfl⟩
        refine AnyH.done (by kernel_rfl) ?_
        refine Ends.seq ?_
        refine Wp.seq ?_
        refine Wp.region ?_
        refine Ops.pv (pv_assign rfl) rfl ?_
        refine Ops.nil ?_
        refine Ends.seq ?_
        refine Wp.ret ?_
        rw [Nat.zero_add, List.nil_append, ← intsC_app, ← List.length_append, ← hrem] at hs16
        exact Ends.ret (L' := (lb, .cells [v16].toArray 28) :: H16) (res1 rfl rfl) ⟨by rw [hrb], v16, H16, hs16, rfl⟩

theorem tr_lpush (lb : Nat) (v : Value) (H : Hp) (l : List Int) (x : Int) (hs : Slc 3 1 v l.length (intsC l) H) (hl : l.length ≤ 2 ^ 30) : Tr Try.prog 16 [.pointer (some ⟨lb, 0, none⟩), .int .i64 x] ((lb, .cells [v].toArray 87) :: H) (fun u L' => u = .int .i64 (pushE l x) ∧ ∃ v' H', Slc 3 1 v' (pushL l x).length (intsC (pushL l x)) H' ∧ L' = (lb, .cells [v'].toArray 87) :: H') :=
  tr_lpushG lb 0 87 [v] v H l x hs hl rfl

theorem tr_lpop (lb : Nat) (v : Value) (H : Hp) (l : List Int) (hs : Slc 3 1 v l.length (intsC l) H) (hl : l.length ≤ 2 ^ 30) : Tr Try.prog 18 [.pointer (some ⟨lb, 0, none⟩)] ((lb, .cells [v].toArray 87) :: H) (fun u L' => u = .tuple #[.int .i64 (popV l), .bool (popB l)] ∧ ∃ v' H', Slc 3 1 v' (l.tail).length (intsC (l.tail)) H' ∧ L' = (lb, .cells [v'].toArray 87) :: H') :=
  tr_lpopG lb 0 87 [v] v H l hs hl rfl

theorem tr_lremove (lb : Nat) (v : Value) (H : Hp) (l : List Int) (x : Int) (hs : Slc 3 1 v l.length (intsC l) H) (hl : l.length ≤ 2 ^ 30) : Tr Try.prog 20 [.pointer (some ⟨lb, 0, none⟩), .int .i64 x] ((lb, .cells [v].toArray 87) :: H) (fun u L' => u = .bool (remB l x) ∧ ∃ v' H', Slc 3 1 v' (remL l x).length (intsC (remL l x)) H' ∧ L' = (lb, .cells [v'].toArray 87) :: H') :=
  tr_lremoveG lb 0 87 [v] v H l x hs hl rfl

theorem tr_listG (lb off TT : Nat) (c0 : List Value) (G : Hp) (a : Option Addr) (c : Nat) (l : List Int) (hv : View G 1 (.slice a l.length c) l.length (intsC l)) (hl : l.length ≤ 2 ^ 30) (hc0 : nth c0 off = some (.slice a l.length c)) : Tr Try.prog 23 [.pointer (some ⟨lb, off, none⟩)] ((lb, .cells c0.toArray TT) :: G) (fun u L' => ∃ H', Slc 3 1 u l.length (intsC l) H' ∧ L' = H' ++ ((lb, .cells c0.toArray TT) :: G)) := by
  refine Tr.enter Try.func23 rfl Try.ntmps23 rfl (fun W F => ?_)
  refine Wp.app ?_
  refine Wp.seq ?_
  refine Wp.region ?_
  refine Ops.pv (pv_assign rfl) rfl ?_
  refine Ops.nil ?_
  refine Ends.seq ?_
  refine Wp.seq ?_
  refine Wp.region ?_
  refine Ops.pv (pv_move rfl) rfl ?_
  first | refine Ops.pv (pv_nilCheck rfl) rfl ?_ | refine Ops.pv (pv_nilCheck_func rfl rfl) rfl ?_
  first | refine Ops.pv (pv_fieldAddr0 rfl rfl) rfl ?_ | refine Ops.pv (pv_fieldAddr rfl rfl) rfl ?_
  first | refine Ops.pv (pv_load rfl rfl rfl) rfl ?_ | refine Ops.pv (pv_load rfl rfl (by assumption)) rfl ?_
  refine Ops.ef rfl (ef_call (tr_clone G a c l hv (by omega)) rfl rfl) ?_
  rintro _ _ ⟨_, _, ⟨H1, hs1, rfl⟩, rfl, rfl⟩
  refine Ops.app ?_
  skip
  refine Ops.pv (pv_assign rfl) rfl ?_
  refine Ops.nil ?_
  refine Ends.seq ?_
  refine Wp.ret ?_
  exact Ends.ret (L' := H1 ++ ((lb, .cells c0.toArray TT) :: G)) (res1 rfl rfl) ⟨H1, hs1, rfl⟩

theorem tr_list (lb : Nat) (v : Value) (H : Hp) (l : List Int) (hs : Slc 3 1 v l.length (intsC l) H) (hl : l.length ≤ 2 ^ 30) : Tr Try.prog 23 [.pointer (some ⟨lb, 0, none⟩)] ((lb, .cells [v].toArray 87) :: H) (fun u L' => ∃ H', Slc 3 1 u l.length (intsC l) H' ∧ L' = H' ++ ((lb, .cells [v].toArray 87) :: H)) := by
  obtain ⟨a, c, rfl⟩ := hs.form
  exact tr_listG lb 0 87 [.slice a l.length c] H a c l hs.view hl rfl

theorem tr_same (G K : Hp) (a1 a2 : Option Addr) (c1 c2 : Nat) (l : List Int) (hv1 : View G 1 (.slice a1 l.length c1) l.length (intsC l)) (hv2 : View K 1 (.slice a2 l.length c2) l.length (intsC l)) (hl : l.length ≤ 2 ^ 30) : TrR Try.prog 22 [.slice a1 l.length c1, .slice a2 l.length c2] (G ++ K) (.bool true) := by
  refine Tr.enter Try.func22 rfl Try.ntmps22 rfl (fun W F => ?_)
  refine Wp.app ?_
  refine Wp.seq ?_
  refine Wp.region ?_
  refine Ops.pv (pv_assign rfl) rfl ?_
  refine Ops.nil ?_
  refine Ends.seq ?_
  refine Wp.seq ?_
  refine Wp.seq ?_
  refine Wp.region ?_
  refine Ops.pv (pv_move rfl) rfl ?_
  refine Ops.pv (pv_len_slice (T := 26) rfl rfl) rfl ?_
  refine Ops.pv (pv_move rfl) rfl ?_
  refine Ops.pv (pv_len_slice (T := 26) rfl rfl) rfl ?_
  refine Ops.pv ((pv_neq rfl rfl).fls (fun h => h rfl)) rfl ?_
  refine Ops.nil ?_
  refine Ends.seq ?_
  refine Wp.cond_false rfl ?_
  refine Wp.skip ?_
  refine Ends.seq ?_
  refine Wp.seq ?_
  refine Wp.seq ?_
  refine Wp.region ?_
  refine Ops.pv (pv_assign rfl) rfl ?_
  refine Ops.nil ?_
  refine Ends.seq ?_
  refine Wp.block ?_
  refine Wp.loop (σ := Nat) (fun i => [(0, .slice a1 l.length c1), (1, .slice a2 l.length c2), (4, .bool false), (5, .int .i64 i)]) (fun _ => G ++ (K ++ F)) (fun i => i ≤ l.length) (fun i => l.length - i) 0 (Nat.zero_le _) (by exact ⟨rfl, rfl, rfl, rfl, trivial⟩) (by intro w ho; exact ho) ?_
  intro i K2 hi hK
  refine Wp.seq ?_
  refine Wp.seq ?_
  refine Wp.region ?_
  refine Ops.pv (pv_move rfl) rfl ?_
  refine Ops.pv (pv_move rfl) rfl ?_
  refine Ops.pv (pv_len_slice (T := 26) rfl rfl) rfl ?_
  refine Ops.pv (pv_lss rfl rfl) rfl ?_
  refine Ops.nil ?_
  refine Ends.seq ?_
  first | refine Wp.cond_dect rfl (fun h1 => ?_) (fun h1 => ?_) | refine Wp.cond_t rfl (fun h1 => ?_) (fun h1 => ?_)
  · obtain ⟨b, o, cap, cc, T, f, hq1, hbv, hr⟩ := hv1.open (by omega)
    cases hq1
    obtain ⟨b', o', cap', cc', T', f', hq2, hbv', hr'⟩ := hv2.open (by omega)
    cases hq2
    obtain ⟨y, hy⟩ : ∃ y, l[i]? = some y := ⟨_, List.getElem?_eq_getElem (by omega)⟩
    have hny := ints_nth hr hy
    have hny' := ints_nth hr' hy
    refine Wp.skip ?_
    refine Ends.seq ?_
    refine Wp.seq ?_
    refine Wp.block ?_
    refine Wp.seq ?_
    refine AnyH.startL 9 rfl ?_
    refine AnyH.take 0 rfl (by kernel_rfl) (by kernel_rfl) (by kernel_rfl) PF.pf rfl (pv_move rfl) rfl ?_
    refine AnyH.take 1 rfl (by kernel_rfl) (by kernel_rfl) (by kernel_rfl) PF.pf rfl (pv_move rfl) rfl ?_
    refine AnyH.take 2 rfl (by kernel_rfl) (by kernel_rfl) (by kernel_rfl) PF.pf rfl (pv_indexAddr (i := i) rfl rfl rfl (by omega)) rfl ?_
    refine AnyH.take 3 rfl (by kernel_rfl) (by kernel_rfl) (by kernel_rfl) PF.pf rfl (pv_load rfl rfl hny) rfl ?_
    refine AnyH.take 4 rfl (by kernel_rfl) (by kernel_rfl) (by kernel_rfl) PF.pf rfl (pv_move rfl) rfl ?_
    refine AnyH.take 5 rfl (by kernel_rfl) (by kernel_rfl) (by kernel_rfl) PF.pf rfl (pv_move rfl) rfl ?_
    refine AnyH.take 6 rfl (by kernel_rfl) (by kernel_rfl) (by kernel_rfl) PF.pf rfl (pv_indexAddr (i := i) rfl rfl rfl (by omega)) rfl ?_
    refine AnyH.take 7 rfl (by kernel_rfl) (by kernel_rfl) (by kernel_rfl) PF.pf rfl (pv_load rfl rfl hny') rfl ?_
    refine AnyH.take 8 rfl (by kernel_rfl) (by kernel_rfl) (by kernel_rfl) PF.pf rfl ((pv_neq rfl rfl).fls (fun h => h rfl)) rfl ?_
    refine AnyH.done (by kernel_rfl) ?_
    refine Ends.seq ?_
    refine Wp.cond_false rfl ?_
    refine Wp.skip ?_
    refine Ends.block_normal ?_
    refine Ends.seq ?_
    refine Wp.region ?_
    refine Ops.pv (pv_move rfl) rfl ?_
    first | refine Ops.pv (pv_add rfl rfl (w64 (by omega) (by omega))) rfl ?_ | refine Ops.pv (pv_add rfl rfl rfl) rfl ?_
    refine Ops.pv (pv_assign rfl) rfl ?_
    refine Ops.nil ?_
    refine Ends.goes ?_
    refine Goes.back (hK (i + 1) (by omega) (by omega)) ⟨rfl, rfl, rfl, rfl, trivial⟩
  · refine Wp.exit ?_
    refine Ends.then_exit ?_
    refine Ends.then_exit ?_
    refine Ends.block_hit ?_
    refine Ends.seq ?_
    refine Wp.seq ?_
    refine Wp.region ?_
    refine Ops.pv (pv_assign rfl) rfl ?_
    refine Ops.nil ?_
    refine Ends.seq ?_
    refine Wp.ret ?_
    exact Ends.ret (res1 rfl rfl) ⟨rfl, rfl⟩

end Go.Proofs.Ytpjodkcghiklcaa
