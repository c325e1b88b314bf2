/- Walks of layer 21: the program's schedule answers as the plain functions say. No condition. -/
import Derived.Test.YtpjodkcghiklcabM21h
set_option linter.unusedVariables false
set_option linter.unusedSimpArgs false
namespace Go.Proofs.Ytpjodkcghiklcab
open Go.SL

theorem tr_listS {rb : Nat → Nat} {h : Nat → Hp} {L : Nat → Ones} (hR : Rdys L rb h) (hW : RdysW L) (hl : RdysL L (2 ^ 20)) {d : Nat} (hd : d < 4) (k : Int) : Tr Try.prog 38 [.pointer (some ⟨rb d, 0, none⟩), .int .i64 k] (segs h 4) (fun u L' => ∃ H', Slc 3 1 u (lvl (L d) k).length (intsC (lvl (L d) k)) H' ∧ L' = H' ++ segs h 4) :=
  ((tr_rdyList (rb d) (h d) (L d) (hR d hd) (hW d hd) (hl d hd) k).inSeg hd).post (by
    rintro v L1 ⟨L2, ⟨H', hs, rfl⟩, rfl⟩
    exact ⟨_, ⟨H', hs, rfl⟩, by rw [List.append_assoc]; exact List.Perm.append_left H' (segs_take hd).symm⟩)
theorem tr_putS {rb : Nat → Nat} {h : Nat → Hp} {L : Nat → Ones} (hR : Rdys L rb h) (hW : RdysW L) (hl : RdysL L (2 ^ 20)) {d : Nat} (hd : d < 4) (x k : Int) : Tr Try.prog 30 [.pointer (some ⟨rb d, 0, none⟩), .int .i64 x, .int .i64 k] (segs h 4) (fun u L' => u = .int .i64 (putE (L d) x k) ∧ ∃ H', RdyH (putR (L d) x k) (rb d) H' ∧ L' = segs (fset h d H') 4) :=
  ((tr_rdyPut (rb d) (h d) (L d) (hR d hd) (hW d hd) (hl d hd) x k).inSeg hd).post (by
    rintro v L1 ⟨L2, ⟨rfl, hs⟩, rfl⟩
    exact ⟨_, ⟨rfl, L2, hs, rfl⟩, segs_put hd⟩)
theorem tr_dropS {rb : Nat → Nat} {h : Nat → Hp} {L : Nat → Ones} (hR : Rdys L rb h) (hW : RdysW L) (hl : RdysL L (2 ^ 20)) {d : Nat} (hd : d < 4) (x : Int) : Tr Try.prog 32 [.pointer (some ⟨rb d, 0, none⟩), .int .i64 x] (segs h 4) (fun u L' => u = .bool (inR (L d) x) ∧ ∃ H', RdyH (dropR (L d) x) (rb d) H' ∧ L' = segs (fset h d H') 4) :=
  ((tr_rdyDrop (rb d) (h d) (L d) (hR d hd) (hW d hd) (hl d hd) x).inSeg hd).post (by
    rintro v L1 ⟨L2, ⟨rfl, hs⟩, rfl⟩
    exact ⟨_, ⟨rfl, L2, hs, rfl⟩, segs_put hd⟩)
theorem tr_nextS {rb : Nat → Nat} {h : Nat → Hp} {L : Nat → Ones} (hR : Rdys L rb h) (hW : RdysW L) (hl : RdysL L (2 ^ 20)) {d : Nat} (hd : d < 4) : TrR Try.prog 31 [.pointer (some ⟨rb d, 0, none⟩)] (segs h 4) (.tuple #[.int .i64 (nextV (L d)), .bool (nextB (L d))]) :=
  (tr_rdyNext (rb d) (h d) (L d) (hR d hd) (hW d hd) (hl d hd)).inSeg hd

theorem tr_domain (x : Int) : TrR Try.prog 26 [.int .i64 x] ([]) (.bool (domB x)) := by
  refine Tr.enter Try.func26 rfl Try.ntmps26 rfl (fun W F => ?_)
  refine Wp.app ?_
  refine Wp.seq ?_
  refine Wp.region ?_
  refine Ops.pv (pv_assign rfl) rfl ?_
  refine Ops.nil ?_
  refine Ends.seq ?_
  refine Wp.seq ?_
  refine Wp.region ?_
  refine Ops.pv (pv_move rfl) rfl ?_
  refine Ops.pv (pv_geq rfl rfl) rfl ?_
  refine Ops.pv (pv_move rfl) rfl ?_
  refine Ops.pvc rfl rfl (fun hg => pv_move rfl) rfl ?_
  refine Ops.pvc rfl rfl (fun hg => Pv.setE (t := 6) rfl (cv_pos hg) (pv_lss rfl rfl)) rfl ?_
  refine Ops.pv (pv_pick_and rfl rfl) rfl ?_
  refine Ops.pv (pv_assign rfl) rfl ?_
  refine Ops.nil ?_
  refine Ends.seq ?_
  refine Wp.ret ?_
  exact Ends.ret (res1 rfl rfl) ⟨rfl, rfl⟩

theorem tr_cloneT (G : Hp) (a : Option Addr) (c : Nat) (l : Ones) (hv : View G 2 (.slice a l.length c) l.length (cel oneC l)) (hl : l.length ≤ 2 ^ 40) : Tr Try.prog 27 [.slice a l.length c] (G) (fun v L' => ∃ H, Slc 39 2 v l.length (cel oneC l) H ∧ L' = H ++ G) := by
  refine Tr.enter Try.func27 rfl Try.ntmps27 rfl (fun W F => ?_)
  refine Wp.app ?_
  refine Wp.seq ?_
  refine Wp.region ?_
  refine Ops.pv (pv_assign rfl) rfl ?_
  refine Ops.nil ?_
  refine Ends.seq ?_
  refine Wp.seq ?_
  refine Wp.seq ?_
  refine Wp.region ?_
  refine Ops.pv (pv_move rfl) rfl ?_
  refine Ops.pv (pv_eql_slcnil rfl rfl) rfl ?_
  refine Ops.nil ?_
  refine Ends.seq ?_
  refine Wp.cond_t rfl (fun h1 => ?_) (fun h1 => ?_)
  · obtain rfl := Option.isNone_iff_eq_none.1 h1
    obtain ⟨e0, e1⟩ := view_nil' hv
    refine Wp.seq ?_
    refine Wp.region ?_
    refine Ops.pv (pv_assign rfl) rfl ?_
    refine Ops.nil ?_
    refine Ends.seq ?_
    refine Wp.ret ?_
    refine Ends.then_ret ?_
    exact Ends.ret (L' := G) (res1 rfl rfl) ⟨[], by rw [e0, e1]; exact Slc.nil _ _, rfl⟩
  · refine Wp.skip ?_
    refine Ends.seq ?_
    refine Wp.seq ?_
    refine Wp.region ?_
    refine Ops.ef rfl (ef_buildSlice0 rfl) ?_
    rintro _ _ ⟨b1, rfl, rfl⟩
    refine Ops.pv (pv_move rfl) rfl ?_
    refine Ops.ef rfl (ef_appendV (H := [(b1, .cells ([] : List Value).toArray 39)]) rfl (slc_empty' 39 2 b1) rfl (hv.mono (by intro p hp; simp [hp])) (cel_one l) (by omega) (by omega) rfl rfl) ?_
    rintro _ _ ⟨v1, H1, hs1, rfl, rfl⟩
    refine Ops.app ?_
    skip
    refine Ops.pv (pv_assign rfl) rfl ?_
    refine Ops.nil ?_
    refine Ends.seq ?_
    refine Wp.ret ?_
    rw [Nat.zero_add, List.nil_append] at hs1
    exact Ends.ret (L' := H1 ++ G) (res1 rfl rfl) ⟨H1, hs1, rfl⟩

theorem tr_sDomain (sb : Nat) (H : Hp) (T : Ones) (e : Nat) (l : Int) (L : Nat → Ones) (hH : SchH T e l L sb H) (hA : At T e l) : TrR Try.prog 11 [.pointer (some ⟨sb, 0, none⟩)] (H) (.int .i64 (tkd T e).1) := by
  obtain ⟨v, K, rb, h, hs, hR, rfl⟩ := hH
  obtain ⟨a, c, rfl⟩ := hs.form
  have hv := hs.view
  have hlt := hA.lt
  obtain ⟨b, o, cap, cc, T0, f, hv1, hbv, hr⟩ := hv.open (by omega)
  cases hv1
  obtain ⟨q0, q1⟩ := one_read hr (tkd_get hlt)
  refine Tr.enter Try.func11 rfl Try.ntmps11 rfl (fun W F => ?_)
  refine Wp.app ?_
  refine Wp.seq ?_
  refine Wp.region ?_
  refine Ops.pv (pv_assign rfl) rfl ?_
  refine Ops.nil ?_
  refine Ends.seq ?_
  refine Wp.seq ?_
  refine AnyH.startL 12 rfl ?_
  refine AnyH.take 0 rfl (by kernel_rfl) (by kernel_rfl) (by kernel_rfl) PF.pf rfl (pv_move rfl) rfl ?_
  first | refine AnyH.take 1 rfl (by kernel_rfl) (by kernel_rfl) (by kernel_rfl) PF.pf rfl (pv_nilCheck rfl) rfl ?_ | refine AnyH.take 1 rfl (by kernel_rfl) (by kernel_rfl) (by kernel_rfl) PF.pf rfl (pv_nilCheck_func rfl rfl) rfl ?_
  first | refine AnyH.take 2 rfl (by kernel_rfl) (by kernel_rfl) (by kernel_rfl) PF.pf rfl (pv_fieldAddr0 rfl rfl) rfl ?_ | refine AnyH.take 2 rfl (by kernel_rfl) (by kernel_rfl) (by kernel_rfl) PF.pf rfl (pv_fieldAddr rfl rfl) rfl ?_
  refine AnyH.take 3 rfl (by kernel_rfl) (by kernel_rfl) (by kernel_rfl) PF.pf rfl (pv_load rfl rfl sch_0) rfl ?_
  refine AnyH.take 4 rfl (by kernel_rfl) (by kernel_rfl) (by kernel_rfl) PF.pf rfl (pv_move rfl) rfl ?_
  first | refine AnyH.take 5 rfl (by kernel_rfl) (by kernel_rfl) (by kernel_rfl) PF.pf rfl (pv_nilCheck rfl) rfl ?_ | refine AnyH.take 5 rfl (by kernel_rfl) (by kernel_rfl) (by kernel_rfl) PF.pf rfl (pv_nilCheck_func rfl rfl) rfl ?_
  first | refine AnyH.take 6 rfl (by kernel_rfl) (by kernel_rfl) (by kernel_rfl) PF.pf rfl (pv_fieldAddr0 rfl rfl) rfl ?_ | refine AnyH.take 6 rfl (by kernel_rfl) (by kernel_rfl) (by kernel_rfl) PF.pf rfl (pv_fieldAddr rfl rfl) rfl ?_
  refine AnyH.take 7 rfl (by kernel_rfl) (by kernel_rfl) (by kernel_rfl) PF.pf rfl (pv_load rfl rfl sch_1) rfl ?_
  refine AnyH.take 8 rfl (by kernel_rfl) (by kernel_rfl) (by kernel_rfl) PF.pf rfl (pv_indexAddr (i := e) rfl rfl rfl hlt) rfl ?_
  first | refine AnyH.take 9 rfl (by kernel_rfl) (by kernel_rfl) (by kernel_rfl) PF.pf rfl (pv_fieldAddr0 rfl rfl) rfl ?_ | refine AnyH.take 9 rfl (by kernel_rfl) (by kernel_rfl) (by kernel_rfl) PF.pf rfl (pv_fieldAddr rfl rfl) rfl ?_
  refine AnyH.take 10 rfl (by kernel_rfl) (by kernel_rfl) (by kernel_rfl) PF.pf rfl (pv_load rfl rfl q0) rfl ?_
  refine AnyH.take 11 rfl (by kernel_rfl) (by kernel_rfl) (by kernel_rfl) PF.pf rfl (pv_assign rfl) rfl ?_
  refine AnyH.done (by kernel_rfl) ?_
  refine Ends.seq ?_
  refine Wp.ret ?_
  exact Ends.ret (res1 rfl rfl) ⟨rfl, rfl⟩

theorem tr_sNow (sb : Nat) (H : Hp) (T : Ones) (e : Nat) (l : Int) (L : Nat → Ones) (hH : SchH T e l L sb H) (hA : At T e l) : TrR Try.prog 13 [.pointer (some ⟨sb, 0, none⟩)] (H) (.tuple #[.int .i64 e, .int .i64 l]) := by
  obtain ⟨v, K, rb, h, hs, hR, rfl⟩ := hH
  refine Tr.enter Try.func13 rfl Try.ntmps13 rfl (fun W F => ?_)
  refine Wp.app ?_
  refine Wp.seq ?_
  refine Wp.region ?_
  refine Ops.pv (pv_assign rfl) rfl ?_
  refine Ops.pv (pv_assign rfl) rfl ?_
  refine Ops.nil ?_
  refine Ends.seq ?_
  refine Wp.seq ?_
  refine AnyH.startL 10 rfl ?_
  refine AnyH.take 0 rfl (by kernel_rfl) (by kernel_rfl) (by kernel_rfl) PF.pf rfl (pv_move rfl) rfl ?_
  first | refine AnyH.take 1 rfl (by kernel_rfl) (by kernel_rfl) (by kernel_rfl) PF.pf rfl (pv_nilCheck rfl) rfl ?_ | refine AnyH.take 1 rfl (by kernel_rfl) (by kernel_rfl) (by kernel_rfl) PF.pf rfl (pv_nilCheck_func rfl rfl) rfl ?_
  first | refine AnyH.take 2 rfl (by kernel_rfl) (by kernel_rfl) (by kernel_rfl) PF.pf rfl (pv_fieldAddr0 rfl rfl) rfl ?_ | refine AnyH.take 2 rfl (by kernel_rfl) (by kernel_rfl) (by kernel_rfl) PF.pf rfl (pv_fieldAddr rfl rfl) rfl ?_
  refine AnyH.take 3 rfl (by kernel_rfl) (by kernel_rfl) (by kernel_rfl) PF.pf rfl (pv_load rfl rfl sch_1) rfl ?_
  refine AnyH.take 4 rfl (by kernel_rfl) (by kernel_rfl) (by kernel_rfl) PF.pf rfl (pv_move rfl) rfl ?_
  first | refine AnyH.take 5 rfl (by kernel_rfl) (by kernel_rfl) (by kernel_rfl) PF.pf rfl (pv_nilCheck rfl) rfl ?_ | refine AnyH.take 5 rfl (by kernel_rfl) (by kernel_rfl) (by kernel_rfl) PF.pf rfl (pv_nilCheck_func rfl rfl) rfl ?_
  first | refine AnyH.take 6 rfl (by kernel_rfl) (by kernel_rfl) (by kernel_rfl) PF.pf rfl (pv_fieldAddr0 rfl rfl) rfl ?_ | refine AnyH.take 6 rfl (by kernel_rfl) (by kernel_rfl) (by kernel_rfl) PF.pf rfl (pv_fieldAddr rfl rfl) rfl ?_
  refine AnyH.take 7 rfl (by kernel_rfl) (by kernel_rfl) (by kernel_rfl) PF.pf rfl (pv_load rfl rfl sch_2) rfl ?_
  refine AnyH.take 8 rfl (by kernel_rfl) (by kernel_rfl) (by kernel_rfl) PF.pf rfl (pv_assign rfl) rfl ?_
  refine AnyH.take 9 rfl (by kernel_rfl) (by kernel_rfl) (by kernel_rfl) PF.pf rfl (pv_assign rfl) rfl ?_
  refine AnyH.done (by kernel_rfl) ?_
  refine Ends.seq ?_
  refine Wp.ret ?_
  exact Ends.ret (res2 rfl rfl rfl) ⟨rfl, rfl⟩

theorem tr_sTick (sb : Nat) (H : Hp) (T : Ones) (e : Nat) (l : Int) (L : Nat → Ones) (hH : SchH T e l L sb H) (hA : At T e l) : Tr Try.prog 12 [.pointer (some ⟨sb, 0, none⟩)] (H) (fun u L' => u = .bool (nxB l) ∧ SchH T (nxE T e l) (nxL T e l) L sb L') := by
  obtain ⟨v, K, rb, h, hs, hR, rfl⟩ := hH
  obtain ⟨a, c, rfl⟩ := hs.form
  have hv := hs.view
  have hlt := hA.lt
  obtain ⟨b, o, cap, cc, T0, f, hv1, hbv, hr⟩ := hv.open (by omega)
  cases hv1
  obtain ⟨q0, q1⟩ := one_read hr (tkd_get hlt)
  have hl0 := hA.pos
  have hl9 : l ≤ 1000 := Int.le_trans hA.le hA.dom.2.2
  have hT := hA.ok.1
  refine Tr.enter Try.func12 rfl Try.ntmps12 rfl (fun W F => ?_)
  refine Wp.app ?_
  refine Wp.seq ?_
  refine Wp.region ?_
  refine Ops.pv (pv_assign rfl) rfl ?_
  refine Ops.nil ?_
  refine Ends.seq ?_
  refine Wp.seq ?_
  refine Wp.seq ?_
  refine Wp.region ?_
  refine Ops.pv (pv_move rfl) rfl ?_
  first | refine Ops.pv (pv_nilCheck rfl) rfl ?_ | refine Ops.pv (pv_nilCheck_func rfl rfl) rfl ?_
  first | refine Ops.pv (pv_fieldAddr0 rfl rfl) rfl ?_ | refine Ops.pv (pv_fieldAddr rfl rfl) rfl ?_
  refine Ops.pv (pv_load rfl rfl sch_2) rfl ?_
  first | refine Ops.pv (pv_sub rfl rfl (w64 (by omega) (by omega))) rfl ?_ | refine Ops.pv (pv_sub rfl rfl rfl) rfl ?_
  first | refine Ops.pv (pv_nilCheck rfl) rfl ?_ | refine Ops.pv (pv_nilCheck_func rfl rfl) rfl ?_
  first | refine Ops.pv (pv_fieldAddr0 rfl rfl) rfl ?_ | refine Ops.pv (pv_fieldAddr rfl rfl) rfl ?_
  refine Ops.ef rfl (ef_store1 rfl rfl (by first | rfl | assumption) (by first | rfl | assumption)) ?_
  rintro _ _ ⟨rfl, rfl⟩
  refine Ops.nil ?_
  refine Ends.seq ?_
  refine Wp.seq ?_
  refine Wp.region ?_
  refine Ops.pv (pv_move rfl) rfl ?_
  first | refine Ops.pv (pv_nilCheck rfl) rfl ?_ | refine Ops.pv (pv_nilCheck_func rfl rfl) rfl ?_
  first | refine Ops.pv (pv_fieldAddr0 rfl rfl) rfl ?_ | refine Ops.pv (pv_fieldAddr rfl rfl) rfl ?_
  refine Ops.pv (pv_load rfl rfl sch_2) rfl ?_
  refine Ops.pv (pv_gtr rfl rfl) rfl ?_
  refine Ops.nil ?_
  refine Ends.seq ?_
  first | refine Wp.cond_dect rfl (fun h1 => ?_) (fun h1 => ?_) | refine Wp.cond_t rfl (fun h1 => ?_) (fun h1 => ?_)
  · refine Wp.seq ?_
    refine Wp.region ?_
    refine Ops.pv (pv_assign rfl) rfl ?_
    refine Ops.nil ?_
    refine Ends.seq ?_
    refine Wp.ret ?_
    refine Ends.then_ret ?_
    have hc : l - 1 > 0 := by assumption
    exact Ends.ret (L' := (sb, .cells (schC (.slice (some ⟨b, o, none⟩) T.length c) e (l - 1) (fun d => ptrV (rb d))).toArray 57) :: (K ++ segs h 4)) (res1 rfl rfl) ⟨by rw [nxB, decide_eq_false (not_not_intro hc)], _, K, rb, h, hs, hR, by rw [nxE, nxL, if_pos hc, if_pos hc]⟩
  · have hm : (e + 1) % T.length < T.length := Nat.mod_lt _ (by omega)
    obtain ⟨g0, g1⟩ := one_read hr (tkd_get hm)
    refine Wp.skip ?_
    refine Ends.seq ?_
    refine Wp.seq ?_
    refine AnyH.start ([] : Hp) 15 rfl ?_
    refine AnyH.take 0 rfl (by kernel_rfl) (by kernel_rfl) (by kernel_rfl) PF.pf rfl (pv_move rfl) rfl ?_
    refine AnyH.take 1 rfl (by kernel_rfl) (by kernel_rfl) (by kernel_rfl) PF.pf rfl (pv_move rfl) rfl ?_
    first | refine AnyH.take 2 rfl (by kernel_rfl) (by kernel_rfl) (by kernel_rfl) PF.pf rfl (pv_nilCheck rfl) rfl ?_ | refine AnyH.take 2 rfl (by kernel_rfl) (by kernel_rfl) (by kernel_rfl) PF.pf rfl (pv_nilCheck_func rfl rfl) rfl ?_
    first | refine AnyH.take 3 rfl (by kernel_rfl) (by kernel_rfl) (by kernel_rfl) PF.pf rfl (pv_fieldAddr0 rfl rfl) rfl ?_ | refine AnyH.take 3 rfl (by kernel_rfl) (by kernel_rfl) (by kernel_rfl) PF.pf rfl (pv_fieldAddr rfl rfl) rfl ?_
    refine AnyH.take 6 rfl (by kernel_rfl) (by kernel_rfl) (by kernel_rfl) PF.pf rfl (pv_move rfl) rfl ?_
    first | refine AnyH.take 7 rfl (by kernel_rfl) (by kernel_rfl) (by kernel_rfl) PF.pf rfl (pv_nilCheck rfl) rfl ?_ | refine AnyH.take 7 rfl (by kernel_rfl) (by kernel_rfl) (by kernel_rfl) PF.pf rfl (pv_nilCheck_func rfl rfl) rfl ?_
    first | refine AnyH.take 8 rfl (by kernel_rfl) (by kernel_rfl) (by kernel_rfl) PF.pf rfl (pv_fieldAddr0 rfl rfl) rfl ?_ | refine AnyH.take 8 rfl (by kernel_rfl) (by kernel_rfl) (by kernel_rfl) PF.pf rfl (pv_fieldAddr rfl rfl) rfl ?_
    refine AnyH.two 4 9 (by kernel_rfl) ?_ ?_
    · refine Turn.ef rfl rfl (ef_pv (pv_load rfl rfl sch_1) rfl) ?_ ?_
      · rintro _ _ ⟨rfl, rfl⟩; infer_instance
      rintro _ _ ⟨rfl, rfl⟩
      refine AnyH.take 5 rfl (by kernel_rfl) (by kernel_rfl) (by kernel_rfl) PF.pf rfl (pv_add rfl rfl (w64n (k := e + 1) (by omega) (by omega))) rfl ?_
      refine AnyH.one 9 (by kernel_rfl) ?_
      refine Turn.ef rfl rfl (ef_pv (pv_load rfl rfl sch_0) rfl) ?_ ?_
      · rintro _ _ ⟨rfl, rfl⟩; infer_instance
      rintro _ _ ⟨rfl, rfl⟩
      refine AnyH.take 10 rfl (by kernel_rfl) (by kernel_rfl) (by kernel_rfl) PF.pf rfl (pv_len_slice (T := 28) rfl rfl) rfl ?_
      refine AnyH.take 11 rfl (by kernel_rfl) (by kernel_rfl) (by kernel_rfl) PF.pf rfl (pv_rem rfl rfl (by omega) (tmod_nat rfl)) rfl ?_
      first | refine AnyH.take 12 rfl (by kernel_rfl) (by kernel_rfl) (by kernel_rfl) PF.pf rfl (pv_nilCheck rfl) rfl ?_ | refine AnyH.take 12 rfl (by kernel_rfl) (by kernel_rfl) (by kernel_rfl) PF.pf rfl (pv_nilCheck_func rfl rfl) rfl ?_
      first | refine AnyH.take 13 rfl (by kernel_rfl) (by kernel_rfl) (by kernel_rfl) PF.pf rfl (pv_fieldAddr0 rfl rfl) rfl ?_ | refine AnyH.take 13 rfl (by kernel_rfl) (by kernel_rfl) (by kernel_rfl) PF.pf rfl (pv_fieldAddr rfl rfl) rfl ?_
      refine AnyH.one 14 (by kernel_rfl) ?_
      refine Turn.ef rfl rfl (ef_store1 rfl rfl (by first | rfl | assumption) (by first | rfl | assumption)) ?_ ?_
      · rintro _ _ ⟨rfl, rfl⟩; infer_instance
      rintro _ _ ⟨rfl, rfl⟩
      refine AnyH.done (by kernel_rfl) ?_
      refine Ends.seq ?_
      refine Wp.seq ?_
      refine AnyH.start K 15 rfl ?_
      refine AnyH.take 0 rfl (by kernel_rfl) (by kernel_rfl) (by kernel_rfl) PF.pf rfl (pv_move rfl) rfl ?_
      refine AnyH.take 1 rfl (by kernel_rfl) (by kernel_rfl) (by kernel_rfl) PF.pf rfl (pv_move rfl) rfl ?_
      first | refine AnyH.take 2 rfl (by kernel_rfl) (by kernel_rfl) (by kernel_rfl) PF.pf rfl (pv_nilCheck rfl) rfl ?_ | refine AnyH.take 2 rfl (by kernel_rfl) (by kernel_rfl) (by kernel_rfl) PF.pf rfl (pv_nilCheck_func rfl rfl) rfl ?_
      first | refine AnyH.take 3 rfl (by kernel_rfl) (by kernel_rfl) (by kernel_rfl) PF.pf rfl (pv_fieldAddr0 rfl rfl) rfl ?_ | refine AnyH.take 3 rfl (by kernel_rfl) (by kernel_rfl) (by kernel_rfl) PF.pf rfl (pv_fieldAddr rfl rfl) rfl ?_
      refine AnyH.take 5 rfl (by kernel_rfl) (by kernel_rfl) (by kernel_rfl) PF.pf rfl (pv_move rfl) rfl ?_
      first | refine AnyH.take 6 rfl (by kernel_rfl) (by kernel_rfl) (by kernel_rfl) PF.pf rfl (pv_nilCheck rfl) rfl ?_ | refine AnyH.take 6 rfl (by kernel_rfl) (by kernel_rfl) (by kernel_rfl) PF.pf rfl (pv_nilCheck_func rfl rfl) rfl ?_
      first | refine AnyH.take 7 rfl (by kernel_rfl) (by kernel_rfl) (by kernel_rfl) PF.pf rfl (pv_fieldAddr0 rfl rfl) rfl ?_ | refine AnyH.take 7 rfl (by kernel_rfl) (by kernel_rfl) (by kernel_rfl) PF.pf rfl (pv_fieldAddr rfl rfl) rfl ?_
      refine AnyH.two 4 8 (by kernel_rfl) ?_ ?_
      · refine Turn.ef rfl rfl (ef_pv (pv_load rfl rfl sch_0) rfl) ?_ ?_
        · rintro _ _ ⟨rfl, rfl⟩; infer_instance
        rintro _ _ ⟨rfl, rfl⟩
        refine AnyH.one 8 (by kernel_rfl) ?_
        refine Turn.ef rfl rfl (ef_pv (pv_load rfl rfl sch_1) rfl) ?_ ?_
        · rintro _ _ ⟨rfl, rfl⟩; infer_instance
        rintro _ _ ⟨rfl, rfl⟩
        refine AnyH.take 9 rfl (by kernel_rfl) (by kernel_rfl) (by kernel_rfl) PF.pf rfl (pv_indexAddr rfl rfl rfl hm) rfl ?_
        first | refine AnyH.take 10 rfl (by kernel_rfl) (by kernel_rfl) (by kernel_rfl) PF.pf rfl (pv_fieldAddr0 rfl rfl) rfl ?_ | refine AnyH.take 10 rfl (by kernel_rfl) (by kernel_rfl) (by kernel_rfl) PF.pf rfl (pv_fieldAddr rfl rfl) rfl ?_
        refine AnyH.take 11 rfl (by kernel_rfl) (by kernel_rfl) (by kernel_rfl) PF.pf rfl (pv_load rfl rfl g1) rfl ?_
        first | refine AnyH.take 12 rfl (by kernel_rfl) (by kernel_rfl) (by kernel_rfl) PF.pf rfl (pv_nilCheck rfl) rfl ?_ | refine AnyH.take 12 rfl (by kernel_rfl) (by kernel_rfl) (by kernel_rfl) PF.pf rfl (pv_nilCheck_func rfl rfl) rfl ?_
        first | refine AnyH.take 13 rfl (by kernel_rfl) (by kernel_rfl) (by kernel_rfl) PF.pf rfl (pv_fieldAddr0 rfl rfl) rfl ?_ | refine AnyH.take 13 rfl (by kernel_rfl) (by kernel_rfl) (by kernel_rfl) PF.pf rfl (pv_fieldAddr rfl rfl) rfl ?_
        refine AnyH.one 14 (by kernel_rfl) ?_
        refine Turn.ef rfl rfl (ef_store1 rfl rfl (by first | rfl | assumption) (by first | rfl | assumption)) ?_ ?_
        · rintro _ _ ⟨rfl, rfl⟩; infer_instance
        rintro _ _ ⟨rfl, rfl⟩
        refine AnyH.done (by kernel_rfl) ?_
        refine Ends.seq ?_
        refine Wp.seq ?_
        refine Wp.region ?_
        refine Ops.pv (pv_assign rfl) rfl ?_
        refine Ops.nil ?_
        refine Ends.seq ?_
        refine Wp.ret ?_
        have hc : ¬ l - 1 > 0 := by assumption
        exact Ends.ret (L' := (sb, .cells (schC (.slice (some ⟨b, o, none⟩) T.length c) ((e + 1) % T.length : Nat) (tkd T ((e + 1) % T.length)).2 (fun d => ptrV (rb d))).toArray 57) :: (K ++ segs h 4)) (res1 rfl rfl) ⟨by rw [nxB, decide_eq_true hc], _, K, rb, h, hs, hR, by rw [nxE, nxL, if_neg hc, if_neg hc]⟩
      · refine Turn.ef rfl rfl (ef_pv (pv_load rfl rfl sch_1) rfl) ?_ ?_
        · rintro _ _ ⟨rfl, rfl⟩; infer_instance
        rintro _ _ ⟨rfl, rfl⟩
        refine AnyH.one 4 (by kernel_rfl) ?_
        refine Turn.ef rfl rfl (ef_pv (pv_load rfl rfl sch_0) rfl) ?_ ?_
        · rintro _ _ ⟨rfl, rfl⟩; infer_instance
        rintro _ _ ⟨rfl, rfl⟩
        refine AnyH.take 9 rfl (by kernel_rfl) (by kernel_rfl) (by kernel_rfl) PF.pf rfl (pv_indexAddr rfl rfl rfl hm) rfl ?_
        first | refine AnyH.take 10 rfl (by kernel_rfl) (by kernel_rfl) (by kernel_rfl) PF.pf rfl (pv_fieldAddr0 rfl rfl) rfl ?_ | refine AnyH.take 10 rfl (by kernel_rfl) (by kernel_rfl) (by kernel_rfl) PF.pf rfl (pv_fieldAddr rfl rfl) rfl ?_
        refine AnyH.take 11 rfl (by kernel_rfl) (by kernel_rfl) (by kernel_rfl) PF.pf rfl (pv_load rfl rfl g1) rfl ?_
        first | refine AnyH.take 12 rfl (by kernel_rfl) (by kernel_rfl) (by kernel_rfl) PF.pf rfl (pv_nilCheck rfl) rfl ?_ | refine AnyH.take 12 rfl (by kernel_rfl) (by kernel_rfl) (by kernel_rfl) PF.pf rfl (pv_nilCheck_func rfl rfl) rfl ?_
        first | refine AnyH.take 13 rfl (by kernel_rfl) (by kernel_rfl) (by kernel_rfl) PF.pf rfl (pv_fieldAddr0 rfl rfl) rfl ?_ | refine AnyH.take 13 rfl (by kernel_rfl) (by kernel_rfl) (by kernel_rfl) PF.pf rfl (pv_fieldAddr rfl rfl) rfl ?_
        refine AnyH.one 14 (by kernel_rfl) ?_
        refine Turn.ef rfl rfl (ef_store1 rfl rfl (by first | rfl | assumption) (by first | rfl | assumption)) ?_ ?_
        · rintro _ _ ⟨rfl, rfl⟩; infer_instance
        rintro _ _ ⟨rfl, rfl⟩
        refine AnyH.done (by kernel_rfl) ?_
        refine Ends.seq ?_
        refine Wp.seq ?_
        refine Wp.region ?_
        refine Ops.pv (pv_assign rfl) rfl ?_
        refine Ops.nil ?_
        refine Ends.seq ?_
        refine Wp.ret ?_
        have hc : ¬ l - 1 > 0 := by assumption
        exact Ends.ret (L' := (sb, .cells (schC (.slice (some ⟨b, o, none⟩) T.length c) ((e + 1) % T.length : Nat) (tkd T ((e + 1) % T.length)).2 (fun d => ptrV (rb d))).toArray 57) :: (K ++ segs h 4)) (res1 rfl rfl) ⟨by rw [nxB, decide_eq_true hc], _, K, rb, h, hs, hR, by rw [nxE, nxL, if_neg hc, if_neg hc]⟩
    · refine Turn.ef rfl rfl (ef_pv (pv_load rfl rfl sch_0) rfl) ?_ ?_
      · rintro _ _ ⟨rfl, rfl⟩; infer_instance
      rintro _ _ ⟨rfl, rfl⟩
      refine AnyH.take 10 rfl (by kernel_rfl) (by kernel_rfl) (by kernel_rfl) PF.pf rfl (pv_len_slice (T := 28) rfl rfl) rfl ?_
      refine AnyH.one 4 (by kernel_rfl) ?_
      refine Turn.ef rfl rfl (ef_pv (pv_load rfl rfl sch_1) rfl) ?_ ?_
      · rintro _ _ ⟨rfl, rfl⟩; infer_instance
      rintro _ _ ⟨rfl, rfl⟩
      refine AnyH.take 5 rfl (by kernel_rfl) (by kernel_rfl) (by kernel_rfl) PF.pf rfl (pv_add rfl rfl (w64n (k := e + 1) (by omega) (by omega))) rfl ?_
      refine AnyH.take 11 rfl (by kernel_rfl) (by kernel_rfl) (by kernel_rfl) PF.pf rfl (pv_rem rfl rfl (by omega) (tmod_nat rfl)) rfl ?_
      first | refine AnyH.take 12 rfl (by kernel_rfl) (by kernel_rfl) (by kernel_rfl) PF.pf rfl (pv_nilCheck rfl) rfl ?_ | refine AnyH.take 12 rfl (by kernel_rfl) (by kernel_rfl) (by kernel_rfl) PF.pf rfl (pv_nilCheck_func rfl rfl) rfl ?_
      first | refine AnyH.take 13 rfl (by kernel_rfl) (by kernel_rfl) (by kernel_rfl) PF.pf rfl (pv_fieldAddr0 rfl rfl) rfl ?_ | refine AnyH.take 13 rfl (by kernel_rfl) (by kernel_rfl) (by kernel_rfl) PF.pf rfl (pv_fieldAddr rfl rfl) rfl ?_
      refine AnyH.one 14 (by kernel_rfl) ?_
      refine Turn.ef rfl rfl (ef_store1 rfl rfl (by first | rfl | assumption) (by first | rfl | assumption)) ?_ ?_
      · rintro _ _ ⟨rfl, rfl⟩; infer_instance
      rintro _ _ ⟨rfl, rfl⟩
      refine AnyH.done (by kernel_rfl) ?_
      refine Ends.seq ?_
      refine Wp.seq ?_
      refine AnyH.start K 15 rfl ?_
      refine AnyH.take 0 rfl (by kernel_rfl) (by kernel_rfl) (by kernel_rfl) PF.pf rfl (pv_move rfl) rfl ?_
      refine AnyH.take 1 rfl (by kernel_rfl) (by kernel_rfl) (by kernel_rfl) PF.pf rfl (pv_move rfl) rfl ?_
      first | refine AnyH.take 2 rfl (by kernel_rfl) (by kernel_rfl) (by kernel_rfl) PF.pf rfl (pv_nilCheck rfl) rfl ?_ | refine AnyH.take 2 rfl (by kernel_rfl) (by kernel_rfl) (by kernel_rfl) PF.pf rfl (pv_nilCheck_func rfl rfl) rfl ?_
      first | refine AnyH.take 3 rfl (by kernel_rfl) (by kernel_rfl) (by kernel_rfl) PF.pf rfl (pv_fieldAddr0 rfl rfl) rfl ?_ | refine AnyH.take 3 rfl (by kernel_rfl) (by kernel_rfl) (by kernel_rfl) PF.pf rfl (pv_fieldAddr rfl rfl) rfl ?_
      refine AnyH.take 5 rfl (by kernel_rfl) (by kernel_rfl) (by kernel_rfl) PF.pf rfl (pv_move rfl) rfl ?_
      first | refine AnyH.take 6 rfl (by kernel_rfl) (by kernel_rfl) (by kernel_rfl) PF.pf rfl (pv_nilCheck rfl) rfl ?_ | refine AnyH.take 6 rfl (by kernel_rfl) (by kernel_rfl) (by kernel_rfl) PF.pf rfl (pv_nilCheck_func rfl rfl) rfl ?_
      first | refine AnyH.take 7 rfl (by kernel_rfl) (by kernel_rfl) (by kernel_rfl) PF.pf rfl (pv_fieldAddr0 rfl rfl) rfl ?_ | refine AnyH.take 7 rfl (by kernel_rfl) (by kernel_rfl) (by kernel_rfl) PF.pf rfl (pv_fieldAddr rfl rfl) rfl ?_
      refine AnyH.two 4 8 (by kernel_rfl) ?_ ?_
      · refine Turn.ef rfl rfl (ef_pv (pv_load rfl rfl sch_0) rfl) ?_ ?_
        · rintro _ _ ⟨rfl, rfl⟩; infer_instance
        rintro _ _ ⟨rfl, rfl⟩
        refine AnyH.one 8 (by kernel_rfl) ?_
        refine Turn.ef rfl rfl (ef_pv (pv_load rfl rfl sch_1) rfl) ?_ ?_
        · rintro _ _ ⟨rfl, rfl⟩; infer_instance
        rintro _ _ ⟨rfl, rfl⟩
        refine AnyH.take 9 rfl (by kernel_rfl) (by kernel_rfl) (by kernel_rfl) PF.pf rfl (pv_indexAddr rfl rfl rfl hm) rfl ?_
        first | refine AnyH.take 10 rfl (by kernel_rfl) (by kernel_rfl) (by kernel_rfl) PF.pf rfl (pv_fieldAddr0 rfl rfl) rfl ?_ | refine AnyH.take 10 rfl (by kernel_rfl) (by kernel_rfl) (by kernel_rfl) PF.pf rfl (pv_fieldAddr rfl rfl) rfl ?_
        refine AnyH.take 11 rfl (by kernel_rfl) (by kernel_rfl) (by kernel_rfl) PF.pf rfl (pv_load rfl rfl g1) rfl ?_
        first | refine AnyH.take 12 rfl (by kernel_rfl) (by kernel_rfl) (by kernel_rfl) PF.pf rfl (pv_nilCheck rfl) rfl ?_ | refine AnyH.take 12 rfl (by kernel_rfl) (by kernel_rfl) (by kernel_rfl) PF.pf rfl (pv_nilCheck_func rfl rfl) rfl ?_
        first | refine AnyH.take 13 rfl (by kernel_rfl) (by kernel_rfl) (by kernel_rfl) PF.pf rfl (pv_fieldAddr0 rfl rfl) rfl ?_ | refine AnyH.take 13 rfl (by kernel_rfl) (by kernel_rfl) (by kernel_rfl) PF.pf rfl (pv_fieldAddr rfl rfl) rfl ?_
        refine AnyH.one 14 (by kernel_rfl) ?_
        refine Turn.ef rfl rfl (ef_store1 rfl rfl (by first | rfl | assumption) (by first | rfl | assumption)) ?_ ?_
        · rintro _ _ ⟨rfl, rfl⟩; infer_instance
        rintro _ _ ⟨rfl, rfl⟩
        refine AnyH.done (by kernel_rfl) ?_
        refine Ends.seq ?_
        refine Wp.seq ?_
        refine Wp.region ?_
        refine Ops.pv (pv_assign rfl) rfl ?_
        refine Ops.nil ?_
        refine Ends.seq ?_
        refine Wp.ret ?_
        have hc : ¬ l - 1 > 0 := by assumption
        exact Ends.ret (L' := (sb, .cells (schC (.slice (some ⟨b, o, none⟩) T.length c) ((e + 1) % T.length : Nat) (tkd T ((e + 1) % T.length)).2 (fun d => ptrV (rb d))).toArray 57) :: (K ++ segs h 4)) (res1 rfl rfl) ⟨by rw [nxB, decide_eq_true hc], _, K, rb, h, hs, hR, by rw [nxE, nxL, if_neg hc, if_neg hc]⟩
      · refine Turn.ef rfl rfl (ef_pv (pv_load rfl rfl sch_1) rfl) ?_ ?_
        · rintro _ _ ⟨rfl, rfl⟩; infer_instance
        rintro _ _ ⟨rfl, rfl⟩
        refine AnyH.one 4 (by kernel_rfl) ?_
        refine Turn.ef rfl rfl (ef_pv (pv_load rfl rfl sch_0) rfl) ?_ ?_
        · rintro _ _ ⟨rfl, rfl⟩; infer_instance
        rintro _ _ ⟨rfl, rfl⟩
        refine AnyH.take 9 rfl (by kernel_rfl) (by kernel_rfl) (by kernel_rfl) PF.pf rfl (pv_indexAddr rfl rfl rfl hm) rfl ?_
        first | refine AnyH.take 10 rfl (by kernel_rfl) (by kernel_rfl) (by kernel_rfl) PF.pf rfl (pv_fieldAddr0 rfl rfl) rfl ?_ | refine AnyH.take 10 rfl (by kernel_rfl) (by kernel_rfl) (by kernel_rfl) PF.pf rfl (pv_fieldAddr rfl rfl) rfl ?_
        refine AnyH.take 11 rfl (by kernel_rfl) (by kernel_rfl) (by kernel_rfl) PF.pf rfl (pv_load rfl rfl g1) rfl ?_
        first | refine AnyH.take 12 rfl (by kernel_rfl) (by kernel_rfl) (by kernel_rfl) PF.pf rfl (pv_nilCheck rfl) rfl ?_ | refine AnyH.take 12 rfl (by kernel_rfl) (by kernel_rfl) (by kernel_rfl) PF.pf rfl (pv_nilCheck_func rfl rfl) rfl ?_
        first | refine AnyH.take 13 rfl (by kernel_rfl) (by kernel_rfl) (by kernel_rfl) PF.pf rfl (pv_fieldAddr0 rfl rfl) rfl ?_ | refine AnyH.take 13 rfl (by kernel_rfl) (by kernel_rfl) (by kernel_rfl) PF.pf rfl (pv_fieldAddr rfl rfl) rfl ?_
        refine AnyH.one 14 (by kernel_rfl) ?_
        refine Turn.ef rfl rfl (ef_store1 rfl rfl (by first | rfl | assumption) (by first | rfl | assumption)) ?_ ?_
        · rintro _ _ ⟨rfl, rfl⟩; infer_instance
        rintro _ _ ⟨rfl, rfl⟩
        refine AnyH.done (by kernel_rfl) ?_
        refine Ends.seq ?_
        refine Wp.seq ?_
        refine Wp.region ?_
        refine Ops.pv (pv_assign rfl) rfl ?_
        refine Ops.nil ?_
        refine Ends.seq ?_
        refine Wp.ret ?_
        have hc : ¬ l - 1 > 0 := by assumption
        exact Ends.ret (L' := (sb, .cells (schC (.slice (some ⟨b, o, none⟩) T.length c) ((e + 1) % T.length : Nat) (tkd T ((e + 1) % T.length)).2 (fun d => ptrV (rb d))).toArray 57) :: (K ++ segs h 4)) (res1 rfl rfl) ⟨by rw [nxB, decide_eq_true hc], _, K, rb, h, hs, hR, by rw [nxE, nxL, if_neg hc, if_neg hc]⟩

theorem tr_sFind (sb : Nat) (H : Hp) (T : Ones) (e : Nat) (l : Int) (L : Nat → Ones) (hH : SchH T e l L sb H) (hW : RdysW L) (hl : RdysL L (2 ^ 20)) (x : Int) : TrR Try.prog 29 [.pointer (some ⟨sb, 0, none⟩), .int .i64 x] (H) (.tuple #[.int .i64 (fdD L x), .int .i64 (fdK L x), .bool (fdB L x)]) := by
  obtain ⟨v, K, rb, h, hs, hR, rfl⟩ := hH
  refine Tr.enter Try.func29 rfl Try.ntmps29 rfl (fun W F => ?_)
  refine Wp.app ?_
  refine Wp.seq ?_
  refine Wp.region ?_
  refine Ops.pv (pv_assign rfl) rfl ?_
  refine Ops.pv (pv_assign rfl) rfl ?_
  refine Ops.pv (pv_assign rfl) rfl ?_
  refine Ops.nil ?_
  refine Ends.seq ?_
  refine Wp.seq ?_
  refine Wp.seq ?_
  refine Wp.region ?_
  refine Ops.pv (pv_move rfl) rfl ?_
  first | refine Ops.pv (pv_nilCheck rfl) rfl ?_ | refine Ops.pv (pv_nilCheck_func rfl rfl) rfl ?_
  first | refine Ops.pv (pv_fieldAddr0 rfl rfl) rfl ?_ | refine Ops.pv (pv_fieldAddr rfl rfl) rfl ?_
  refine Ops.pv (pv_loadK ((List.range 4).map (fun d => ptrV (rb d))) rfl rfl rfl sch_reads) rfl ?_
  refine Ops.pv (pv_move rfl) rfl ?_
  refine Ops.nil ?_
  refine Ends.seq ?_
  refine Wp.block ?_
  refine Wp.loopK (σ := Nat) [(1, _), (13, _)] (fun s => [(14, .int .i64 s)]) (fun s => (sb, .cells (schC v e l (fun d => ptrV (rb d))).toArray 57) :: (K ++ (segs h 4 ++ F))) (fun s => s ≤ 4 ∧ ∀ j, j < s → levOf (L j) x = none) (fun s => 4 - s) 0 ⟨Nat.zero_le _, fun j hj => absurd hj (Nat.not_lt_zero j)⟩ ⟨rfl, rfl, trivial⟩ ⟨rfl, trivial⟩ (by intro w ho; (try dsimp only [List.nil_append, List.cons_append]); exact Drop.own ho) ?_
  rintro d KK ⟨hd, hn⟩ hK
  dsimp only [List.cons_append, List.nil_append] at hK ⊢
  refine Wp.seq ?_
  refine Wp.region ?_
  refine Ops.pv (pv_lss rfl rfl) rfl ?_
  refine Ops.nil ?_
  refine Ends.seq ?_
  refine Wp.seq ?_
  first | refine Wp.cond_dect rfl (fun h1 => ?_) (fun h1 => ?_) | refine Wp.cond_t rfl (fun h1 => ?_) (fun h1 => ?_)
  · have hd4 : d < 4 := by omega
    refine Wp.skip ?_
    refine Ends.seq ?_
    refine Wp.seq ?_
    refine Wp.block ?_
    refine Wp.seq ?_
    refine Wp.region ?_
    refine Ops.pv (pv_move rfl) rfl ?_
    refine Ops.pv (pv_index1 (i := d) rfl rfl rfl rfl (by omega) (arr_p hd4)) rfl ?_
    refine Ops.pv (pv_assign rfl) rfl ?_
    refine Ops.pv (pv_assign rfl) rfl ?_
    refine Ops.nil ?_
    refine Ends.seq ?_
    refine Wp.seq ?_
    refine Wp.region ?_
    refine Ops.pv (pv_move rfl) rfl ?_
    refine Ops.nil ?_
    refine Ends.seq ?_
    refine Wp.block ?_
    refine Wp.loopK (σ := Nat) [(1, _), (7, _), (8, _), (13, _), (14, _)] (fun s => [(18, .int .i64 s)]) (fun s => (sb, .cells (schC v e l (fun d => ptrV (rb d))).toArray 57) :: (K ++ (segs h 4 ++ F))) (fun s => s ≤ 8 ∧ ∀ j : Nat, j < s → ¬ 0 ≤ idxM (lvl (L d) j) x) (fun s => 8 - s) 0 ⟨Nat.zero_le _, fun j hj => absurd hj (Nat.not_lt_zero j)⟩ ⟨rfl, rfl, rfl, rfl, rfl, trivial⟩ ⟨rfl, trivial⟩ (by intro w ho; (try dsimp only [List.nil_append, List.cons_append]); exact Drop.own ho) ?_
    rintro k KK ⟨hk, hm⟩ hK1
    dsimp only [List.cons_append, List.nil_append] at hK1 ⊢
    refine Wp.seq ?_
    refine Wp.region ?_
    refine Ops.pv (pv_lss rfl rfl) rfl ?_
    refine Ops.nil ?_
    refine Ends.seq ?_
    refine Wp.seq ?_
    first | refine Wp.cond_dect rfl (fun h2 => ?_) (fun h2 => ?_) | refine Wp.cond_t rfl (fun h2 => ?_) (fun h2 => ?_)
    · refine Wp.skip ?_
      refine Ends.seq ?_
      refine Wp.seq ?_
      refine Wp.block ?_
      refine Wp.seq ?_
      refine Wp.region ?_
      refine Ops.pv (pv_move rfl) rfl ?_
      refine Ops.pv (pv_assign rfl) rfl ?_
      refine Ops.nil ?_
      refine Ends.seq ?_
      refine Wp.seq ?_
      refine Wp.region ?_
      refine Ops.pv (pv_move rfl) rfl ?_
      refine Ops.pv (pv_move rfl) rfl ?_
      refine Ops.ef rfl (ef_call (tr_listS hR hW hl hd4 k) rfl rfl) ?_
      rintro _ _ ⟨_, _, ⟨C1, hc1, rfl⟩, rfl, rfl⟩
      refine Ops.app ?_
      obtain ⟨p1, q1, rfl⟩ := hc1.form
      have hll := Nat.le_trans (lvl_len (L d) k) (hl d hd4)
      refine Ops.pv (pv_move rfl) rfl ?_
      refine Ops.ef rfl (ef_callr (tr_contains C1 _ _ (lvl (L d) k) x hc1.view (by omega)) rfl rfl) ?_
      rintro _ _ ⟨rfl, rfl⟩
      refine Ops.nil ?_
      refine Ends.seq ?_
      first | refine Wp.cond_dect rfl (fun h3 => ?_) (fun h3 => ?_) | refine Wp.cond_t rfl (fun h3 => ?_) (fun h3 => ?_)
      · refine Wp.seq ?_
        refine Wp.region ?_
        refine Ops.pv (pv_move rfl) rfl ?_
        refine Ops.pv (pv_move rfl) rfl ?_
        refine Ops.pv (pv_assign rfl) rfl ?_
        refine Ops.pv (pv_assign rfl) rfl ?_
        refine Ops.pv (pv_assign rfl) rfl ?_
        refine Ops.nil ?_
        refine Ends.seq ?_
        refine Wp.ret ?_
        refine Ends.block_ret ?_
        refine Ends.then_ret ?_
        refine Ends.then_ret ?_
        refine Ends.block_ret ?_
        refine Ends.block_ret ?_
        refine Ends.then_ret ?_
        refine Ends.then_ret ?_
        refine Ends.block_ret ?_
        refine Ends.then_ret ?_
        obtain ⟨m1, m2, m3⟩ := fd_some (find_hit hd4 hn (lev_hit (hW d hd4) (by assumption)))
        exact Ends.ret (res3 rfl rfl rfl rfl) ⟨by rw [m1, m2, m3], rfl⟩
      · refine Wp.skip ?_
        refine Ends.block_normal ?_
        refine Ends.seq ?_
        refine Wp.region ?_
        first | refine Ops.pv (pv_add rfl rfl (w64 (by omega) (by omega))) rfl ?_ | refine Ops.pv (pv_add rfl rfl rfl) rfl ?_
        refine Ops.pv (pv_move rfl) rfl ?_
        refine Ops.nil ?_
        refine Ends.goes ?_
        refine Goes.back (hK1 (k + 1) ⟨by omega, fun j hj => ?_⟩ (by omega)) ⟨rfl, rfl, rfl, rfl, rfl, rfl, trivial⟩
        rcases Nat.lt_succ_iff_lt_or_eq.1 hj with hj | rfl
        · exact hm j hj
        · assumption
    · refine Wp.exit ?_
      refine Ends.then_exit ?_
      refine Ends.then_exit ?_
      refine Ends.block_hit ?_
      refine Ends.block_normal ?_
      refine Ends.seq ?_
      refine Wp.region ?_
      first | refine Ops.pv (pv_add rfl rfl (w64 (by omega) (by omega))) rfl ?_ | refine Ops.pv (pv_add rfl rfl rfl) rfl ?_
      refine Ops.pv (pv_move rfl) rfl ?_
      refine Ops.nil ?_
      refine Ends.goes ?_
      have hlm := lev_miss (hW d hd4) (x := x) (fun k hk => hm k (by omega))
      refine Goes.back (hK (d + 1) ⟨by omega, fun j hj => ?_⟩ (by omega)) ⟨rfl, rfl, rfl, trivial⟩
      rcases Nat.lt_succ_iff_lt_or_eq.1 hj with hj | rfl
      · exact hn j hj
      · exact hlm
  · refine Wp.exit ?_
    refine Ends.then_exit ?_
    refine Ends.then_exit ?_
    refine Ends.block_hit ?_
    refine Ends.seq ?_
    refine Wp.seq ?_
    refine Wp.region ?_
    refine Ops.pv (pv_assign rfl) rfl ?_
    refine Ops.pv (pv_assign rfl) rfl ?_
    refine Ops.pv (pv_assign rfl) rfl ?_
    refine Ops.nil ?_
    refine Ends.seq ?_
    refine Wp.ret ?_
    obtain ⟨m1, m2, m3⟩ := fd_none (find_miss (L := L) (x := x) (fun j hj => hn j (by omega)))
    exact Ends.ret (res3 rfl rfl rfl rfl) ⟨by rw [m1, m2, m3], rfl⟩

theorem tr_sPut (sb : Nat) (H : Hp) (T : Ones) (e : Nat) (l : Int) (L : Nat → Ones) (hH : SchH T e l L sb H) (hA : At T e l) (hW : RdysW L) (hl : RdysL L (2 ^ 20)) (x d0 k : Int) : Tr Try.prog 14 [.pointer (some ⟨sb, 0, none⟩), .int .i64 x, .int .i64 d0, .int .i64 k] (H) (fun u L' => u = .int .i64 (spE L x d0 k) ∧ SchH T e l (spL L x d0 k) sb L') := by
  obtain ⟨v, K, rb, h, hs, hR, rfl⟩ := hH
  refine Tr.enter Try.func14 rfl Try.ntmps14 rfl (fun W F => ?_)
  refine Wp.app ?_
  refine Wp.seq ?_
  refine Wp.region ?_
  refine Ops.pv (pv_assign rfl) rfl ?_
  refine Ops.nil ?_
  refine Ends.seq ?_
  refine Wp.seq ?_
  refine Wp.seq ?_
  refine Wp.region ?_
  refine Ops.pv (pv_move rfl) rfl ?_
  refine Ops.ef rfl (ef_callr (tr_domain d0) rfl rfl) ?_
  rintro _ _ ⟨rfl, rfl⟩
  first | refine Ops.pv (pv_not_dec rfl) rfl ?_ | refine Ops.pv (pv_not rfl) rfl ?_
  refine Ops.pv (pv_move rfl) rfl ?_
  first | refine Ops.split (t := 15) rfl (fun h1 => ?_) (fun h1 => ?_) | refine Ops.splitb (t := 15) rfl (fun h1 => ?_) (fun h1 => ?_)
  · refine Ops.skipg ⟨_, _, rfl, rfl, rfl⟩ rfl ?_
    refine Ops.skipg ⟨_, _, rfl, rfl, rfl⟩ rfl ?_
    refine Ops.pv (pv_pick_true rfl rfl) rfl ?_
    refine Ops.pv (pv_move rfl) rfl ?_
    refine Ops.skipg ⟨_, _, rfl, rfl, rfl⟩ rfl ?_
    refine Ops.skipg ⟨_, _, rfl, rfl, rfl⟩ rfl ?_
    refine Ops.pv (pv_pick_true rfl rfl) rfl ?_
    refine Ops.pv (pv_move rfl) rfl ?_
    refine Ops.skipg ⟨_, _, rfl, rfl, rfl⟩ rfl ?_
    refine Ops.skipg ⟨_, _, rfl, rfl, rfl⟩ rfl ?_
    refine Ops.pv (pv_pick_true rfl rfl) rfl ?_
    refine Ops.pv (pv_move rfl) rfl ?_
    refine Ops.skipg ⟨_, _, rfl, rfl, rfl⟩ rfl ?_
    refine Ops.skipg ⟨_, _, rfl, rfl, rfl⟩ rfl ?_
    refine Ops.pv (pv_pick_true rfl rfl) rfl ?_
    refine Ops.nil ?_
    refine Ends.seq ?_
    refine Wp.cond_true rfl ?_
    refine Wp.seq ?_
    refine Wp.region ?_
    refine Ops.pv (pv_assign rfl) rfl ?_
    refine Ops.nil ?_
    refine Ends.seq ?_
    refine Wp.ret ?_
    refine Ends.then_ret ?_
    obtain ⟨m1, m2⟩ := sp_out (L := L) (x := x) (d := d0) (k := k) (by rintro ⟨_, hq, _⟩; simp_all [domB])
    exact Ends.ret (L' := (sb, .cells (schC v e l (fun d => ptrV (rb d))).toArray 57) :: (K ++ segs h 4)) (res1 rfl rfl) ⟨by rw [m1], by rw [m2]; exact ⟨_, K, rb, h, hs, hR, rfl⟩⟩
  · refine Ops.pvg ⟨_, _, rfl, rfl, rfl⟩ (pv_move rfl) rfl ?_
    refine Ops.pvg ⟨_, _, rfl, rfl, rfl⟩ (pv_lss rfl rfl) rfl ?_
    refine Ops.pv (pv_pick_false rfl rfl) rfl ?_
    refine Ops.pv (pv_move rfl) rfl ?_
    refine Ops.pvcn rfl rfl (fun hg => pv_move rfl) rfl ?_
    refine Ops.pvcn rfl rfl (fun hg => Pv.setE (t := 20) rfl (cv_pos hg) (pv_geq rfl rfl)) rfl ?_
    refine Ops.pv (pv_pick_or rfl rfl) rfl ?_
    refine Ops.pv (pv_move rfl) rfl ?_
    refine Ops.pvcn rfl rfl (fun hg => pv_move rfl) rfl ?_
    refine Ops.pvcn rfl rfl (fun hg => Pv.setE (t := 24) rfl (cv_pos hg) (pv_lss rfl rfl)) rfl ?_
    refine Ops.pv (pv_pick_or rfl rfl) rfl ?_
    refine Ops.pv (pv_move rfl) rfl ?_
    refine Ops.pvcn rfl rfl (fun hg => pv_move rfl) rfl ?_
    refine Ops.pvcn rfl rfl (fun hg => Pv.setE (t := 28) rfl (cv_pos hg) (pv_geq rfl rfl)) rfl ?_
    refine Ops.pv (pv_pick_or rfl rfl) rfl ?_
    refine Ops.nil ?_
    refine Ends.seq ?_
    first | refine Wp.cond_dect rfl (fun h2 => ?_) (fun h2 => ?_) | refine Wp.cond_t rfl (fun h2 => ?_) (fun h2 => ?_)
    · refine Wp.seq ?_
      refine Wp.region ?_
      refine Ops.pv (pv_assign rfl) rfl ?_
      refine Ops.nil ?_
      refine Ends.seq ?_
      refine Wp.ret ?_
      refine Ends.then_ret ?_
      obtain ⟨m1, m2⟩ := sp_out (L := L) (x := x) (d := d0) (k := k) (by simp only [rightM]; rintro ⟨hr, _, hk⟩; simp at hr; omega)
      exact Ends.ret (L' := (sb, .cells (schC v e l (fun d => ptrV (rb d))).toArray 57) :: (K ++ segs h 4)) (res1 rfl rfl) ⟨by rw [m1], by rw [m2]; exact ⟨_, K, rb, h, hs, hR, rfl⟩⟩
    · refine Wp.skip ?_
      refine Ends.seq ?_
      refine Wp.seq ?_
      refine Wp.seq ?_
      refine Wp.region ?_
      refine Ops.pv (pv_move rfl) rfl ?_
      refine Ops.pv (pv_move rfl) rfl ?_
      refine Ops.ef rfl (ef_callr (tr_sFind sb _ T e l L ⟨_, K, rb, h, hs, hR, rfl⟩ hW hl x) rfl rfl) ?_
      rintro _ _ ⟨rfl, rfl⟩
      refine Ops.pv (pv_move rfl) rfl ?_
      refine Ops.pv (pv_extract rfl rfl) rfl ?_
      refine Ops.pv (pv_extract rfl rfl) rfl ?_
      refine Ops.pv (pv_extract rfl rfl) rfl ?_
      refine Ops.pv (pv_assign rfl) rfl ?_
      refine Ops.pv (pv_assign rfl) rfl ?_
      refine Ops.pv (pv_assign rfl) rfl ?_
      refine Ops.nil ?_
      refine Ends.seq ?_
      refine Wp.seq ?_
      refine Wp.region ?_
      refine Ops.pv (pv_move rfl) rfl ?_
      refine Ops.nil ?_
      refine Ends.seq ?_
      refine Wp.cond_t rfl (fun h3 => ?_) (fun h3 => ?_)
      · refine Wp.seq ?_
        refine Wp.region ?_
        refine Ops.pv (pv_assign rfl) rfl ?_
        refine Ops.nil ?_
        refine Ends.seq ?_
        refine Wp.ret ?_
        refine Ends.then_ret ?_
        have hdm : 0 ≤ d0 ∧ d0 < 4 := by simp_all [domB]
        obtain ⟨m1, m2⟩ := sp_twice (L := L) (x := x) (d := d0) (k := k) ⟨by simp [rightM]; omega, hdm, by omega, by omega⟩ (by assumption)
        exact Ends.ret (L' := (sb, .cells (schC v e l (fun d => ptrV (rb d))).toArray 57) :: (K ++ segs h 4)) (res1 rfl rfl) ⟨by rw [m1], by rw [m2]; exact ⟨_, K, rb, h, hs, hR, rfl⟩⟩
      · refine Wp.skip ?_
        refine Ends.seq ?_
        refine Wp.seq ?_
        refine Wp.region ?_
        have hdm : 0 ≤ d0 ∧ d0 < 4 := by simp_all [domB]
        obtain ⟨d, rfl⟩ : ∃ n : Nat, d0 = n := ⟨d0.toNat, by omega⟩
        have hd4 : d < 4 := by omega
        refine Ops.pv (pv_move rfl) rfl ?_
        refine Ops.pv (pv_move rfl) rfl ?_
        first | refine Ops.pv (pv_nilCheck rfl) rfl ?_ | refine Ops.pv (pv_nilCheck_func rfl rfl) rfl ?_
        first | refine Ops.pv (pv_fieldAddr0 rfl rfl) rfl ?_ | refine Ops.pv (pv_fieldAddr rfl rfl) rfl ?_
        refine Ops.pv (pv_indexAddrA (i := d) rfl rfl rfl hd4) rfl ?_
        refine Ops.pv (pv_load rfl rfl (sch_p hd4)) rfl ?_
        refine Ops.pv (pv_move rfl) rfl ?_
        refine Ops.pv (pv_move rfl) rfl ?_
        refine Ops.ef rfl (ef_call (tr_putS hR hW hl hd4 x k) rfl rfl) ?_
        rintro _ _ ⟨_, _, ⟨rfl, HH1, hN1, rfl⟩, rfl, rfl⟩
        refine Ops.app ?_
        refine Ops.pv (pv_assign rfl) rfl ?_
        refine Ops.nil ?_
        refine Ends.seq ?_
        refine Wp.ret ?_
        obtain ⟨m1, m2⟩ := sp_put (L := L) (x := x) (d := d) (k := k) ⟨by simp [rightM]; omega, hdm, by omega, by omega⟩ (by assumption)
        exact Ends.ret (L' := (sb, .cells (schC v e l (fun d => ptrV (rb d))).toArray 57) :: (K ++ segs (fset h d HH1) 4)) (res1 rfl rfl) ⟨by rw [m1], _, K, rb, _, hs, by rw [m2]; exact hR.set hN1, rfl⟩

theorem tr_sDrop_some (sb : Nat) (H : Hp) (T : Ones) (e : Nat) (l : Int) (L : Nat → Ones) (hH : SchH T e l L sb H) (hA : At T e l) (hW : RdysW L) (hl : RdysL L (2 ^ 20)) (x : Int) (d : Nat) (k : Int) (hf : findM L x = some (d, k)) : Tr Try.prog 17 [.pointer (some ⟨sb, 0, none⟩), .int .i64 x] (H) (fun u L' => u = .bool (inR (L d) x) ∧ SchH T e l (fset L d (dropR (L d) x)) sb L') := by
  obtain ⟨v, K, rb, h, hs, hR, rfl⟩ := hH
  obtain ⟨f1, f2, f3⟩ := fd_some hf
  obtain ⟨hd4, _⟩ := find_some hf
  refine Tr.enter Try.func17 rfl Try.ntmps17 rfl (fun W F => ?_)
  refine Wp.app ?_
  refine Wp.seq ?_
  refine Wp.region ?_
  refine Ops.pv (pv_assign rfl) rfl ?_
  refine Ops.nil ?_
  refine Ends.seq ?_
  refine Wp.seq ?_
  refine Wp.region ?_
  refine Ops.pv (pv_move rfl) rfl ?_
  refine Ops.pv (pv_move rfl) rfl ?_
  refine Ops.ef rfl (ef_callr ((tr_sFind sb _ T e l L ⟨_, K, rb, h, hs, hR, rfl⟩ hW hl x).eq (by rw [f1, f2, f3])) rfl rfl) ?_
  rintro _ _ ⟨rfl, rfl⟩
  refine Ops.pv (pv_move rfl) rfl ?_
  refine Ops.pv (pv_extract rfl rfl) rfl ?_
  refine Ops.pv (pv_extract rfl rfl) rfl ?_
  refine Ops.pv (pv_extract rfl rfl) rfl ?_
  refine Ops.pv (pv_assign rfl) rfl ?_
  refine Ops.pv (pv_assign rfl) rfl ?_
  refine Ops.pv (pv_assign rfl) rfl ?_
  refine Ops.nil ?_
  refine Ends.seq ?_
  refine Wp.seq ?_
  refine Wp.region ?_
  refine Ops.pv (pv_move rfl) rfl ?_
  refine Ops.pv (pv_move rfl) rfl ?_
  refine Ops.pvg ⟨_, _, rfl, rfl, rfl⟩ (pv_move rfl) rfl ?_
  refine Ops.pvg ⟨_, _, rfl, rfl, rfl⟩ (pv_move rfl) rfl ?_
  first | refine Ops.pvg ⟨_, _, rfl, rfl, rfl⟩ (pv_nilCheck rfl) rfl ?_ | refine Ops.pvg ⟨_, _, rfl, rfl, rfl⟩ (pv_nilCheck_func rfl rfl) rfl ?_
  first | refine Ops.pvg ⟨_, _, rfl, rfl, rfl⟩ (pv_fieldAddr0 rfl rfl) rfl ?_ | refine Ops.pvg ⟨_, _, rfl, rfl, rfl⟩ (pv_fieldAddr rfl rfl) rfl ?_
  refine Ops.pvg ⟨_, _, rfl, rfl, rfl⟩ (pv_indexAddrA (i := d) rfl rfl rfl hd4) rfl ?_
  refine Ops.pvg ⟨_, _, rfl, rfl, rfl⟩ (pv_load rfl rfl (sch_p hd4)) rfl ?_
  refine Ops.pvg ⟨_, _, rfl, rfl, rfl⟩ (pv_move rfl) rfl ?_
  refine Ops.efg ⟨_, _, rfl, rfl, rfl⟩ (ef_call (tr_dropS hR hW hl hd4 x) rfl rfl) ?_
  rintro _ _ ⟨_, _, ⟨rfl, HH1, hN1, rfl⟩, rfl, rfl⟩
  refine Ops.app ?_
  have hR2 := hR.set hN1
  have hW2 := hW.set (d := d) ((hW d hd4).drop x)
  have hl2 := drops_len hl d x
  refine Ops.pv (pv_pick_true rfl rfl) rfl ?_
  refine Ops.pv (pv_assign rfl) rfl ?_
  refine Ops.nil ?_
  refine Ends.seq ?_
  refine Wp.ret ?_
  exact Ends.ret (L' := (sb, .cells (schC v e l (fun d => ptrV (rb d))).toArray 57) :: (K ++ segs (fset h d HH1) 4)) (res1 rfl rfl) ⟨rfl, _, K, rb, _, hs, hR2, rfl⟩

theorem tr_sDrop_none (sb : Nat) (H : Hp) (T : Ones) (e : Nat) (l : Int) (L : Nat → Ones) (hH : SchH T e l L sb H) (hA : At T e l) (hW : RdysW L) (hl : RdysL L (2 ^ 20)) (x : Int) (hf : findM L x = none) : Tr Try.prog 17 [.pointer (some ⟨sb, 0, none⟩), .int .i64 x] (H) (fun u L' => u = .bool false ∧ SchH T e l L sb L') := by
  obtain ⟨v, K, rb, h, hs, hR, rfl⟩ := hH
  obtain ⟨f1, f2, f3⟩ := fd_none hf
  refine Tr.enter Try.func17 rfl Try.ntmps17 rfl (fun W F => ?_)
  refine Wp.app ?_
  refine Wp.seq ?_
  refine Wp.region ?_
  refine Ops.pv (pv_assign rfl) rfl ?_
  refine Ops.nil ?_
  refine Ends.seq ?_
  refine Wp.seq ?_
  refine Wp.region ?_
  refine Ops.pv (pv_move rfl) rfl ?_
  refine Ops.pv (pv_move rfl) rfl ?_
  refine Ops.ef rfl (ef_callr ((tr_sFind sb _ T e l L ⟨_, K, rb, h, hs, hR, rfl⟩ hW hl x).eq (by rw [f1, f2, f3])) rfl rfl) ?_
  rintro _ _ ⟨rfl, rfl⟩
  refine Ops.pv (pv_move rfl) rfl ?_
  refine Ops.pv (pv_extract rfl rfl) rfl ?_
  refine Ops.pv (pv_extract rfl rfl) rfl ?_
  refine Ops.pv (pv_extract rfl rfl) rfl ?_
  refine Ops.pv (pv_assign rfl) rfl ?_
  refine Ops.pv (pv_assign rfl) rfl ?_
  refine Ops.pv (pv_assign rfl) rfl ?_
  refine Ops.nil ?_
  refine Ends.seq ?_
  refine Wp.seq ?_
  refine Wp.region ?_
  refine Ops.pv (pv_move rfl) rfl ?_
  refine Ops.pv (pv_move rfl) rfl ?_
  refine Ops.skipg ⟨_, _, rfl, rfl, rfl⟩ rfl ?_
  refine Ops.skipg ⟨_, _, rfl, rfl, rfl⟩ rfl ?_
  refine Ops.skipg ⟨_, _, rfl, rfl, rfl⟩ rfl ?_
  refine Ops.skipg ⟨_, _, rfl, rfl, rfl⟩ rfl ?_
  refine Ops.skipg ⟨_, _, rfl, rfl, rfl⟩ rfl ?_
  refine Ops.skipg ⟨_, _, rfl, rfl, rfl⟩ rfl ?_
  refine Ops.skipg ⟨_, _, rfl, rfl, rfl⟩ rfl ?_
  refine Ops.skipg ⟨_, _, rfl, rfl, rfl⟩ rfl ?_
  refine Ops.pv (pv_pick_false rfl rfl) rfl ?_
  refine Ops.pv (pv_assign rfl) rfl ?_
  refine Ops.nil ?_
  refine Ends.seq ?_
  refine Wp.ret ?_
  exact Ends.ret (L' := (sb, .cells (schC v e l (fun d => ptrV (rb d))).toArray 57) :: (K ++ segs h 4)) (res1 rfl rfl) ⟨rfl, _, K, rb, _, hs, hR, rfl⟩

theorem tr_sYield_some (sb : Nat) (H : Hp) (T : Ones) (e : Nat) (l : Int) (L : Nat → Ones) (hH : SchH T e l L sb H) (hA : At T e l) (hW : RdysW L) (hl : RdysL L (2 ^ 20)) (x : Int) (d : Nat) (k : Int) (hf : findM L x = some (d, k)) : Tr Try.prog 16 [.pointer (some ⟨sb, 0, none⟩), .int .i64 x] (H) (fun u L' => u = .bool true ∧ SchH T e l (fset L d (putR (dropR (L d) x) x k)) sb L') := by
  obtain ⟨v, K, rb, h, hs, hR, rfl⟩ := hH
  obtain ⟨f1, f2, f3⟩ := fd_some hf
  obtain ⟨hd4, _⟩ := find_some hf
  refine Tr.enter Try.func16 rfl Try.ntmps16 rfl (fun W F => ?_)
  refine Wp.app ?_
  refine Wp.seq ?_
  refine Wp.region ?_
  refine Ops.pv (pv_assign rfl) rfl ?_
  refine Ops.nil ?_
  refine Ends.seq ?_
  refine Wp.seq ?_
  refine Wp.region ?_
  refine Ops.pv (pv_move rfl) rfl ?_
  refine Ops.pv (pv_move rfl) rfl ?_
  refine Ops.ef rfl (ef_callr ((tr_sFind sb _ T e l L ⟨_, K, rb, h, hs, hR, rfl⟩ hW hl x).eq (by rw [f1, f2, f3])) rfl rfl) ?_
  rintro _ _ ⟨rfl, rfl⟩
  refine Ops.pv (pv_move rfl) rfl ?_
  refine Ops.pv (pv_extract rfl rfl) rfl ?_
  refine Ops.pv (pv_extract rfl rfl) rfl ?_
  refine Ops.pv (pv_extract rfl rfl) rfl ?_
  refine Ops.pv (pv_assign rfl) rfl ?_
  refine Ops.pv (pv_assign rfl) rfl ?_
  refine Ops.pv (pv_assign rfl) rfl ?_
  refine Ops.nil ?_
  refine Ends.seq ?_
  refine Wp.seq ?_
  refine Wp.seq ?_
  refine Wp.region ?_
  refine Ops.pv (pv_move rfl) rfl ?_
  refine Ops.nil ?_
  refine Ends.seq ?_
  refine Wp.cond_true rfl ?_
  refine Wp.seq ?_
  refine Wp.region ?_
  refine Ops.pv (pv_move rfl) rfl ?_
  refine Ops.pv (pv_move rfl) rfl ?_
  first | refine Ops.pv (pv_nilCheck rfl) rfl ?_ | refine Ops.pv (pv_nilCheck_func rfl rfl) rfl ?_
  first | refine Ops.pv (pv_fieldAddr0 rfl rfl) rfl ?_ | refine Ops.pv (pv_fieldAddr rfl rfl) rfl ?_
  refine Ops.pv (pv_indexAddrA (i := d) rfl rfl rfl hd4) rfl ?_
  refine Ops.pv (pv_load rfl rfl (sch_p hd4)) rfl ?_
  refine Ops.pv (pv_move rfl) rfl ?_
  refine Ops.ef rfl (ef_call (tr_dropS hR hW hl hd4 x) rfl rfl) ?_
  rintro _ _ ⟨_, _, ⟨rfl, HH1, hN1, rfl⟩, rfl, rfl⟩
  refine Ops.app ?_
  have hR2 := hR.set hN1
  have hW2 := hW.set (d := d) ((hW d hd4).drop x)
  have hl2 := drops_len hl d x
  refine Ops.nil ?_
  refine Ends.seq ?_
  refine Wp.region ?_
  refine Ops.pv (pv_move rfl) rfl ?_
  refine Ops.pv (pv_move rfl) rfl ?_
  first | refine Ops.pv (pv_nilCheck rfl) rfl ?_ | refine Ops.pv (pv_nilCheck_func rfl rfl) rfl ?_
  first | refine Ops.pv (pv_fieldAddr0 rfl rfl) rfl ?_ | refine Ops.pv (pv_fieldAddr rfl rfl) rfl ?_
  refine Ops.pv (pv_indexAddrA (i := d) rfl rfl rfl hd4) rfl ?_
  refine Ops.pv (pv_load rfl rfl (sch_p hd4)) rfl ?_
  refine Ops.pv (pv_move rfl) rfl ?_
  refine Ops.pv (pv_move rfl) rfl ?_
  refine Ops.ef rfl (ef_call (tr_putS hR2 hW2 hl2 hd4 x k) rfl rfl) ?_
  rintro _ _ ⟨_, _, ⟨rfl, HH2, hN2, rfl⟩, rfl, rfl⟩
  refine Ops.app ?_
  have hR3 := hR2.set hN2
  rw [fset_fset, fset_fset, fset_same] at hR3
  rw [fset_fset]
  refine Ops.nil ?_
  refine Ends.seq ?_
  refine Wp.seq ?_
  refine Wp.region ?_
  refine Ops.pv (pv_move rfl) rfl ?_
  refine Ops.pv (pv_assign rfl) rfl ?_
  refine Ops.nil ?_
  refine Ends.seq ?_
  refine Wp.ret ?_
  exact Ends.ret (L' := (sb, .cells (schC v e l (fun d => ptrV (rb d))).toArray 57) :: (K ++ segs (fset h d HH2) 4)) (res1 rfl rfl) ⟨rfl, _, K, rb, _, hs, hR3, rfl⟩

theorem tr_sYield_none (sb : Nat) (H : Hp) (T : Ones) (e : Nat) (l : Int) (L : Nat → Ones) (hH : SchH T e l L sb H) (hA : At T e l) (hW : RdysW L) (hl : RdysL L (2 ^ 20)) (x : Int) (hf : findM L x = none) : Tr Try.prog 16 [.pointer (some ⟨sb, 0, none⟩), .int .i64 x] (H) (fun u L' => u = .bool false ∧ SchH T e l L sb L') := by
  obtain ⟨v, K, rb, h, hs, hR, rfl⟩ := hH
  obtain ⟨f1, f2, f3⟩ := fd_none hf
  refine Tr.enter Try.func16 rfl Try.ntmps16 rfl (fun W F => ?_)
  refine Wp.app ?_
  refine Wp.seq ?_
  refine Wp.region ?_
  refine Ops.pv (pv_assign rfl) rfl ?_
  refine Ops.nil ?_
  refine Ends.seq ?_
  refine Wp.seq ?_
  refine Wp.region ?_
  refine Ops.pv (pv_move rfl) rfl ?_
  refine Ops.pv (pv_move rfl) rfl ?_
  refine Ops.ef rfl (ef_callr ((tr_sFind sb _ T e l L ⟨_, K, rb, h, hs, hR, rfl⟩ hW hl x).eq (by rw [f1, f2, f3])) rfl rfl) ?_
  rintro _ _ ⟨rfl, rfl⟩
  refine Ops.pv (pv_move rfl) rfl ?_
  refine Ops.pv (pv_extract rfl rfl) rfl ?_
  refine Ops.pv (pv_extract rfl rfl) rfl ?_
  refine Ops.pv (pv_extract rfl rfl) rfl ?_
  refine Ops.pv (pv_assign rfl) rfl ?_
  refine Ops.pv (pv_assign rfl) rfl ?_
  refine Ops.pv (pv_assign rfl) rfl ?_
  refine Ops.nil ?_
  refine Ends.seq ?_
  refine Wp.seq ?_
  refine Wp.seq ?_
  refine Wp.region ?_
  refine Ops.pv (pv_move rfl) rfl ?_
  refine Ops.nil ?_
  refine Ends.seq ?_
  refine Wp.cond_false rfl ?_
  refine Wp.skip ?_
  refine Ends.seq ?_
  refine Wp.seq ?_
  refine Wp.region ?_
  refine Ops.pv (pv_move rfl) rfl ?_
  refine Ops.pv (pv_assign rfl) rfl ?_
  refine Ops.nil ?_
  refine Ends.seq ?_
  refine Wp.ret ?_
  exact Ends.ret (L' := (sb, .cells (schC v e l (fun d => ptrV (rb d))).toArray 57) :: (K ++ segs h 4)) (res1 rfl rfl) ⟨rfl, _, K, rb, _, hs, hR, rfl⟩

theorem tr_sPick (sb : Nat) (H : Hp) (T : Ones) (e : Nat) (l : Int) (L : Nat → Ones) (hH : SchH T e l L sb H) (hA : At T e l) (hW : RdysW L) (hl : RdysL L (2 ^ 20)) : TrR Try.prog 15 [.pointer (some ⟨sb, 0, none⟩)] (H) (.tuple #[.int .i64 (nextV (L (domN T e))), .bool (nextB (L (domN T e)))]) := by
  obtain ⟨v, K, rb, h, hs, hR, rfl⟩ := hH
  obtain ⟨hdn, hd4⟩ := hA.domN
  refine Tr.enter Try.func15 rfl Try.ntmps15 rfl (fun W F => ?_)
  refine Wp.app ?_
  refine Wp.seq ?_
  refine Wp.region ?_
  refine Ops.pv (pv_assign rfl) rfl ?_
  refine Ops.pv (pv_assign rfl) rfl ?_
  refine Ops.nil ?_
  refine Ends.seq ?_
  refine Wp.seq ?_
  refine AnyH.startL 12 rfl ?_
  refine AnyH.take 0 rfl (by kernel_rfl) (by kernel_rfl) (by kernel_rfl) PF.pf rfl (pv_move rfl) rfl ?_
  refine AnyH.take 1 rfl (by kernel_rfl) (by kernel_rfl) (by kernel_rfl) PF.pf rfl (pv_move rfl) rfl ?_
  first | refine AnyH.take 3 rfl (by kernel_rfl) (by kernel_rfl) (by kernel_rfl) PF.pf rfl (pv_nilCheck rfl) rfl ?_ | refine AnyH.take 3 rfl (by kernel_rfl) (by kernel_rfl) (by kernel_rfl) PF.pf rfl (pv_nilCheck_func rfl rfl) rfl ?_
  first | refine AnyH.take 4 rfl (by kernel_rfl) (by kernel_rfl) (by kernel_rfl) PF.pf rfl (pv_fieldAddr0 rfl rfl) rfl ?_ | refine AnyH.take 4 rfl (by kernel_rfl) (by kernel_rfl) (by kernel_rfl) PF.pf rfl (pv_fieldAddr rfl rfl) rfl ?_
  refine AnyH.one 2 (by kernel_rfl) ?_
  refine Turn.ef rfl rfl (ef_callr ((tr_sDomain sb _ T e l L ⟨_, K, rb, h, hs, hR, rfl⟩ hA).eq (by rw [hdn])) rfl rfl) ?_ ?_
  · rintro _ _ ⟨rfl, rfl⟩; infer_instance
  rintro _ _ ⟨rfl, rfl⟩
  refine AnyH.take 5 rfl (by kernel_rfl) (by kernel_rfl) (by kernel_rfl) PF.pf rfl (pv_indexAddrA (i := domN T e) rfl rfl rfl hd4) rfl ?_
  refine AnyH.take 6 rfl (by kernel_rfl) (by kernel_rfl) (by kernel_rfl) PF.pf rfl (pv_load rfl rfl (sch_p hd4)) rfl ?_
  refine AnyH.one 7 (by kernel_rfl) ?_
  refine Turn.ef rfl rfl (ef_callr (tr_nextS hR hW hl hd4) rfl rfl) ?_ ?_
  · rintro _ _ ⟨rfl, rfl⟩; infer_instance
  rintro _ _ ⟨rfl, rfl⟩
  refine AnyH.take 8 rfl (by kernel_rfl) (by kernel_rfl) (by kernel_rfl) PF.pf rfl (pv_extract rfl rfl) rfl ?_
  refine AnyH.take 9 rfl (by kernel_rfl) (by kernel_rfl) (by kernel_rfl) PF.pf rfl (pv_extract rfl rfl) rfl ?_
  refine AnyH.take 10 rfl (by kernel_rfl) (by kernel_rfl) (by kernel_rfl) PF.pf rfl (pv_assign rfl) rfl ?_
  refine AnyH.take 11 rfl (by kernel_rfl) (by kernel_rfl) (by kernel_rfl) PF.pf rfl (pv_assign rfl) rfl ?_
  refine AnyH.done (by kernel_rfl) ?_
  refine Ends.seq ?_
  refine Wp.ret ?_
  exact Ends.ret (res2 rfl rfl rfl) ⟨rfl, rfl⟩

theorem tr_sNew (G : Hp) (a : Option Addr) (c : Nat) (T : Ones) (hv : View G 2 (.slice a T.length c) T.length (cel oneC T)) (hl : T.length ≤ 2 ^ 30) : Tr Try.prog 9 [.slice a T.length c] (G) (fun u L' => (tmsOk T ∧ ∃ sb H, u = .tuple #[.pointer (some ⟨sb, 0, none⟩), .int .i64 0] ∧ SchH T 0 (tkd T 0).2 (fun _ => []) sb H ∧ L' = H ++ G) ∨ (¬ tmsOk T ∧ u = .tuple #[.pointer none, .int .i64 1] ∧ L' = G)) := by
  refine Tr.enter Try.func9 rfl Try.ntmps9 rfl (fun W F => ?_)
  refine Wp.app ?_
  refine Wp.seq ?_
  refine Wp.region ?_
  refine Ops.pv (pv_assign rfl) rfl ?_
  refine Ops.pv (pv_assign rfl) rfl ?_
  refine Ops.nil ?_
  refine Ends.seq ?_
  refine Wp.seq ?_
  refine Wp.seq ?_
  refine Wp.region ?_
  refine Ops.pv (pv_move rfl) rfl ?_
  refine Ops.pv (pv_len_slice (T := 28) rfl rfl) rfl ?_
  refine Ops.pv (pv_lss rfl rfl) rfl ?_
  refine Ops.pv (pv_move rfl) rfl ?_
  refine Ops.pvcn rfl rfl (fun hg => pv_move rfl) rfl ?_
  refine Ops.pvcn rfl rfl (fun hg => Pv.setE (t := 12) rfl (cv_pos hg) (pv_len_slice (T := 28) rfl rfl)) rfl ?_
  refine Ops.pvcn rfl rfl (fun hg => Pv.setE (t := 12) rfl (cv_pos hg) (Pv.setE (t := 13) rfl (cv_pos hg) (pv_gtr rfl rfl))) rfl ?_
  refine Ops.pv (pv_pick_or rfl rfl) rfl ?_
  refine Ops.nil ?_
  refine Ends.seq ?_
  first | refine Wp.cond_dect rfl (fun h1 => ?_) (fun h1 => ?_) | refine Wp.cond_t rfl (fun h1 => ?_) (fun h1 => ?_)
  · refine Wp.seq ?_
    refine Wp.region ?_
    refine Ops.pv (pv_assign rfl) rfl ?_
    refine Ops.pv (pv_assign rfl) rfl ?_
    refine Ops.nil ?_
    refine Ends.seq ?_
    refine Wp.ret ?_
    refine Ends.then_ret ?_
    exact Ends.ret (L' := G) (res2 rfl rfl rfl) (.inr ⟨fun e => by have := e.1; omega, rfl, rfl⟩)
  · refine Wp.skip ?_
    refine Ends.seq ?_
    refine Wp.seq ?_
    refine Wp.seq ?_
    refine Wp.region ?_
    refine Ops.pv (pv_move rfl) rfl ?_
    refine Ops.pv (pv_len_slice (T := 28) rfl rfl) rfl ?_
    refine Ops.pv (pv_move rfl) rfl ?_
    refine Ops.nil ?_
    refine Ends.seq ?_
    refine Wp.block ?_
    refine Wp.loopK (σ := Nat) [(0, _), (16, _), (17, _)] (fun s => [(18, .int .i64 s)]) (fun s => G ++ F) (fun s => s ≤ T.length ∧ ∀ j, j < s → tmOk (tkd T j)) (fun s => T.length - s) 0 ⟨Nat.zero_le _, fun j hj => absurd hj (Nat.not_lt_zero j)⟩ ⟨rfl, rfl, rfl, trivial⟩ ⟨rfl, trivial⟩ (by intro w ho; (try dsimp only [List.nil_append, List.cons_append]); exact Drop.own ho) ?_
    rintro i KK ⟨hi, hn⟩ hK
    dsimp only [List.cons_append, List.nil_append] at hK ⊢
    refine Wp.seq ?_
    refine Wp.region ?_
    refine Ops.pv (pv_lss rfl rfl) rfl ?_
    refine Ops.nil ?_
    refine Ends.seq ?_
    refine Wp.seq ?_
    first | refine Wp.cond_dect rfl (fun h2 => ?_) (fun h2 => ?_) | refine Wp.cond_t rfl (fun h2 => ?_) (fun h2 => ?_)
    · obtain ⟨b, o, cap, cc, T0, f, hv1, hbv, hr⟩ := hv.open (by omega)
      cases hv1
      obtain ⟨q0, q1⟩ := one_read hr (tkd_get (show i < T.length by omega))
      refine Wp.skip ?_
      refine Ends.seq ?_
      refine Wp.seq ?_
      refine Wp.block ?_
      refine Wp.seq ?_
      refine Wp.region ?_
      refine Ops.pv (pv_indexAddr rfl rfl rfl (by omega)) rfl ?_
      refine Ops.pv (pv_loadK [.int .i64 (tkd T i).1, .int .i64 (tkd T i).2] rfl rfl rfl (cel_reads (f := oneC) hr (tkd_get (show i < T.length by omega)))) rfl ?_
      refine Ops.ef rfl (ef_allocK tyZ39 rfl) ?_
      rintro _ _ ⟨b1, rfl, rfl⟩
      refine Ops.ef rfl (ef_storeK rfl rfl rfl rfl) ?_
      rintro _ _ ⟨rfl, rfl⟩
      refine Ops.nil ?_
      refine Ends.seq ?_
      refine Wp.seq ?_
      refine Wp.region ?_
      first | refine Ops.pv (pv_fieldAddr0 rfl rfl) rfl ?_ | refine Ops.pv (pv_fieldAddr rfl rfl) rfl ?_
      first | refine Ops.pv (pv_load rfl rfl rfl) rfl ?_ | refine Ops.pv (pv_load rfl rfl (by assumption)) rfl ?_
      refine Ops.ef rfl (ef_callr (tr_domain (tkd T i).1) rfl rfl) ?_
      rintro _ _ ⟨rfl, rfl⟩
      first | refine Ops.pv (pv_not_dec rfl) rfl ?_ | refine Ops.pv (pv_not rfl) rfl ?_
      refine Ops.pv (pv_move rfl) rfl ?_
      first | refine Ops.split (t := 26) rfl (fun h3 => ?_) (fun h3 => ?_) | refine Ops.splitb (t := 26) rfl (fun h3 => ?_) (fun h3 => ?_)
      · refine Ops.skipg ⟨_, _, rfl, rfl, rfl⟩ rfl ?_
        refine Ops.skipg ⟨_, _, rfl, rfl, rfl⟩ rfl ?_
        refine Ops.skipg ⟨_, _, rfl, rfl, rfl⟩ rfl ?_
        refine Ops.pv (pv_pick_true rfl rfl) rfl ?_
        refine Ops.pv (pv_move rfl) rfl ?_
        refine Ops.skipg ⟨_, _, rfl, rfl, rfl⟩ rfl ?_
        refine Ops.skipg ⟨_, _, rfl, rfl, rfl⟩ rfl ?_
        refine Ops.skipg ⟨_, _, rfl, rfl, rfl⟩ rfl ?_
        refine Ops.pv (pv_pick_true rfl rfl) rfl ?_
        refine Ops.nil ?_
        refine Ends.seq ?_
        refine Wp.cond_true rfl ?_
        refine Wp.seq ?_
        refine Wp.region ?_
        refine Ops.pv (pv_assign rfl) rfl ?_
        refine Ops.pv (pv_assign rfl) rfl ?_
        refine Ops.nil ?_
        refine Ends.seq ?_
        refine Wp.ret ?_
        refine Ends.block_ret ?_
        refine Ends.then_ret ?_
        refine Ends.then_ret ?_
        refine Ends.block_ret ?_
        refine Ends.then_ret ?_
        exact Ends.ret (L' := G) (res2 rfl rfl rfl) (.inr ⟨tms_bad (show i < T.length by omega) (by first | (unfold tmOk; intro e; omega) | (unfold tmOk; simp_all [domB]; done) | (unfold tmOk; intro e; simp_all [domB]; omega)), rfl, rfl⟩)
      · first | refine Ops.pvg ⟨_, _, rfl, rfl, rfl⟩ (pv_fieldAddr0 rfl rfl) rfl ?_ | refine Ops.pvg ⟨_, _, rfl, rfl, rfl⟩ (pv_fieldAddr rfl rfl) rfl ?_
        first | refine Ops.pvg ⟨_, _, rfl, rfl, rfl⟩ (pv_load rfl rfl rfl) rfl ?_ | refine Ops.pvg ⟨_, _, rfl, rfl, rfl⟩ (pv_load rfl rfl (by assumption)) rfl ?_
        refine Ops.pvg ⟨_, _, rfl, rfl, rfl⟩ (pv_lss rfl rfl) rfl ?_
        refine Ops.pv (pv_pick_false rfl rfl) rfl ?_
        refine Ops.pv (pv_move rfl) rfl ?_
        first | refine Ops.pvcn rfl rfl (fun hg => pv_fieldAddr0 rfl rfl) rfl ?_ | refine Ops.pvcn rfl rfl (fun hg => pv_fieldAddr rfl rfl) rfl ?_
        first | refine Ops.pvcn rfl rfl (fun hg => Pv.setE (t := 32) rfl (cv_pos hg) (pv_load rfl rfl rfl)) rfl ?_ | refine Ops.pvcn rfl rfl (fun hg => Pv.setE (t := 32) rfl (cv_pos hg) (pv_load rfl rfl (by assumption))) rfl ?_
        refine Ops.pvcn rfl rfl (fun hg => Pv.setE (t := 32) rfl (cv_pos hg) (Pv.setE (t := 33) rfl (cv_pos hg) (pv_gtr rfl rfl))) rfl ?_
        refine Ops.pv (pv_pick_or rfl rfl) rfl ?_
        refine Ops.nil ?_
        refine Ends.seq ?_
        first | refine Wp.cond_dect rfl (fun h4 => ?_) (fun h4 => ?_) | refine Wp.cond_t rfl (fun h4 => ?_) (fun h4 => ?_)
        · refine Wp.seq ?_
          refine Wp.region ?_
          refine Ops.pv (pv_assign rfl) rfl ?_
          refine Ops.pv (pv_assign rfl) rfl ?_
          refine Ops.nil ?_
          refine Ends.seq ?_
          refine Wp.ret ?_
          refine Ends.block_ret ?_
          refine Ends.then_ret ?_
          refine Ends.then_ret ?_
          refine Ends.block_ret ?_
          refine Ends.then_ret ?_
          exact Ends.ret (L' := G) (res2 rfl rfl rfl) (.inr ⟨tms_bad (show i < T.length by omega) (by first | (unfold tmOk; intro e; omega) | (unfold tmOk; simp_all [domB]; done) | (unfold tmOk; intro e; simp_all [domB]; omega)), rfl, rfl⟩)
        · refine Wp.skip ?_
          refine Ends.block_normal ?_
          refine Ends.seq ?_
          refine Wp.region ?_
          first | refine Ops.pv (pv_add rfl rfl (w64 (by omega) (by omega))) rfl ?_ | refine Ops.pv (pv_add rfl rfl rfl) rfl ?_
          refine Ops.pv (pv_move rfl) rfl ?_
          refine Ops.nil ?_
          refine Ends.goes ?_
          refine Goes.back (hK (i + 1) ⟨by omega, fun j hj => ?_⟩ (by omega)) ⟨rfl, rfl, rfl, rfl, trivial⟩
          rcases Nat.lt_succ_iff_lt_or_eq.1 hj with hj | rfl
          · exact hn j hj
          · unfold tmOk; first | (simp_all [domB]; done) | (simp_all [domB]; omega)
    · obtain ⟨b, o, cap, cc, T0, f, hv1, hbv, hr⟩ := hv.open (by omega)
      cases hv1
      obtain ⟨q0, q1⟩ := one_read hr (tkd_get (show 0 < T.length by omega))
      refine Wp.exit ?_
      refine Ends.then_exit ?_
      refine Ends.then_exit ?_
      refine Ends.block_hit ?_
      refine Ends.seq ?_
      refine Wp.seq ?_
      refine AnyH.start G 9 rfl ?_
      refine AnyH.take 0 rfl (by kernel_rfl) (by kernel_rfl) (by kernel_rfl) PF.pf rfl (pv_move rfl) rfl ?_
      refine AnyH.take 2 rfl (by kernel_rfl) (by kernel_rfl) (by kernel_rfl) PF.pf rfl (pv_move rfl) rfl ?_
      refine AnyH.take 3 rfl (by kernel_rfl) (by kernel_rfl) (by kernel_rfl) PF.pf rfl (pv_indexAddr (i := 0) rfl rfl rfl (by first | omega | (simp; done) | (simp; omega))) rfl ?_
      first | refine AnyH.take 4 rfl (by kernel_rfl) (by kernel_rfl) (by kernel_rfl) PF.pf rfl (pv_fieldAddr0 rfl rfl) rfl ?_ | refine AnyH.take 4 rfl (by kernel_rfl) (by kernel_rfl) (by kernel_rfl) PF.pf rfl (pv_fieldAddr rfl rfl) rfl ?_
      refine AnyH.take 5 rfl (by kernel_rfl) (by kernel_rfl) (by kernel_rfl) PF.pf rfl (pv_load rfl rfl q1) rfl ?_
      refine AnyH.one 1 (by kernel_rfl) ?_
      refine Turn.ef rfl rfl (ef_call (tr_cloneT G _ c T hv (by omega)) rfl rfl) ?_ ?_
      · rintro _ _ ⟨_, _, ⟨C1, hc1, rfl⟩, rfl, rfl⟩; infer_instance
      rintro _ _ ⟨_, _, ⟨C1, hc1, rfl⟩, rfl, rfl⟩
      refine AnyH.app ?_
      obtain ⟨cp, cq, rfl⟩ := hc1.form
      refine AnyH.take 6 rfl (by kernel_rfl) (by kernel_rfl) (by kernel_rfl) PF.pf rfl (pv_build rfl) rfl ?_
      refine AnyH.one 7 (by kernel_rfl) ?_
      refine Turn.ef rfl rfl (ef_boxK rfl rfl) ?_ ?_
      · rintro _ _ ⟨b2, rfl, rfl⟩; infer_instance
      rintro _ _ ⟨b2, rfl, rfl⟩
      refine AnyH.take 8 rfl (by kernel_rfl) (by kernel_rfl) (by kernel_rfl) PF.pf rfl (pv_assign rfl) rfl ?_
      refine AnyH.done (by kernel_rfl) ?_
      refine Ends.seq ?_
      refine Wp.seq ?_
      refine Wp.seq ?_
      refine Wp.region ?_
      refine Ops.pv (pv_move rfl) rfl ?_
      refine Ops.nil ?_
      refine Ends.seq ?_
      refine Wp.block ?_
      have eb : ([.slice cp T.length cq, .int .i64 0, .int .i64 (tkd T 0).2, .pointer none, .pointer none, .pointer none, .pointer none] : List Value) = schC (.slice cp T.length cq) 0 (tkd T 0).2 (fun _ => .pointer none) := rfl
      rw [eb]
      have es : ([] : Hp) = segs (fun _ => []) 4 := (segs_nil 4).symm
      refine Wp.loopK (σ := Nat × (Nat → Value) × (Nat → Nat) × (Nat → Hp)) [(6, _)] (fun s => [(45, .int .i64 s.1)]) (fun s => (b2, .cells (schC (.slice cp T.length cq) 0 (tkd T 0).2 s.2.1).toArray 57) :: (C1 ++ (segs s.2.2.2 4 ++ (G ++ F)))) (fun s => s.1 ≤ 4 ∧ (∀ j, j < s.1 → RdyH [] (s.2.2.1 j) (s.2.2.2 j)) ∧ (∀ j, s.1 ≤ j → s.2.2.2 j = []) ∧ ∀ j, j < s.1 → s.2.1 j = ptrV (s.2.2.1 j)) (fun s => 4 - s.1) (0, fun _ => .pointer none, fun _ => 0, fun _ => []) ⟨Nat.zero_le _, fun j hj => absurd hj (Nat.not_lt_zero j), fun _ _ => rfl, fun j hj => absurd hj (Nat.not_lt_zero j)⟩ ⟨rfl, trivial⟩ ⟨rfl, trivial⟩ (by intro w ho; (try dsimp only [List.nil_append, List.cons_append]); rw [segs_nil]; exact Drop.own ho) ?_
      rintro ⟨d, p, rb, h⟩ KK ⟨hd, hR, hz, hp⟩ hK
      dsimp only [List.cons_append, List.nil_append] at hK ⊢
      dsimp only at hd hR hz hp ⊢
      refine Wp.seq ?_
      refine Wp.region ?_
      refine Ops.pv (pv_lss rfl rfl) rfl ?_
      refine Ops.nil ?_
      refine Ends.seq ?_
      refine Wp.seq ?_
      first | refine Wp.cond_dect rfl (fun h5 => ?_) (fun h5 => ?_) | refine Wp.cond_t rfl (fun h5 => ?_) (fun h5 => ?_)
      · have hd4 : d < 4 := by omega
        have hset : ∀ x, SetL (schC (.slice cp T.length cq) 0 (tkd T 0).2 p) (3 + d * 1) [x] (schC (.slice cp T.length cq) 0 (tkd T 0).2 (fset p d x)) := fun x => sch_setL hd4
        refine Wp.skip ?_
        refine Ends.seq ?_
        refine Wp.seq ?_
        refine Wp.block ?_
        refine Wp.seq ?_
        refine Wp.region ?_
        refine Ops.pv (pv_move rfl) rfl ?_
        refine Ops.pv (pv_assign rfl) rfl ?_
        refine Ops.nil ?_
        refine Ends.seq ?_
        refine AnyH.start ([] : Hp) 7 rfl ?_
        refine AnyH.take 0 rfl (by kernel_rfl) (by kernel_rfl) (by kernel_rfl) PF.pf rfl (pv_move rfl) rfl ?_
        refine AnyH.take 1 rfl (by kernel_rfl) (by kernel_rfl) (by kernel_rfl) PF.pf rfl (pv_move rfl) rfl ?_
        first | refine AnyH.take 3 rfl (by kernel_rfl) (by kernel_rfl) (by kernel_rfl) PF.pf rfl (pv_nilCheck rfl) rfl ?_ | refine AnyH.take 3 rfl (by kernel_rfl) (by kernel_rfl) (by kernel_rfl) PF.pf rfl (pv_nilCheck_func rfl rfl) rfl ?_
        first | refine AnyH.take 4 rfl (by kernel_rfl) (by kernel_rfl) (by kernel_rfl) PF.pf rfl (pv_fieldAddr0 rfl rfl) rfl ?_ | refine AnyH.take 4 rfl (by kernel_rfl) (by kernel_rfl) (by kernel_rfl) PF.pf rfl (pv_fieldAddr rfl rfl) rfl ?_
        refine AnyH.one 2 (by kernel_rfl) ?_
        refine Turn.ef rfl rfl (ef_call (tr_newReady) rfl rfl) ?_ ?_
        · rintro _ _ ⟨_, HN1, ⟨rb1, rfl, hN1⟩, rfl, rfl⟩; infer_instance
        rintro _ _ ⟨_, HN1, ⟨rb1, rfl, hN1⟩, rfl, rfl⟩
        refine AnyH.app ?_
        skip
        refine AnyH.take 5 rfl (by kernel_rfl) (by kernel_rfl) (by kernel_rfl) PF.pf rfl (pv_indexAddrA (i := d) rfl rfl rfl hd4) rfl ?_
        refine AnyH.one 6 (by kernel_rfl) ?_
        refine Turn.ef rfl rfl (ef_store1 rfl rfl (by first | rfl | assumption) (by first | rfl | assumption)) ?_ ?_
        · rintro _ _ ⟨rfl, rfl⟩; infer_instance
        rintro _ _ ⟨rfl, rfl⟩
        refine AnyH.done (by kernel_rfl) ?_
        refine Ends.block_normal ?_
        refine Ends.seq ?_
        refine Wp.region ?_
        first | refine Ops.pv (pv_add rfl rfl (w64 (by omega) (by omega))) rfl ?_ | refine Ops.pv (pv_add rfl rfl rfl) rfl ?_
        refine Ops.pv (pv_move rfl) rfl ?_
        refine Ops.nil ?_
        refine Ends.goes ?_
        rw [show h = fset h d [] by rw [← hz d (Nat.le_refl _), fset_self]]
        refine Goes.closeS h 4 d HN1 hd4 ?_
        refine Goes.back (hK (d + 1, fset p d (ptrV rb1), fset rb d rb1, fset h d HN1) ⟨by dsimp only; omega, fun j hj => ?_, fun j hj => ?_, fun j hj => ?_⟩ (by dsimp only; omega)) ⟨rfl, rfl, trivial⟩
        · dsimp only; by_cases e : j = d
          · subst e; rw [fset_same, fset_same]; exact hN1
          · rw [fset_ne e, fset_ne e]; exact hR j (by dsimp only at hj; omega)
        · dsimp only at hj ⊢; rw [fset_ne (by omega)]; exact hz j (by omega)
        · dsimp only at hj ⊢; by_cases e : j = d
          · subst e; rw [fset_same, fset_same]
          · rw [fset_ne e, fset_ne e]; exact hp j (by omega)
      · refine Wp.exit ?_
        refine Ends.then_exit ?_
        refine Ends.then_exit ?_
        refine Ends.block_hit ?_
        refine Ends.seq ?_
        refine Wp.seq ?_
        refine Wp.region ?_
        refine Ops.pv (pv_move rfl) rfl ?_
        refine Ops.pv (pv_assign rfl) rfl ?_
        refine Ops.pv (pv_assign rfl) rfl ?_
        refine Ops.nil ?_
        refine Ends.seq ?_
        refine Wp.ret ?_
        obtain rfl : d = 4 := by omega
        rw [sch_congr (q := fun d => ptrV (rb d)) hp]
        exact Ends.ret (L' := (b2, .cells (schC (.slice cp T.length cq) 0 (tkd T 0).2 (fun d => ptrV (rb d))).toArray 57) :: (C1 ++ (segs h 4 ++ G))) (res2 rfl rfl rfl) (.inl ⟨tms_iff.2 ⟨by omega, fun j hj => hn j (by omega)⟩, b2, _, rfl, ⟨_, _, rb, h, hc1, hR, rfl⟩, by rw [List.cons_append, List.append_assoc]; rfl⟩)

end Go.Proofs.Ytpjodkcghiklcab
