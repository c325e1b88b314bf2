/- Walks of layer 10: what its laws ask first; MovesRefused. No condition. -/
import Derived.Test.YtdodfnjmkpgdbaaM10b
import Derived.Test.YtdodfnjmkpgdbaaW10b
import Derived.Test.YtdodfnjmkpgdbaaW07x
set_option linter.unusedVariables false
set_option linter.unusedSimpArgs false
namespace Go.Proofs.Ytdodfnjmkpgdbaa
open Go.SL

theorem tr_mslot (k : Int) : TrR Try.prog 16 [.int .i64 k] ([]) (slotV (0, k)) := by
  refine Tr.enter Try.func16 rfl Try.ntmps16 rfl (fun W F => ?_)
  refine Wp.app ?_
  refine Wp.seq ?_
  refine Wp.region ?_
  refine Ops.ef rfl (ef_allocK tyZ38 rfl) ?_
  rintro _ _ ⟨b1, rfl, rfl⟩
  refine Ops.nil ?_
  refine Ends.seq ?_
  refine Wp.seq ?_
  refine Wp.region ?_
  refine Ops.pv (pv_move rfl) rfl ?_
  refine Ops.pv (pv_build rfl) rfl ?_
  refine Ops.ef rfl (ef_storeK rfl rfl rfl rfl) ?_
  rintro _ _ ⟨rfl, rfl⟩
  refine Ops.nil ?_
  refine Ends.seq ?_
  refine Wp.ret ?_
  exact Ends.ret (res_one rfl (rv_cellK [_, _] rfl rfl rfl ⟨rfl, rfl, trivial⟩)) ⟨rfl, rfl⟩

set_option maxHeartbeats 4000000 in
theorem tr_mworks  : TrR Try.prog 12 [] ([]) (.bool true) := by
  refine Tr.enter Try.func12 rfl Try.ntmps12 rfl (fun W F => ?_)
  refine Wp.app ?_
  refine Wp.seq ?_
  refine Wp.region ?_
  refine Ops.pv (pv_assign rfl) rfl ?_
  refine Ops.nil ?_
  refine Ends.seq ?_
  refine Wp.seq ?_
  refine Wp.region ?_
  refine Ops.ef rfl (ef_call (tr_mNew) rfl rfl) ?_
  rintro _ _ ⟨_, _, ⟨cb1, rfl, ⟨sb0, tb0, Ls0, Lt0, hS0, hT0, rfl⟩⟩, rfl, rfl⟩
  refine Ops.app ?_
  refine Ops.pv (pv_assign rfl) rfl ?_
  refine Ops.nil ?_
  refine Ends.seq ?_
  refine Wp.seq ?_
  refine Wp.seq ?_
  refine Wp.region ?_
  refine Ops.pv (pv_move rfl) rfl ?_
  refine Ops.pv (pv_eql_nil rfl rfl) rfl ?_
  refine Ops.pv (pv_move rfl) rfl ?_
  refine Ops.pvg ⟨_, _, rfl, rfl, rfl⟩ (pv_move rfl) rfl ?_
  first | refine Ops.pvg ⟨_, _, rfl, rfl, rfl⟩ (pv_nilCheck rfl) rfl ?_ | refine Ops.pvg ⟨_, _, rfl, rfl, rfl⟩ (pv_nilCheck_func rfl rfl) rfl ?_
  first | refine Ops.pvg ⟨_, _, rfl, rfl, rfl⟩ (pv_fieldAddr0 rfl rfl) rfl ?_ | refine Ops.pvg ⟨_, _, rfl, rfl, rfl⟩ (pv_fieldAddr rfl rfl) rfl ?_
  refine Ops.pvg ⟨_, _, rfl, rfl, rfl⟩ (pv_loadK [_] rfl rfl rfl ⟨rfl, trivial⟩) rfl ?_
  refine Ops.efg ⟨_, _, rfl, rfl, rfl⟩ (ef_call (tr_smNode _ sb0 Ls0 hS0 0 3) rfl rfl) ?_
  rintro _ _ ⟨_, Q1, ⟨rfl, hS2⟩, rfl, rfl⟩
  refine Ops.app ?_
  skip
  refine Ops.pvg ⟨_, _, rfl, rfl, rfl⟩ ((pv_neq rfl rfl).fls (fun h => h wkd1)) rfl ?_
  refine Ops.pv (pv_pick_false rfl rfl) rfl ?_
  refine Ops.nil ?_
  refine Ends.seq ?_
  refine Wp.cond_false rfl ?_
  refine Wp.skip ?_
  refine Ends.seq ?_
  refine Wp.seq ?_
  refine Wp.region ?_
  refine Ops.pv (pv_move rfl) rfl ?_
  refine Ops.ef rfl (ef_callr (tr_mslot _) rfl rfl) ?_
  rintro _ _ ⟨rfl, rfl⟩
  refine Ops.pv (pv_build rfl) rfl ?_
  refine Ops.ef rfl (ef_call (tr_mPlant _ cb1 _ wk1 ⟨_, _, _, _, hS2, hT0, rfl⟩ (0, 0) wc0) rfl rfl) ?_
  rintro _ _ ⟨_, _, ⟨rfl, ⟨sb2, tb2, Ls2, Lt2, hS2, hT2, rfl⟩⟩, rfl, rfl⟩
  refine Ops.app ?_
  refine Ops.pv (pv_assign rfl) rfl ?_
  refine Ops.nil ?_
  refine Ends.seq ?_
  refine Wp.seq ?_
  refine Wp.region ?_
  refine Ops.pv (pv_move rfl) rfl ?_
  refine Ops.ef rfl (ef_callr (tr_mslot _) rfl rfl) ?_
  rintro _ _ ⟨rfl, rfl⟩
  refine Ops.ef rfl (ef_callr (tr_mslot _) rfl rfl) ?_
  rintro _ _ ⟨rfl, rfl⟩
  refine Ops.ef rfl (ef_call (tr_mMint _ cb1 _ wk2 ⟨_, _, _, _, hS2, hT2, rfl⟩ (by decide) (0, 0) (0, 1) 1 7 0 0) rfl rfl) ?_
  rintro _ _ ⟨_, _, ⟨rfl, ⟨sb2, tb2, Ls2, Lt2, hS2, hT2, rfl⟩⟩, rfl, rfl⟩
  refine Ops.app ?_
  refine Ops.pv (pv_assign rfl) rfl ?_
  refine Ops.nil ?_
  refine Ends.seq ?_
  refine Wp.seq ?_
  refine Wp.region ?_
  refine Ops.pv (pv_move rfl) rfl ?_
  refine Ops.ef rfl (ef_callr (tr_mslot _) rfl rfl) ?_
  rintro _ _ ⟨rfl, rfl⟩
  refine Ops.ef rfl (ef_callr (tr_mslot _) rfl rfl) ?_
  rintro _ _ ⟨rfl, rfl⟩
  refine Ops.ef rfl (ef_call (tr_mCopy _ cb1 _ wk3 ⟨_, _, _, _, hS2, hT2, rfl⟩ (by decide) (0, 1) (0, 2) 7) rfl rfl) ?_
  rintro _ _ ⟨_, _, ⟨rfl, ⟨sb2, tb2, Ls2, Lt2, hS2, hT2, rfl⟩⟩, rfl, rfl⟩
  refine Ops.app ?_
  refine Ops.pv (pv_assign rfl) rfl ?_
  refine Ops.nil ?_
  refine Ends.seq ?_
  refine Wp.seq ?_
  refine Wp.region ?_
  refine Ops.pv (pv_move rfl) rfl ?_
  refine Ops.ef rfl (ef_callr (tr_mslot _) rfl rfl) ?_
  rintro _ _ ⟨rfl, rfl⟩
  refine Ops.ef rfl (ef_call (tr_mKin _ cb1 _ wk4 ⟨_, _, _, _, hS2, hT2, rfl⟩ (by decide) (0, 0)) rfl rfl) ?_
  rintro _ _ ⟨_, _, ⟨C1, hc1, rfl⟩, rfl, rfl⟩
  refine Ops.app ?_
  rw [wkk4] at hc1
  obtain ⟨pp1, qq1, rfl⟩ := hc1.form
  refine Ops.pv (pv_assign rfl) rfl ?_
  refine Ops.nil ?_
  refine Ends.seq ?_
  refine Wp.seq ?_
  refine Wp.region ?_
  refine Ops.pv (pv_move rfl) rfl ?_
  refine Ops.ef rfl (ef_callr (tr_mslot _) rfl rfl) ?_
  rintro _ _ ⟨rfl, rfl⟩
  refine Ops.ef rfl (ef_callr (tr_mslot _) rfl rfl) ?_
  rintro _ _ ⟨rfl, rfl⟩
  refine Ops.ef rfl (ef_call (tr_mMove _ cb1 _ wk4 ⟨_, _, _, _, hS2, hT2, rfl⟩ (0, 0) (0, 3)) rfl rfl) ?_
  rintro _ _ ⟨_, _, ⟨rfl, ⟨sb2, tb2, Ls2, Lt2, hS2, hT2, rfl⟩⟩, rfl, rfl⟩
  refine Ops.app ?_
  refine Ops.pv (pv_assign rfl) rfl ?_
  refine Ops.nil ?_
  refine Ends.seq ?_
  refine Wp.seq ?_
  refine AnyH.start (cBlk cb1 sb2 tb2 :: []) 13 rfl ?_
  refine AnyH.take 0 rfl (by kernel_rfl) (by kernel_rfl) (by kernel_rfl) PF.pf rfl (pv_move rfl) rfl ?_
  first | refine AnyH.take 1 rfl (by kernel_rfl) (by kernel_rfl) (by kernel_rfl) PF.pf rfl (pv_nilCheck rfl) rfl ?_ | refine AnyH.take 1 rfl (by kernel_rfl) (by kernel_rfl) (by kernel_rfl) PF.pf rfl (pv_nilCheck_func rfl rfl) rfl ?_
  first | refine AnyH.take 2 rfl (by kernel_rfl) (by kernel_rfl) (by kernel_rfl) PF.pf rfl (pv_fieldAddr0 rfl rfl) rfl ?_ | refine AnyH.take 2 rfl (by kernel_rfl) (by kernel_rfl) (by kernel_rfl) PF.pf rfl (pv_fieldAddr rfl rfl) rfl ?_
  first | refine AnyH.take 3 rfl (by kernel_rfl) (by kernel_rfl) (by kernel_rfl) PF.pf rfl (pv_fieldAddr0 rfl rfl) rfl ?_ | refine AnyH.take 3 rfl (by kernel_rfl) (by kernel_rfl) (by kernel_rfl) PF.pf rfl (pv_fieldAddr rfl rfl) rfl ?_
  first | refine AnyH.take 4 rfl (by kernel_rfl) (by kernel_rfl) (by kernel_rfl) PF.pf rfl (pv_load rfl rfl rfl) rfl ?_ | refine AnyH.take 4 rfl (by kernel_rfl) (by kernel_rfl) (by kernel_rfl) PF.pf rfl (pv_load rfl rfl (by assumption)) rfl ?_
  refine AnyH.two 5 10 (by kernel_rfl) ?_ ?_
  · refine Turn.ef rfl rfl (ef_callr (tr_mslot _) rfl rfl) ?_ ?_
    · rintro _ _ ⟨rfl, rfl⟩; infer_instance
    rintro _ _ ⟨rfl, rfl⟩
    refine AnyH.two 6 10 (by kernel_rfl) ?_ ?_
    · refine Turn.ef rfl rfl (ef_callr ((sf_get (l := wk5.l) hS2 (0, 2)).eq (by rw [wkg5])) rfl rfl) ?_ ?_
      · rintro _ _ ⟨rfl, rfl⟩; infer_instance
      rintro _ _ ⟨rfl, rfl⟩
      refine AnyH.take 7 rfl (by kernel_rfl) (by kernel_rfl) (by kernel_rfl) PF.pf rfl (pv_move rfl) rfl ?_
      refine AnyH.take 8 rfl (by kernel_rfl) (by kernel_rfl) (by kernel_rfl) PF.pf rfl (pv_extract rfl rfl) rfl ?_
      refine AnyH.take 9 rfl (by kernel_rfl) (by kernel_rfl) (by kernel_rfl) PF.pf rfl (pv_extract rfl rfl) rfl ?_
      refine AnyH.one 10 (by kernel_rfl) ?_
      refine Turn.ef rfl rfl (ef_allocK tyZ24 rfl) ?_ ?_
      · rintro _ _ ⟨b1, rfl, rfl⟩; infer_instance
      rintro _ _ ⟨b1, rfl, rfl⟩
      refine AnyH.one 11 (by kernel_rfl) ?_
      refine Turn.ef rfl rfl (ef_storeK rfl rfl rfl rfl) ?_ ?_
      · rintro _ _ ⟨rfl, rfl⟩; infer_instance
      rintro _ _ ⟨rfl, rfl⟩
      refine AnyH.take 12 rfl (by kernel_rfl) (by kernel_rfl) (by kernel_rfl) PF.pf rfl (pv_assign rfl) rfl ?_
      refine AnyH.done (by kernel_rfl) ?_
      refine Ends.seq ?_
      refine Wp.seq ?_
      refine Wp.region ?_
      refine Ops.pv (pv_move rfl) rfl ?_
      refine Ops.pv ((pv_eql rfl rfl).tru (by rw [wke2])) rfl ?_
      refine Ops.pv (pv_move rfl) rfl ?_
      refine Ops.pvg ⟨_, _, rfl, rfl, rfl⟩ (pv_move rfl) rfl ?_
      refine Ops.pvg ⟨_, _, rfl, rfl, rfl⟩ ((pv_eql rfl rfl).tru (by rw [wke3])) rfl ?_
      refine Ops.pv (pv_pick_true rfl rfl) rfl ?_
      refine Ops.pv (pv_move rfl) rfl ?_
      refine Ops.pvg ⟨_, _, rfl, rfl, rfl⟩ (pv_move rfl) rfl ?_
      refine Ops.pvg ⟨_, _, rfl, rfl, rfl⟩ ((pv_eql rfl rfl).tru (by rw [wke4])) rfl ?_
      refine Ops.pv (pv_pick_true rfl rfl) rfl ?_
      refine Ops.pv (pv_move rfl) rfl ?_
      refine Ops.pvg ⟨_, _, rfl, rfl, rfl⟩ (pv_move rfl) rfl ?_
      refine Ops.pvg ⟨_, _, rfl, rfl, rfl⟩ ((pv_eql rfl rfl).tru (by rw [wke5])) rfl ?_
      refine Ops.pv (pv_pick_true rfl rfl) rfl ?_
      refine Ops.pv (pv_move rfl) rfl ?_
      refine Ops.pvg ⟨_, _, rfl, rfl, rfl⟩ (pv_move rfl) rfl ?_
      refine Ops.efg ⟨_, _, rfl, rfl, rfl⟩ (ef_callr (tr_mslot _) rfl rfl) ?_
      rintro _ _ ⟨rfl, rfl⟩
      refine Ops.efg ⟨_, _, rfl, rfl, rfl⟩ (ef_callr (tr_mslot _) rfl rfl) ?_
      rintro _ _ ⟨rfl, rfl⟩
      refine Ops.efg ⟨_, _, rfl, rfl, rfl⟩ (ef_buildSliceN [.int .i64 0, .int .i64 0, .int .i64 0, .int .i64 0] [(0, 2), (2, 2)] rfl (by kernel_rfl) (by first | decide | rfl) rfl rfl rfl) ?_
      rintro _ _ ⟨b2, rfl, rfl⟩
      refine Ops.efg ⟨_, _, rfl, rfl, rfl⟩ (ef_callr ((tr_sameSlots (C1 ++ (b2, .cells [.int .i64 0, .int .i64 1, .int .i64 0, .int .i64 2].toArray 38) :: []) _ _ _ _ [(0, 1), (0, 2)] [(0, 1), (0, 2)] (hc1.view.mono (by intro p hp; simp [hp])) ((view_lit (n := 2) rfl).mono (by intro p hp; rw [List.mem_singleton] at hp; subst hp; exact List.mem_append_right _ (List.mem_singleton.2 rfl))) (by decide)).eq (r' := .bool true) (by rw [decide_eq_true rfl])) rfl rfl) ?_
      rintro _ _ ⟨rfl, rfl⟩
      refine Ops.pv (pv_pick_true rfl rfl) rfl ?_
      refine Ops.pv (pv_move rfl) rfl ?_
      refine Ops.pvg ⟨_, _, rfl, rfl, rfl⟩ (pv_move rfl) rfl ?_
      refine Ops.efg ⟨_, _, rfl, rfl, rfl⟩ (ef_callr (tr_mslot _) rfl rfl) ?_
      rintro _ _ ⟨rfl, rfl⟩
      refine Ops.efg ⟨_, _, rfl, rfl, rfl⟩ (ef_call (tr_mKin _ cb1 _ wk5 ⟨_, _, _, _, hS2, hT2, rfl⟩ (by decide) (0, 3)) rfl rfl) ?_
      rintro _ _ ⟨_, _, ⟨C2, hc2, rfl⟩, rfl, rfl⟩
      refine Ops.app ?_
      rw [wkk5] at hc2
      obtain ⟨pp2, qq2, rfl⟩ := hc2.form
      refine Ops.pvg ⟨_, _, rfl, rfl, rfl⟩ (pv_move rfl) rfl ?_
      refine Ops.efg ⟨_, _, rfl, rfl, rfl⟩ (ef_callr ((tr_sameSlots (C1 ++ C2) _ _ _ _ [(0, 1), (0, 2)] [(0, 1), (0, 2)] (hc2.view.mono (by intro p hp; simp [hp])) (hc1.view.mono (by intro p hp; simp [hp])) (by decide)).eq (r' := .bool true) (by rw [decide_eq_true rfl])) rfl rfl) ?_
      rintro _ _ ⟨rfl, rfl⟩
      refine Ops.pv (pv_pick_true rfl rfl) rfl ?_
      refine Ops.pv (pv_move rfl) rfl ?_
      refine Ops.pvg ⟨_, _, rfl, rfl, rfl⟩ (pv_move rfl) rfl ?_
      refine Ops.pvg ⟨_, _, rfl, rfl, rfl⟩ ((pv_eql rfl rfl).tru (by first | rfl | decide | omega | assumption | (simp; done) | (simp; omega))) rfl ?_
      refine Ops.pv (pv_pick_true rfl rfl) rfl ?_
      refine Ops.pv (pv_move rfl) rfl ?_
      first | refine Ops.pvg ⟨_, _, rfl, rfl, rfl⟩ (pv_fieldAddr0 rfl rfl) rfl ?_ | refine Ops.pvg ⟨_, _, rfl, rfl, rfl⟩ (pv_fieldAddr rfl rfl) rfl ?_
      first | refine Ops.pvg ⟨_, _, rfl, rfl, rfl⟩ (pv_load rfl rfl rfl) rfl ?_ | refine Ops.pvg ⟨_, _, rfl, rfl, rfl⟩ (pv_load rfl rfl (by assumption)) rfl ?_
      refine Ops.pvg ⟨_, _, rfl, rfl, rfl⟩ ((pv_eql rfl rfl).tru (by first | rfl | decide | omega | assumption | (simp; done) | (simp; omega))) rfl ?_
      refine Ops.pv (pv_pick_true rfl rfl) rfl ?_
      refine Ops.pv (pv_move rfl) rfl ?_
      first | refine Ops.pvg ⟨_, _, rfl, rfl, rfl⟩ (pv_fieldAddr0 rfl rfl) rfl ?_ | refine Ops.pvg ⟨_, _, rfl, rfl, rfl⟩ (pv_fieldAddr rfl rfl) rfl ?_
      first | refine Ops.pvg ⟨_, _, rfl, rfl, rfl⟩ (pv_load rfl rfl rfl) rfl ?_ | refine Ops.pvg ⟨_, _, rfl, rfl, rfl⟩ (pv_load rfl rfl (by assumption)) rfl ?_
      refine Ops.pvg ⟨_, _, rfl, rfl, rfl⟩ ((pv_eql rfl rfl).tru (by first | rfl | decide | omega | assumption | (simp; done) | (simp; omega))) rfl ?_
      refine Ops.pv (pv_pick_true rfl rfl) rfl ?_
      refine Ops.pv (pv_move rfl) rfl ?_
      refine Ops.pvg ⟨_, _, rfl, rfl, rfl⟩ (pv_move rfl) rfl ?_
      refine Ops.efg ⟨_, _, rfl, rfl, rfl⟩ (ef_callr (tr_mslot _) rfl rfl) ?_
      rintro _ _ ⟨rfl, rfl⟩
      refine Ops.efg ⟨_, _, rfl, rfl, rfl⟩ (ef_callr (tr_mslot _) rfl rfl) ?_
      rintro _ _ ⟨rfl, rfl⟩
      refine Ops.efg ⟨_, _, rfl, rfl, rfl⟩ (ef_call ((tr_mCopy _ cb1 _ wk5 ⟨_, _, _, _, hS2, hT2, rfl⟩ (by decide) (0, 0) (0, 4) 7).mono (R' := fun u L' => u = .int .i64 3 ∧ CapsH _ wk5 cb1 L') (by intro u L' h; rw [wke6] at h; exact h)) rfl rfl) ?_
      rintro _ _ ⟨_, _, ⟨rfl, ⟨sb2, tb2, Ls2, Lt2, hS2, hT2, rfl⟩⟩, rfl, rfl⟩
      refine Ops.app ?_
      refine Ops.pvg ⟨_, _, rfl, rfl, rfl⟩ ((pv_eql rfl rfl).tru (by first | rfl | decide | omega | assumption | (simp; done) | (simp; omega))) rfl ?_
      refine Ops.pv (pv_pick_true rfl rfl) rfl ?_
      refine Ops.pv (pv_move rfl) rfl ?_
      refine Ops.pvg ⟨_, _, rfl, rfl, rfl⟩ (pv_move rfl) rfl ?_
      refine Ops.efg ⟨_, _, rfl, rfl, rfl⟩ (ef_callr (tr_mslot _) rfl rfl) ?_
      rintro _ _ ⟨rfl, rfl⟩
      refine Ops.efg ⟨_, _, rfl, rfl, rfl⟩ (ef_callr (tr_mslot _) rfl rfl) ?_
      rintro _ _ ⟨rfl, rfl⟩
      refine Ops.efg ⟨_, _, rfl, rfl, rfl⟩ (ef_call ((tr_mCopy _ cb1 _ wk5 ⟨_, _, _, _, hS2, hT2, rfl⟩ (by decide) (0, 1) (0, 2) 7).mono (R' := fun u L' => u = .int .i64 4 ∧ CapsH _ wk5 cb1 L') (by intro u L' h; rw [wke7] at h; exact h)) rfl rfl) ?_
      rintro _ _ ⟨_, _, ⟨rfl, ⟨sb2, tb2, Ls2, Lt2, hS2, hT2, rfl⟩⟩, rfl, rfl⟩
      refine Ops.app ?_
      refine Ops.pvg ⟨_, _, rfl, rfl, rfl⟩ ((pv_eql rfl rfl).tru (by first | rfl | decide | omega | assumption | (simp; done) | (simp; omega))) rfl ?_
      refine Ops.pv (pv_pick_true rfl rfl) rfl ?_
      refine Ops.pv (pv_move rfl) rfl ?_
      refine Ops.pvg ⟨_, _, rfl, rfl, rfl⟩ (pv_move rfl) rfl ?_
      refine Ops.efg ⟨_, _, rfl, rfl, rfl⟩ (ef_callr (tr_mslot _) rfl rfl) ?_
      rintro _ _ ⟨rfl, rfl⟩
      refine Ops.efg ⟨_, _, rfl, rfl, rfl⟩ (ef_callr (tr_mslot _) rfl rfl) ?_
      rintro _ _ ⟨rfl, rfl⟩
      refine Ops.efg ⟨_, _, rfl, rfl, rfl⟩ (ef_callr (tr_mslot _) rfl rfl) ?_
      rintro _ _ ⟨rfl, rfl⟩
      refine Ops.efg ⟨_, _, rfl, rfl, rfl⟩ (ef_call ((tr_mRotate _ cb1 _ wk5 ⟨_, _, _, _, hS2, hT2, rfl⟩ (0, 1) (0, 1) (0, 2)).mono (R' := fun u L' => u = .int .i64 10 ∧ CapsH _ wk5 cb1 L') (by intro u L' h; rw [wke8] at h; exact h)) rfl rfl) ?_
      rintro _ _ ⟨_, _, ⟨rfl, ⟨sb2, tb2, Ls2, Lt2, hS2, hT2, rfl⟩⟩, rfl, rfl⟩
      refine Ops.app ?_
      refine Ops.pvg ⟨_, _, rfl, rfl, rfl⟩ ((pv_eql rfl rfl).tru (by first | rfl | decide | omega | assumption | (simp; done) | (simp; omega))) rfl ?_
      refine Ops.pv (pv_pick_true rfl rfl) rfl ?_
      refine Ops.pv (pv_assign rfl) rfl ?_
      refine Ops.nil ?_
      refine Ends.seq ?_
      refine Wp.ret ?_
      exact Ends.ret (res1 rfl rfl) ⟨rfl, rfl⟩
    · refine Turn.ef rfl rfl (ef_allocK tyZ24 rfl) ?_ ?_
      · rintro _ _ ⟨b3, rfl, rfl⟩; infer_instance
      rintro _ _ ⟨b3, rfl, rfl⟩
      refine AnyH.one 6 (by kernel_rfl) ?_
      refine Turn.ef rfl rfl (ef_callr ((sf_get (l := wk5.l) hS2 (0, 2)).eq (by rw [wkg5])) rfl rfl) ?_ ?_
      · rintro _ _ ⟨rfl, rfl⟩; infer_instance
      rintro _ _ ⟨rfl, rfl⟩
      refine AnyH.take 7 rfl (by kernel_rfl) (by kernel_rfl) (by kernel_rfl) PF.pf rfl (pv_move rfl) rfl ?_
      refine AnyH.take 8 rfl (by kernel_rfl) (by kernel_rfl) (by kernel_rfl) PF.pf rfl (pv_extract rfl rfl) rfl ?_
      refine AnyH.take 9 rfl (by kernel_rfl) (by kernel_rfl) (by kernel_rfl) PF.pf rfl (pv_extract rfl rfl) rfl ?_
      refine AnyH.one 11 (by kernel_rfl) ?_
      refine Turn.ef rfl rfl (ef_storeK rfl rfl rfl rfl) ?_ ?_
      · rintro _ _ ⟨rfl, rfl⟩; infer_instance
      rintro _ _ ⟨rfl, rfl⟩
      refine AnyH.take 12 rfl (by kernel_rfl) (by kernel_rfl) (by kernel_rfl) PF.pf rfl (pv_assign rfl) rfl ?_
      refine AnyH.done (by kernel_rfl) ?_
      refine Ends.seq ?_
      refine Wp.seq ?_
      refine Wp.region ?_
      refine Ops.pv (pv_move rfl) rfl ?_
      refine Ops.pv ((pv_eql rfl rfl).tru (by rw [wke2])) rfl ?_
      refine Ops.pv (pv_move rfl) rfl ?_
      refine Ops.pvg ⟨_, _, rfl, rfl, rfl⟩ (pv_move rfl) rfl ?_
      refine Ops.pvg ⟨_, _, rfl, rfl, rfl⟩ ((pv_eql rfl rfl).tru (by rw [wke3])) rfl ?_
      refine Ops.pv (pv_pick_true rfl rfl) rfl ?_
      refine Ops.pv (pv_move rfl) rfl ?_
      refine Ops.pvg ⟨_, _, rfl, rfl, rfl⟩ (pv_move rfl) rfl ?_
      refine Ops.pvg ⟨_, _, rfl, rfl, rfl⟩ ((pv_eql rfl rfl).tru (by rw [wke4])) rfl ?_
      refine Ops.pv (pv_pick_true rfl rfl) rfl ?_
      refine Ops.pv (pv_move rfl) rfl ?_
      refine Ops.pvg ⟨_, _, rfl, rfl, rfl⟩ (pv_move rfl) rfl ?_
      refine Ops.pvg ⟨_, _, rfl, rfl, rfl⟩ ((pv_eql rfl rfl).tru (by rw [wke5])) rfl ?_
      refine Ops.pv (pv_pick_true rfl rfl) rfl ?_
      refine Ops.pv (pv_move rfl) rfl ?_
      refine Ops.pvg ⟨_, _, rfl, rfl, rfl⟩ (pv_move rfl) rfl ?_
      refine Ops.efg ⟨_, _, rfl, rfl, rfl⟩ (ef_callr (tr_mslot _) rfl rfl) ?_
      rintro _ _ ⟨rfl, rfl⟩
      refine Ops.efg ⟨_, _, rfl, rfl, rfl⟩ (ef_callr (tr_mslot _) rfl rfl) ?_
      rintro _ _ ⟨rfl, rfl⟩
      refine Ops.efg ⟨_, _, rfl, rfl, rfl⟩ (ef_buildSliceN [.int .i64 0, .int .i64 0, .int .i64 0, .int .i64 0] [(0, 2), (2, 2)] rfl (by kernel_rfl) (by first | decide | rfl) rfl rfl rfl) ?_
      rintro _ _ ⟨b4, rfl, rfl⟩
      refine Ops.efg ⟨_, _, rfl, rfl, rfl⟩ (ef_callr ((tr_sameSlots (C1 ++ (b4, .cells [.int .i64 0, .int .i64 1, .int .i64 0, .int .i64 2].toArray 38) :: []) _ _ _ _ [(0, 1), (0, 2)] [(0, 1), (0, 2)] (hc1.view.mono (by intro p hp; simp [hp])) ((view_lit (n := 2) rfl).mono (by intro p hp; rw [List.mem_singleton] at hp; subst hp; exact List.mem_append_right _ (List.mem_singleton.2 rfl))) (by decide)).eq (r' := .bool true) (by rw [decide_eq_true rfl])) rfl rfl) ?_
      rintro _ _ ⟨rfl, rfl⟩
      refine Ops.pv (pv_pick_true rfl rfl) rfl ?_
      refine Ops.pv (pv_move rfl) rfl ?_
      refine Ops.pvg ⟨_, _, rfl, rfl, rfl⟩ (pv_move rfl) rfl ?_
      refine Ops.efg ⟨_, _, rfl, rfl, rfl⟩ (ef_callr (tr_mslot _) rfl rfl) ?_
      rintro _ _ ⟨rfl, rfl⟩
      refine Ops.efg ⟨_, _, rfl, rfl, rfl⟩ (ef_call (tr_mKin _ cb1 _ wk5 ⟨_, _, _, _, hS2, hT2, rfl⟩ (by decide) (0, 3)) rfl rfl) ?_
      rintro _ _ ⟨_, _, ⟨C3, hc3, rfl⟩, rfl, rfl⟩
      refine Ops.app ?_
      rw [wkk5] at hc3
      obtain ⟨pp3, qq3, rfl⟩ := hc3.form
      refine Ops.pvg ⟨_, _, rfl, rfl, rfl⟩ (pv_move rfl) rfl ?_
      refine Ops.efg ⟨_, _, rfl, rfl, rfl⟩ (ef_callr ((tr_sameSlots (C1 ++ C3) _ _ _ _ [(0, 1), (0, 2)] [(0, 1), (0, 2)] (hc3.view.mono (by intro p hp; simp [hp])) (hc1.view.mono (by intro p hp; simp [hp])) (by decide)).eq (r' := .bool true) (by rw [decide_eq_true rfl])) rfl rfl) ?_
      rintro _ _ ⟨rfl, rfl⟩
      refine Ops.pv (pv_pick_true rfl rfl) rfl ?_
      refine Ops.pv (pv_move rfl) rfl ?_
      refine Ops.pvg ⟨_, _, rfl, rfl, rfl⟩ (pv_move rfl) rfl ?_
      refine Ops.pvg ⟨_, _, rfl, rfl, rfl⟩ ((pv_eql rfl rfl).tru (by first | rfl | decide | omega | assumption | (simp; done) | (simp; omega))) rfl ?_
      refine Ops.pv (pv_pick_true rfl rfl) rfl ?_
      refine Ops.pv (pv_move rfl) rfl ?_
      first | refine Ops.pvg ⟨_, _, rfl, rfl, rfl⟩ (pv_fieldAddr0 rfl rfl) rfl ?_ | refine Ops.pvg ⟨_, _, rfl, rfl, rfl⟩ (pv_fieldAddr rfl rfl) rfl ?_
      first | refine Ops.pvg ⟨_, _, rfl, rfl, rfl⟩ (pv_load rfl rfl rfl) rfl ?_ | refine Ops.pvg ⟨_, _, rfl, rfl, rfl⟩ (pv_load rfl rfl (by assumption)) rfl ?_
      refine Ops.pvg ⟨_, _, rfl, rfl, rfl⟩ ((pv_eql rfl rfl).tru (by first | rfl | decide | omega | assumption | (simp; done) | (simp; omega))) rfl ?_
      refine Ops.pv (pv_pick_true rfl rfl) rfl ?_
      refine Ops.pv (pv_move rfl) rfl ?_
      first | refine Ops.pvg ⟨_, _, rfl, rfl, rfl⟩ (pv_fieldAddr0 rfl rfl) rfl ?_ | refine Ops.pvg ⟨_, _, rfl, rfl, rfl⟩ (pv_fieldAddr rfl rfl) rfl ?_
      first | refine Ops.pvg ⟨_, _, rfl, rfl, rfl⟩ (pv_load rfl rfl rfl) rfl ?_ | refine Ops.pvg ⟨_, _, rfl, rfl, rfl⟩ (pv_load rfl rfl (by assumption)) rfl ?_
      refine Ops.pvg ⟨_, _, rfl, rfl, rfl⟩ ((pv_eql rfl rfl).tru (by first | rfl | decide | omega | assumption | (simp; done) | (simp; omega))) rfl ?_
      refine Ops.pv (pv_pick_true rfl rfl) rfl ?_
      refine Ops.pv (pv_move rfl) rfl ?_
      refine Ops.pvg ⟨_, _, rfl, rfl, rfl⟩ (pv_move rfl) rfl ?_
      refine Ops.efg ⟨_, _, rfl, rfl, rfl⟩ (ef_callr (tr_mslot _) rfl rfl) ?_
      rintro _ _ ⟨rfl, rfl⟩
      refine Ops.efg ⟨_, _, rfl, rfl, rfl⟩ (ef_callr (tr_mslot _) rfl rfl) ?_
      rintro _ _ ⟨rfl, rfl⟩
      refine Ops.efg ⟨_, _, rfl, rfl, rfl⟩ (ef_call ((tr_mCopy _ cb1 _ wk5 ⟨_, _, _, _, hS2, hT2, rfl⟩ (by decide) (0, 0) (0, 4) 7).mono (R' := fun u L' => u = .int .i64 3 ∧ CapsH _ wk5 cb1 L') (by intro u L' h; rw [wke6] at h; exact h)) rfl rfl) ?_
      rintro _ _ ⟨_, _, ⟨rfl, ⟨sb2, tb2, Ls2, Lt2, hS2, hT2, rfl⟩⟩, rfl, rfl⟩
      refine Ops.app ?_
      refine Ops.pvg ⟨_, _, rfl, rfl, rfl⟩ ((pv_eql rfl rfl).tru (by first | rfl | decide | omega | assumption | (simp; done) | (simp; omega))) rfl ?_
      refine Ops.pv (pv_pick_true rfl rfl) rfl ?_
      refine Ops.pv (pv_move rfl) rfl ?_
      refine Ops.pvg ⟨_, _, rfl, rfl, rfl⟩ (pv_move rfl) rfl ?_
      refine Ops.efg ⟨_, _, rfl, rfl, rfl⟩ (ef_callr (tr_mslot _) rfl rfl) ?_
      rintro _ _ ⟨rfl, rfl⟩
      refine Ops.efg ⟨_, _, rfl, rfl, rfl⟩ (ef_callr (tr_mslot _) rfl rfl) ?_
      rintro _ _ ⟨rfl, rfl⟩
      refine Ops.efg ⟨_, _, rfl, rfl, rfl⟩ (ef_call ((tr_mCopy _ cb1 _ wk5 ⟨_, _, _, _, hS2, hT2, rfl⟩ (by decide) (0, 1) (0, 2) 7).mono (R' := fun u L' => u = .int .i64 4 ∧ CapsH _ wk5 cb1 L') (by intro u L' h; rw [wke7] at h; exact h)) rfl rfl) ?_
      rintro _ _ ⟨_, _, ⟨rfl, ⟨sb2, tb2, Ls2, Lt2, hS2, hT2, rfl⟩⟩, rfl, rfl⟩
      refine Ops.app ?_
      refine Ops.pvg ⟨_, _, rfl, rfl, rfl⟩ ((pv_eql rfl rfl).tru (by first | rfl | decide | omega | assumption | (simp; done) | (simp; omega))) rfl ?_
      refine Ops.pv (pv_pick_true rfl rfl) rfl ?_
      refine Ops.pv (pv_move rfl) rfl ?_
      refine Ops.pvg ⟨_, _, rfl, rfl, rfl⟩ (pv_move rfl) rfl ?_
      refine Ops.efg ⟨_, _, rfl, rfl, rfl⟩ (ef_callr (tr_mslot _) rfl rfl) ?_
      rintro _ _ ⟨rfl, rfl⟩
      refine Ops.efg ⟨_, _, rfl, rfl, rfl⟩ (ef_callr (tr_mslot _) rfl rfl) ?_
      rintro _ _ ⟨rfl, rfl⟩
      refine Ops.efg ⟨_, _, rfl, rfl, rfl⟩ (ef_callr (tr_mslot _) rfl rfl) ?_
      rintro _ _ ⟨rfl, rfl⟩
      refine Ops.efg ⟨_, _, rfl, rfl, rfl⟩ (ef_call ((tr_mRotate _ cb1 _ wk5 ⟨_, _, _, _, hS2, hT2, rfl⟩ (0, 1) (0, 1) (0, 2)).mono (R' := fun u L' => u = .int .i64 10 ∧ CapsH _ wk5 cb1 L') (by intro u L' h; rw [wke8] at h; exact h)) rfl rfl) ?_
      rintro _ _ ⟨_, _, ⟨rfl, ⟨sb2, tb2, Ls2, Lt2, hS2, hT2, rfl⟩⟩, rfl, rfl⟩
      refine Ops.app ?_
      refine Ops.pvg ⟨_, _, rfl, rfl, rfl⟩ ((pv_eql rfl rfl).tru (by first | rfl | decide | omega | assumption | (simp; done) | (simp; omega))) rfl ?_
      refine Ops.pv (pv_pick_true rfl rfl) rfl ?_
      refine Ops.pv (pv_assign rfl) rfl ?_
      refine Ops.nil ?_
      refine Ends.seq ?_
      refine Wp.ret ?_
      exact Ends.ret (res1 rfl rfl) ⟨rfl, rfl⟩
  · refine Turn.ef rfl rfl (ef_allocK tyZ24 rfl) ?_ ?_
    · rintro _ _ ⟨b5, rfl, rfl⟩; infer_instance
    rintro _ _ ⟨b5, rfl, rfl⟩
    refine AnyH.one 5 (by kernel_rfl) ?_
    refine Turn.ef rfl rfl (ef_callr (tr_mslot _) rfl rfl) ?_ ?_
    · rintro _ _ ⟨rfl, rfl⟩; infer_instance
    rintro _ _ ⟨rfl, rfl⟩
    refine AnyH.one 6 (by kernel_rfl) ?_
    refine Turn.ef rfl rfl (ef_callr ((sf_get (l := wk5.l) hS2 (0, 2)).eq (by rw [wkg5])) rfl rfl) ?_ ?_
    · rintro _ _ ⟨rfl, rfl⟩; infer_instance
    rintro _ _ ⟨rfl, rfl⟩
    refine AnyH.take 7 rfl (by kernel_rfl) (by kernel_rfl) (by kernel_rfl) PF.pf rfl (pv_move rfl) rfl ?_
    refine AnyH.take 8 rfl (by kernel_rfl) (by kernel_rfl) (by kernel_rfl) PF.pf rfl (pv_extract rfl rfl) rfl ?_
    refine AnyH.take 9 rfl (by kernel_rfl) (by kernel_rfl) (by kernel_rfl) PF.pf rfl (pv_extract rfl rfl) rfl ?_
    refine AnyH.one 11 (by kernel_rfl) ?_
    refine Turn.ef rfl rfl (ef_storeK rfl rfl rfl rfl) ?_ ?_
    · rintro _ _ ⟨rfl, rfl⟩; infer_instance
    rintro _ _ ⟨rfl, rfl⟩
    refine AnyH.take 12 rfl (by kernel_rfl) (by kernel_rfl) (by kernel_rfl) PF.pf rfl (pv_assign rfl) rfl ?_
    refine AnyH.done (by kernel_rfl) ?_
    refine Ends.seq ?_
    refine Wp.seq ?_
    refine Wp.region ?_
    refine Ops.pv (pv_move rfl) rfl ?_
    refine Ops.pv ((pv_eql rfl rfl).tru (by rw [wke2])) rfl ?_
    refine Ops.pv (pv_move rfl) rfl ?_
    refine Ops.pvg ⟨_, _, rfl, rfl, rfl⟩ (pv_move rfl) rfl ?_
    refine Ops.pvg ⟨_, _, rfl, rfl, rfl⟩ ((pv_eql rfl rfl).tru (by rw [wke3])) rfl ?_
    refine Ops.pv (pv_pick_true rfl rfl) rfl ?_
    refine Ops.pv (pv_move rfl) rfl ?_
    refine Ops.pvg ⟨_, _, rfl, rfl, rfl⟩ (pv_move rfl) rfl ?_
    refine Ops.pvg ⟨_, _, rfl, rfl, rfl⟩ ((pv_eql rfl rfl).tru (by rw [wke4])) rfl ?_
    refine Ops.pv (pv_pick_true rfl rfl) rfl ?_
    refine Ops.pv (pv_move rfl) rfl ?_
    refine Ops.pvg ⟨_, _, rfl, rfl, rfl⟩ (pv_move rfl) rfl ?_
    refine Ops.pvg ⟨_, _, rfl, rfl, rfl⟩ ((pv_eql rfl rfl).tru (by rw [wke5])) rfl ?_
    refine Ops.pv (pv_pick_true rfl rfl) rfl ?_
    refine Ops.pv (pv_move rfl) rfl ?_
    refine Ops.pvg ⟨_, _, rfl, rfl, rfl⟩ (pv_move rfl) rfl ?_
    refine Ops.efg ⟨_, _, rfl, rfl, rfl⟩ (ef_callr (tr_mslot _) rfl rfl) ?_
    rintro _ _ ⟨rfl, rfl⟩
    refine Ops.efg ⟨_, _, rfl, rfl, rfl⟩ (ef_callr (tr_mslot _) rfl rfl) ?_
    rintro _ _ ⟨rfl, rfl⟩
    refine Ops.efg ⟨_, _, rfl, rfl, rfl⟩ (ef_buildSliceN [.int .i64 0, .int .i64 0, .int .i64 0, .int .i64 0] [(0, 2), (2, 2)] rfl (by kernel_rfl) (by first | decide | rfl) rfl rfl rfl) ?_
    rintro _ _ ⟨b6, rfl, rfl⟩
    refine Ops.efg ⟨_, _, rfl, rfl, rfl⟩ (ef_callr ((tr_sameSlots (C1 ++ (b6, .cells [.int .i64 0, .int .i64 1, .int .i64 0, .int .i64 2].toArray 38) :: []) _ _ _ _ [(0, 1), (0, 2)] [(0, 1), (0, 2)] (hc1.view.mono (by intro p hp; simp [hp])) ((view_lit (n := 2) rfl).mono (by intro p hp; rw [List.mem_singleton] at hp; subst hp; exact List.mem_append_right _ (List.mem_singleton.2 rfl))) (by decide)).eq (r' := .bool true) (by rw [decide_eq_true rfl])) rfl rfl) ?_
    rintro _ _ ⟨rfl, rfl⟩
    refine Ops.pv (pv_pick_true rfl rfl) rfl ?_
    refine Ops.pv (pv_move rfl) rfl ?_
    refine Ops.pvg ⟨_, _, rfl, rfl, rfl⟩ (pv_move rfl) rfl ?_
    refine Ops.efg ⟨_, _, rfl, rfl, rfl⟩ (ef_callr (tr_mslot _) rfl rfl) ?_
    rintro _ _ ⟨rfl, rfl⟩
    refine Ops.efg ⟨_, _, rfl, rfl, rfl⟩ (ef_call (tr_mKin _ cb1 _ wk5 ⟨_, _, _, _, hS2, hT2, rfl⟩ (by decide) (0, 3)) rfl rfl) ?_
    rintro _ _ ⟨_, _, ⟨C4, hc4, rfl⟩, rfl, rfl⟩
    refine Ops.app ?_
    rw [wkk5] at hc4
    obtain ⟨pp4, qq4, rfl⟩ := hc4.form
    refine Ops.pvg ⟨_, _, rfl, rfl, rfl⟩ (pv_move rfl) rfl ?_
    refine Ops.efg ⟨_, _, rfl, rfl, rfl⟩ (ef_callr ((tr_sameSlots (C1 ++ C4) _ _ _ _ [(0, 1), (0, 2)] [(0, 1), (0, 2)] (hc4.view.mono (by intro p hp; simp [hp])) (hc1.view.mono (by intro p hp; simp [hp])) (by decide)).eq (r' := .bool true) (by rw [decide_eq_true rfl])) rfl rfl) ?_
    rintro _ _ ⟨rfl, rfl⟩
    refine Ops.pv (pv_pick_true rfl rfl) rfl ?_
    refine Ops.pv (pv_move rfl) rfl ?_
    refine Ops.pvg ⟨_, _, rfl, rfl, rfl⟩ (pv_move rfl) rfl ?_
    refine Ops.pvg ⟨_, _, rfl, rfl, rfl⟩ ((pv_eql rfl rfl).tru (by first | rfl | decide | omega | assumption | (simp; done) | (simp; omega))) rfl ?_
    refine Ops.pv (pv_pick_true rfl rfl) rfl ?_
    refine Ops.pv (pv_move rfl) rfl ?_
    first | refine Ops.pvg ⟨_, _, rfl, rfl, rfl⟩ (pv_fieldAddr0 rfl rfl) rfl ?_ | refine Ops.pvg ⟨_, _, rfl, rfl, rfl⟩ (pv_fieldAddr rfl rfl) rfl ?_
    first | refine Ops.pvg ⟨_, _, rfl, rfl, rfl⟩ (pv_load rfl rfl rfl) rfl ?_ | refine Ops.pvg ⟨_, _, rfl, rfl, rfl⟩ (pv_load rfl rfl (by assumption)) rfl ?_
    refine Ops.pvg ⟨_, _, rfl, rfl, rfl⟩ ((pv_eql rfl rfl).tru (by first | rfl | decide | omega | assumption | (simp; done) | (simp; omega))) rfl ?_
    refine Ops.pv (pv_pick_true rfl rfl) rfl ?_
    refine Ops.pv (pv_move rfl) rfl ?_
    first | refine Ops.pvg ⟨_, _, rfl, rfl, rfl⟩ (pv_fieldAddr0 rfl rfl) rfl ?_ | refine Ops.pvg ⟨_, _, rfl, rfl, rfl⟩ (pv_fieldAddr rfl rfl) rfl ?_
    first | refine Ops.pvg ⟨_, _, rfl, rfl, rfl⟩ (pv_load rfl rfl rfl) rfl ?_ | refine Ops.pvg ⟨_, _, rfl, rfl, rfl⟩ (pv_load rfl rfl (by assumption)) rfl ?_
    refine Ops.pvg ⟨_, _, rfl, rfl, rfl⟩ ((pv_eql rfl rfl).tru (by first | rfl | decide | omega | assumption | (simp; done) | (simp; omega))) rfl ?_
    refine Ops.pv (pv_pick_true rfl rfl) rfl ?_
    refine Ops.pv (pv_move rfl) rfl ?_
    refine Ops.pvg ⟨_, _, rfl, rfl, rfl⟩ (pv_move rfl) rfl ?_
    refine Ops.efg ⟨_, _, rfl, rfl, rfl⟩ (ef_callr (tr_mslot _) rfl rfl) ?_
    rintro _ _ ⟨rfl, rfl⟩
    refine Ops.efg ⟨_, _, rfl, rfl, rfl⟩ (ef_callr (tr_mslot _) rfl rfl) ?_
    rintro _ _ ⟨rfl, rfl⟩
    refine Ops.efg ⟨_, _, rfl, rfl, rfl⟩ (ef_call ((tr_mCopy _ cb1 _ wk5 ⟨_, _, _, _, hS2, hT2, rfl⟩ (by decide) (0, 0) (0, 4) 7).mono (R' := fun u L' => u = .int .i64 3 ∧ CapsH _ wk5 cb1 L') (by intro u L' h; rw [wke6] at h; exact h)) rfl rfl) ?_
    rintro _ _ ⟨_, _, ⟨rfl, ⟨sb2, tb2, Ls2, Lt2, hS2, hT2, rfl⟩⟩, rfl, rfl⟩
    refine Ops.app ?_
    refine Ops.pvg ⟨_, _, rfl, rfl, rfl⟩ ((pv_eql rfl rfl).tru (by first | rfl | decide | omega | assumption | (simp; done) | (simp; omega))) rfl ?_
    refine Ops.pv (pv_pick_true rfl rfl) rfl ?_
    refine Ops.pv (pv_move rfl) rfl ?_
    refine Ops.pvg ⟨_, _, rfl, rfl, rfl⟩ (pv_move rfl) rfl ?_
    refine Ops.efg ⟨_, _, rfl, rfl, rfl⟩ (ef_callr (tr_mslot _) rfl rfl) ?_
    rintro _ _ ⟨rfl, rfl⟩
    refine Ops.efg ⟨_, _, rfl, rfl, rfl⟩ (ef_callr (tr_mslot _) rfl rfl) ?_
    rintro _ _ ⟨rfl, rfl⟩
    refine Ops.efg ⟨_, _, rfl, rfl, rfl⟩ (ef_call ((tr_mCopy _ cb1 _ wk5 ⟨_, _, _, _, hS2, hT2, rfl⟩ (by decide) (0, 1) (0, 2) 7).mono (R' := fun u L' => u = .int .i64 4 ∧ CapsH _ wk5 cb1 L') (by intro u L' h; rw [wke7] at h; exact h)) rfl rfl) ?_
    rintro _ _ ⟨_, _, ⟨rfl, ⟨sb2, tb2, Ls2, Lt2, hS2, hT2, rfl⟩⟩, rfl, rfl⟩
    refine Ops.app ?_
    refine Ops.pvg ⟨_, _, rfl, rfl, rfl⟩ ((pv_eql rfl rfl).tru (by first | rfl | decide | omega | assumption | (simp; done) | (simp; omega))) rfl ?_
    refine Ops.pv (pv_pick_true rfl rfl) rfl ?_
    refine Ops.pv (pv_move rfl) rfl ?_
    refine Ops.pvg ⟨_, _, rfl, rfl, rfl⟩ (pv_move rfl) rfl ?_
    refine Ops.efg ⟨_, _, rfl, rfl, rfl⟩ (ef_callr (tr_mslot _) rfl rfl) ?_
    rintro _ _ ⟨rfl, rfl⟩
    refine Ops.efg ⟨_, _, rfl, rfl, rfl⟩ (ef_callr (tr_mslot _) rfl rfl) ?_
    rintro _ _ ⟨rfl, rfl⟩
    refine Ops.efg ⟨_, _, rfl, rfl, rfl⟩ (ef_callr (tr_mslot _) rfl rfl) ?_
    rintro _ _ ⟨rfl, rfl⟩
    refine Ops.efg ⟨_, _, rfl, rfl, rfl⟩ (ef_call ((tr_mRotate _ cb1 _ wk5 ⟨_, _, _, _, hS2, hT2, rfl⟩ (0, 1) (0, 1) (0, 2)).mono (R' := fun u L' => u = .int .i64 10 ∧ CapsH _ wk5 cb1 L') (by intro u L' h; rw [wke8] at h; exact h)) rfl rfl) ?_
    rintro _ _ ⟨_, _, ⟨rfl, ⟨sb2, tb2, Ls2, Lt2, hS2, hT2, rfl⟩⟩, rfl, rfl⟩
    refine Ops.app ?_
    refine Ops.pvg ⟨_, _, rfl, rfl, rfl⟩ ((pv_eql rfl rfl).tru (by first | rfl | decide | omega | assumption | (simp; done) | (simp; omega))) rfl ?_
    refine Ops.pv (pv_pick_true rfl rfl) rfl ?_
    refine Ops.pv (pv_assign rfl) rfl ?_
    refine Ops.nil ?_
    refine Ends.seq ?_
    refine Wp.ret ?_
    exact Ends.ret (res1 rfl rfl) ⟨rfl, rfl⟩

set_option maxHeartbeats 16000000 in
theorem tr_movesRefused (G : Hp) (a : Option Addr) (c : Nat) (l : List OpC) (ha : ArgS G 18 a (l.map OpC.cells)) (hl : l.length ≤ maxLen) : TrR Try.prog 4 [.slice a l.length c] (G) (.bool true) := by
  refine Tr.enter Try.func4 rfl Try.ntmps4 rfl (fun W F => ?_)
  refine Wp.app ?_
  refine Wp.seq ?_
  refine Wp.region ?_
  refine Ops.pv (pv_assign rfl) rfl ?_
  refine Ops.nil ?_
  refine Ends.seq ?_
  refine Wp.seq ?_
  refine Wp.seq ?_
  refine Wp.region ?_
  refine Ops.ef rfl (ef_callr (tr_mworks) rfl rfl) ?_
  rintro _ _ ⟨rfl, rfl⟩
  first | refine Ops.pv (pv_not_dec rfl) rfl ?_ | refine Ops.pv (pv_not rfl) rfl ?_
  refine Ops.nil ?_
  refine Ends.seq ?_
  refine Wp.cond_false rfl ?_
  refine Wp.skip ?_
  refine Ends.seq ?_
  refine Wp.seq ?_
  refine Wp.region ?_
  refine Ops.ef rfl (ef_call (tr_mNew) rfl rfl) ?_
  rintro _ _ ⟨_, _, ⟨cb1, rfl, ⟨sb0, tb0, Ls0, Lt0, hS0, hT0, rfl⟩⟩, rfl, rfl⟩
  refine Ops.app ?_
  refine Ops.pv (pv_assign rfl) rfl ?_
  refine Ops.nil ?_
  refine Ends.seq ?_
  refine Wp.seq ?_
  refine Wp.region ?_
  refine Ops.pv (pv_move rfl) rfl ?_
  first | refine Ops.pv (pv_nilCheck rfl) rfl ?_ | refine Ops.pv (pv_nilCheck_func rfl rfl) rfl ?_
  first | refine Ops.pv (pv_fieldAddr0 rfl rfl) rfl ?_ | refine Ops.pv (pv_fieldAddr rfl rfl) rfl ?_
  refine Ops.pv (pv_loadK [_] rfl rfl rfl ⟨rfl, trivial⟩) rfl ?_
  refine Ops.ef rfl (ef_call (tr_smNode _ sb0 Ls0 hS0 0 3) rfl rfl) ?_
  rintro _ _ ⟨_, Q1, ⟨rfl, hS1⟩, rfl, rfl⟩
  refine Ops.app ?_
  skip
  refine Ops.nil ?_
  refine Ends.seq ?_
  refine Wp.seq ?_
  refine Wp.region ?_
  refine Ops.pv (pv_move rfl) rfl ?_
  first | refine Ops.pv (pv_nilCheck rfl) rfl ?_ | refine Ops.pv (pv_nilCheck_func rfl rfl) rfl ?_
  first | refine Ops.pv (pv_fieldAddr0 rfl rfl) rfl ?_ | refine Ops.pv (pv_fieldAddr rfl rfl) rfl ?_
  refine Ops.pv (pv_loadK [_] rfl rfl rfl ⟨rfl, trivial⟩) rfl ?_
  refine Ops.ef rfl (ef_call (tr_smNode _ sb0 Q1 hS1 1 3) rfl rfl) ?_
  rintro _ _ ⟨_, Q2, ⟨rfl, hS2⟩, rfl, rfl⟩
  refine Ops.app ?_
  skip
  refine Ops.nil ?_
  refine Ends.seq ?_
  refine Wp.seq ?_
  refine Wp.seq ?_
  refine Wp.region ?_
  refine Ops.pv (pv_assign rfl) rfl ?_
  refine Ops.nil ?_
  refine Ends.seq ?_
  refine Wp.block ?_
  refine Wp.loopK (σ := Nat × PS × Nat × Nat × Hp × Hp) [(0, _), (3, _)] (fun s => [(4, .int .i64 s.1)]) (fun s => cBlk cb1 s.2.2.1 s.2.2.2.1 :: (s.2.2.2.2.1 ++ (s.2.2.2.2.2 ++ (G ++ F)))) (fun s => s.1 ≤ l.length ∧ s.1 ≤ 50 ∧ StF s.2.1.l s.2.2.1 s.2.2.2.2.1 ∧ TrF s.1 s.2.1.F s.2.2.2.1 s.2.2.2.2.2) (fun s => l.length - s.1) (0, ⟨_, PS.new.F⟩, sb0, tb0, Q2, Lt0) ⟨Nat.zero_le _, Nat.zero_le _, hS2, hT0⟩ ⟨rfl, rfl, trivial⟩ ⟨rfl, trivial⟩ (by intro w ho; (try dsimp only [List.nil_append, List.cons_append]); exact Drop.own ho) ?_
  rintro ⟨i, p, sb, tb, Ls, Lt⟩ KK ⟨hi, hi2, hS, hT⟩ hK
  dsimp only [List.cons_append, List.nil_append] at hK ⊢
  dsimp only at hi hi2 hS hT ⊢
  refine Wp.seq ?_
  refine Wp.seq ?_
  refine Wp.region ?_
  refine Ops.pv (pv_move rfl) rfl ?_
  refine Ops.pv (pv_move rfl) rfl ?_
  refine Ops.pv (pv_len_slice (T := 49) rfl rfl) rfl ?_
  refine Ops.pv (pv_lss rfl rfl) rfl ?_
  refine Ops.pv (pv_move rfl) rfl ?_
  refine Ops.pvc rfl rfl (fun hg => pv_move rfl) rfl ?_
  refine Ops.pvc rfl rfl (fun hg => Pv.setE (t := 35) rfl (cv_pos hg) (pv_lss rfl rfl)) rfl ?_
  refine Ops.pv (pv_pick_and rfl rfl) rfl ?_
  refine Ops.nil ?_
  refine Ends.seq ?_
  first | refine Wp.cond_dect rfl (fun h1 => ?_) (fun h1 => ?_) | refine Wp.cond_t rfl (fun h1 => ?_) (fun h1 => ?_)
  · obtain ⟨x, hq⟩ : ∃ x, l[i]? = some x := ⟨_, List.getElem?_eq_getElem (by omega)⟩
    obtain ⟨_, b, o, cc, T, f, rfl, hmm, hr⟩ := ha i x.cells (by rw [List.getElem?_map, hq]; rfl)
    have hbg : Blk G b (.cells cc.toArray T f) := ⟨hmm⟩
    refine Wp.skip ?_
    refine Ends.seq ?_
    refine Wp.seq ?_
    refine Wp.block ?_
    refine Wp.seq ?_
    refine Wp.region ?_
    refine Ops.pv (pv_move rfl) rfl ?_
    refine Ops.pv (pv_move rfl) rfl ?_
    refine Ops.pv (pv_indexAddr (i := i) rfl rfl rfl (by omega)) rfl ?_
    refine Ops.pv (pv_loadK x.cells rfl rfl rfl ⟨hr.1, hr.2.1, hr.2.2.1, hr.2.2.2.1, hr.2.2.2.2.1, hr.2.2.2.2.2.1, hr.2.2.2.2.2.2.1, hr.2.2.2.2.2.2.2.1, hr.2.2.2.2.2.2.2.2.1, hr.2.2.2.2.2.2.2.2.2.1, hr.2.2.2.2.2.2.2.2.2.2.1, hr.2.2.2.2.2.2.2.2.2.2.2.1, hr.2.2.2.2.2.2.2.2.2.2.2.2.1, hr.2.2.2.2.2.2.2.2.2.2.2.2.2.1, hr.2.2.2.2.2.2.2.2.2.2.2.2.2.2.1, hr.2.2.2.2.2.2.2.2.2.2.2.2.2.2.2.1, hr.2.2.2.2.2.2.2.2.2.2.2.2.2.2.2.2.1, hr.2.2.2.2.2.2.2.2.2.2.2.2.2.2.2.2.2.1, trivial⟩) rfl ?_
    refine Ops.ef rfl (ef_allocK tyZ51 rfl) ?_
    rintro _ _ ⟨b1, rfl, rfl⟩
    refine Ops.ef rfl (ef_storeK rfl rfl rfl rfl) ?_
    rintro _ _ ⟨rfl, rfl⟩
    refine Ops.nil ?_
    refine Ends.seq ?_
    refine Wp.seq ?_
    refine Wp.region ?_
    refine Ops.pv (pv_move rfl) rfl ?_
    first | refine Ops.pv (pv_nilCheck rfl) rfl ?_ | refine Ops.pv (pv_nilCheck_func rfl rfl) rfl ?_
    first | refine Ops.pv (pv_fieldAddr0 rfl rfl) rfl ?_ | refine Ops.pv (pv_fieldAddr rfl rfl) rfl ?_
    first | refine Ops.pv (pv_fieldAddr0 rfl rfl) rfl ?_ | refine Ops.pv (pv_fieldAddr rfl rfl) rfl ?_
    first | refine Ops.pv (pv_load rfl rfl rfl) rfl ?_ | refine Ops.pv (pv_load rfl rfl (by assumption)) rfl ?_
    refine Ops.ef rfl (ef_call (sf_full hS) rfl rfl) ?_
    rintro _ _ ⟨_, _, ⟨C1, hc1, rfl⟩, rfl, rfl⟩
    refine Ops.app ?_
    obtain ⟨pp1, qq1, rfl⟩ := hc1.form
    refine Ops.pv (pv_assign rfl) rfl ?_
    refine Ops.nil ?_
    refine Ends.seq ?_
    refine Wp.cutK (σ := Nat) [(0, _), (3, _), (4, _), (5, _), (6, _)] (fun s => [(7, .pointer (some ⟨s, 0, none⟩))]) (fun s => (s, .cells (dget p.l x.a).1.cells.toArray 24) :: (C1 ++ ((b1, .cells x.cells.toArray 51) :: (cBlk cb1 sb tb :: (Ls ++ (Lt ++ (G ++ F))))))) (fun s => True) ⟨rfl, rfl, rfl, rfl, rfl, trivial⟩ (fun _ KK hC0 => ?_) ?_
    · dsimp only [List.cons_append, List.nil_append] at hC0
      refine AnyH.start ((b1, .cells x.cells.toArray 51) :: cBlk cb1 sb tb :: []) 14 rfl ?_
      refine AnyH.take 0 rfl (by kernel_rfl) (by kernel_rfl) (by kernel_rfl) PF.pf rfl (pv_move rfl) rfl ?_
      first | refine AnyH.take 1 rfl (by kernel_rfl) (by kernel_rfl) (by kernel_rfl) PF.pf rfl (pv_nilCheck rfl) rfl ?_ | refine AnyH.take 1 rfl (by kernel_rfl) (by kernel_rfl) (by kernel_rfl) PF.pf rfl (pv_nilCheck_func rfl rfl) rfl ?_
      first | refine AnyH.take 2 rfl (by kernel_rfl) (by kernel_rfl) (by kernel_rfl) PF.pf rfl (pv_fieldAddr0 rfl rfl) rfl ?_ | refine AnyH.take 2 rfl (by kernel_rfl) (by kernel_rfl) (by kernel_rfl) PF.pf rfl (pv_fieldAddr rfl rfl) rfl ?_
      first | refine AnyH.take 3 rfl (by kernel_rfl) (by kernel_rfl) (by kernel_rfl) PF.pf rfl (pv_fieldAddr0 rfl rfl) rfl ?_ | refine AnyH.take 3 rfl (by kernel_rfl) (by kernel_rfl) (by kernel_rfl) PF.pf rfl (pv_fieldAddr rfl rfl) rfl ?_
      first | refine AnyH.take 4 rfl (by kernel_rfl) (by kernel_rfl) (by kernel_rfl) PF.pf rfl (pv_load rfl rfl rfl) rfl ?_ | refine AnyH.take 4 rfl (by kernel_rfl) (by kernel_rfl) (by kernel_rfl) PF.pf rfl (pv_load rfl rfl (by assumption)) rfl ?_
      first | refine AnyH.take 5 rfl (by kernel_rfl) (by kernel_rfl) (by kernel_rfl) PF.pf rfl (pv_fieldAddr0 rfl rfl) rfl ?_ | refine AnyH.take 5 rfl (by kernel_rfl) (by kernel_rfl) (by kernel_rfl) PF.pf rfl (pv_fieldAddr rfl rfl) rfl ?_
      refine AnyH.take 6 rfl (by kernel_rfl) (by kernel_rfl) (by kernel_rfl) PF.pf rfl (pv_loadK [_, _] rfl rfl rfl ⟨rfl, rfl, trivial⟩) rfl ?_
      refine AnyH.two 7 11 (by kernel_rfl) ?_ ?_
      · refine Turn.ef rfl rfl (ef_callr (sf_get hS x.a) rfl rfl) ?_ ?_
        · rintro _ _ ⟨rfl, rfl⟩; infer_instance
        rintro _ _ ⟨rfl, rfl⟩
        refine AnyH.take 8 rfl (by kernel_rfl) (by kernel_rfl) (by kernel_rfl) PF.pf rfl (pv_move rfl) rfl ?_
        refine AnyH.take 9 rfl (by kernel_rfl) (by kernel_rfl) (by kernel_rfl) PF.pf rfl (pv_extract rfl rfl) rfl ?_
        refine AnyH.take 10 rfl (by kernel_rfl) (by kernel_rfl) (by kernel_rfl) PF.pf rfl (pv_extract rfl rfl) rfl ?_
        refine AnyH.one 11 (by kernel_rfl) ?_
        refine Turn.ef rfl rfl (ef_allocK tyZ24 rfl) ?_ ?_
        · rintro _ _ ⟨b2, rfl, rfl⟩; infer_instance
        rintro _ _ ⟨b2, rfl, rfl⟩
        refine AnyH.one 12 (by kernel_rfl) ?_
        refine Turn.ef rfl rfl (ef_storeK rfl rfl rfl rfl) ?_ ?_
        · rintro _ _ ⟨rfl, rfl⟩; infer_instance
        rintro _ _ ⟨rfl, rfl⟩
        refine AnyH.take 13 rfl (by kernel_rfl) (by kernel_rfl) (by kernel_rfl) PF.pf rfl (pv_assign rfl) rfl ?_
        refine AnyH.done (by kernel_rfl) ?_
        refine Ends.goes ?_
        refine Goes.back (hC0 b2 trivial) ⟨rfl, rfl, rfl, rfl, rfl, rfl, trivial⟩
      · refine Turn.ef rfl rfl (ef_allocK tyZ24 rfl) ?_ ?_
        · rintro _ _ ⟨b3, rfl, rfl⟩; infer_instance
        rintro _ _ ⟨b3, rfl, rfl⟩
        refine AnyH.one 7 (by kernel_rfl) ?_
        refine Turn.ef rfl rfl (ef_callr (sf_get hS x.a) rfl rfl) ?_ ?_
        · rintro _ _ ⟨rfl, rfl⟩; infer_instance
        rintro _ _ ⟨rfl, rfl⟩
        refine AnyH.take 8 rfl (by kernel_rfl) (by kernel_rfl) (by kernel_rfl) PF.pf rfl (pv_move rfl) rfl ?_
        refine AnyH.take 9 rfl (by kernel_rfl) (by kernel_rfl) (by kernel_rfl) PF.pf rfl (pv_extract rfl rfl) rfl ?_
        refine AnyH.take 10 rfl (by kernel_rfl) (by kernel_rfl) (by kernel_rfl) PF.pf rfl (pv_extract rfl rfl) rfl ?_
        refine AnyH.one 12 (by kernel_rfl) ?_
        refine Turn.ef rfl rfl (ef_storeK rfl rfl rfl rfl) ?_ ?_
        · rintro _ _ ⟨rfl, rfl⟩; infer_instance
        rintro _ _ ⟨rfl, rfl⟩
        refine AnyH.take 13 rfl (by kernel_rfl) (by kernel_rfl) (by kernel_rfl) PF.pf rfl (pv_assign rfl) rfl ?_
        refine AnyH.done (by kernel_rfl) ?_
        refine Ends.goes ?_
        refine Goes.back (hC0 b3 trivial) ⟨rfl, rfl, rfl, rfl, rfl, rfl, trivial⟩
    rintro va _
    dsimp only [List.cons_append, List.nil_append] at ⊢
    refine Wp.cutK (σ := Nat) [(0, _), (3, _), (4, _), (5, _), (6, _), (7, _)] (fun s => [(9, .pointer (some ⟨s, 0, none⟩))]) (fun s => (s, .cells (dget p.l x.b).1.cells.toArray 24) :: ((va, .cells (dget p.l x.a).1.cells.toArray 24) :: (C1 ++ ((b1, .cells x.cells.toArray 51) :: (cBlk cb1 sb tb :: (Ls ++ (Lt ++ (G ++ F)))))))) (fun s => True) ⟨rfl, rfl, rfl, rfl, rfl, rfl, trivial⟩ (fun _ KK hC0 => ?_) ?_
    · dsimp only [List.cons_append, List.nil_append] at hC0
      refine AnyH.start ((b1, .cells x.cells.toArray 51) :: cBlk cb1 sb tb :: []) 14 rfl ?_
      refine AnyH.take 0 rfl (by kernel_rfl) (by kernel_rfl) (by kernel_rfl) PF.pf rfl (pv_move rfl) rfl ?_
      first | refine AnyH.take 1 rfl (by kernel_rfl) (by kernel_rfl) (by kernel_rfl) PF.pf rfl (pv_nilCheck rfl) rfl ?_ | refine AnyH.take 1 rfl (by kernel_rfl) (by kernel_rfl) (by kernel_rfl) PF.pf rfl (pv_nilCheck_func rfl rfl) rfl ?_
      first | refine AnyH.take 2 rfl (by kernel_rfl) (by kernel_rfl) (by kernel_rfl) PF.pf rfl (pv_fieldAddr0 rfl rfl) rfl ?_ | refine AnyH.take 2 rfl (by kernel_rfl) (by kernel_rfl) (by kernel_rfl) PF.pf rfl (pv_fieldAddr rfl rfl) rfl ?_
      first | refine AnyH.take 3 rfl (by kernel_rfl) (by kernel_rfl) (by kernel_rfl) PF.pf rfl (pv_fieldAddr0 rfl rfl) rfl ?_ | refine AnyH.take 3 rfl (by kernel_rfl) (by kernel_rfl) (by kernel_rfl) PF.pf rfl (pv_fieldAddr rfl rfl) rfl ?_
      first | refine AnyH.take 4 rfl (by kernel_rfl) (by kernel_rfl) (by kernel_rfl) PF.pf rfl (pv_load rfl rfl rfl) rfl ?_ | refine AnyH.take 4 rfl (by kernel_rfl) (by kernel_rfl) (by kernel_rfl) PF.pf rfl (pv_load rfl rfl (by assumption)) rfl ?_
      first | refine AnyH.take 5 rfl (by kernel_rfl) (by kernel_rfl) (by kernel_rfl) PF.pf rfl (pv_fieldAddr0 rfl rfl) rfl ?_ | refine AnyH.take 5 rfl (by kernel_rfl) (by kernel_rfl) (by kernel_rfl) PF.pf rfl (pv_fieldAddr rfl rfl) rfl ?_
      refine AnyH.take 6 rfl (by kernel_rfl) (by kernel_rfl) (by kernel_rfl) PF.pf rfl (pv_loadK [_, _] rfl rfl rfl ⟨rfl, rfl, trivial⟩) rfl ?_
      refine AnyH.two 7 11 (by kernel_rfl) ?_ ?_
      · refine Turn.ef rfl rfl (ef_callr (sf_get hS x.b) rfl rfl) ?_ ?_
        · rintro _ _ ⟨rfl, rfl⟩; infer_instance
        rintro _ _ ⟨rfl, rfl⟩
        refine AnyH.take 8 rfl (by kernel_rfl) (by kernel_rfl) (by kernel_rfl) PF.pf rfl (pv_move rfl) rfl ?_
        refine AnyH.take 9 rfl (by kernel_rfl) (by kernel_rfl) (by kernel_rfl) PF.pf rfl (pv_extract rfl rfl) rfl ?_
        refine AnyH.take 10 rfl (by kernel_rfl) (by kernel_rfl) (by kernel_rfl) PF.pf rfl (pv_extract rfl rfl) rfl ?_
        refine AnyH.one 11 (by kernel_rfl) ?_
        refine Turn.ef rfl rfl (ef_allocK tyZ24 rfl) ?_ ?_
        · rintro _ _ ⟨b4, rfl, rfl⟩; infer_instance
        rintro _ _ ⟨b4, rfl, rfl⟩
        refine AnyH.one 12 (by kernel_rfl) ?_
        refine Turn.ef rfl rfl (ef_storeK rfl rfl rfl rfl) ?_ ?_
        · rintro _ _ ⟨rfl, rfl⟩; infer_instance
        rintro _ _ ⟨rfl, rfl⟩
        refine AnyH.take 13 rfl (by kernel_rfl) (by kernel_rfl) (by kernel_rfl) PF.pf rfl (pv_assign rfl) rfl ?_
        refine AnyH.done (by kernel_rfl) ?_
        refine Ends.goes ?_
        refine Goes.back (hC0 b4 trivial) ⟨rfl, rfl, rfl, rfl, rfl, rfl, rfl, trivial⟩
      · refine Turn.ef rfl rfl (ef_allocK tyZ24 rfl) ?_ ?_
        · rintro _ _ ⟨b5, rfl, rfl⟩; infer_instance
        rintro _ _ ⟨b5, rfl, rfl⟩
        refine AnyH.one 7 (by kernel_rfl) ?_
        refine Turn.ef rfl rfl (ef_callr (sf_get hS x.b) rfl rfl) ?_ ?_
        · rintro _ _ ⟨rfl, rfl⟩; infer_instance
        rintro _ _ ⟨rfl, rfl⟩
        refine AnyH.take 8 rfl (by kernel_rfl) (by kernel_rfl) (by kernel_rfl) PF.pf rfl (pv_move rfl) rfl ?_
        refine AnyH.take 9 rfl (by kernel_rfl) (by kernel_rfl) (by kernel_rfl) PF.pf rfl (pv_extract rfl rfl) rfl ?_
        refine AnyH.take 10 rfl (by kernel_rfl) (by kernel_rfl) (by kernel_rfl) PF.pf rfl (pv_extract rfl rfl) rfl ?_
        refine AnyH.one 12 (by kernel_rfl) ?_
        refine Turn.ef rfl rfl (ef_storeK rfl rfl rfl rfl) ?_ ?_
        · rintro _ _ ⟨rfl, rfl⟩; infer_instance
        rintro _ _ ⟨rfl, rfl⟩
        refine AnyH.take 13 rfl (by kernel_rfl) (by kernel_rfl) (by kernel_rfl) PF.pf rfl (pv_assign rfl) rfl ?_
        refine AnyH.done (by kernel_rfl) ?_
        refine Ends.goes ?_
        refine Goes.back (hC0 b5 trivial) ⟨rfl, rfl, rfl, rfl, rfl, rfl, rfl, trivial⟩
    rintro vb _
    dsimp only [List.cons_append, List.nil_append] at ⊢
    refine Wp.seq ?_
    refine Wp.region ?_
    refine Ops.pv (pv_move rfl) rfl ?_
    first | refine Ops.pv (pv_fieldAddr0 rfl rfl) rfl ?_ | refine Ops.pv (pv_fieldAddr rfl rfl) rfl ?_
    refine Ops.pv (pv_loadK [_, _] rfl rfl rfl ⟨rfl, rfl, trivial⟩) rfl ?_
    refine Ops.ef rfl (ef_call (tr_mKin _ cb1 _ p ⟨_, _, _, _, hS, hT, rfl⟩ (by omega) x.a) rfl rfl) ?_
    rintro _ _ ⟨_, _, ⟨C2, hc2, rfl⟩, rfl, rfl⟩
    refine Ops.app ?_
    obtain ⟨pp2, qq2, rfl⟩ := hc2.form
    refine Ops.pv (pv_assign rfl) rfl ?_
    refine Ops.nil ?_
    refine Ends.seq ?_
    refine Wp.seq ?_
    refine Wp.region ?_
    refine Ops.pv (pv_assign rfl) rfl ?_
    refine Ops.nil ?_
    refine Ends.seq ?_
    refine Wp.cutK (σ := Int × PS × Nat × Nat × Hp × Hp) [(0, _), (3, _), (4, _), (5, _), (6, _), (7, _), (9, _), (11, _)] (fun s => [(12, .int .i64 s.1)]) (fun s => C2 ++ ((vb, .cells (dget p.l x.b).1.cells.toArray 24) :: (va, .cells (dget p.l x.a).1.cells.toArray 24) :: (C1 ++ ((b1, .cells x.cells.toArray 51) :: (cBlk cb1 s.2.2.1 s.2.2.2.1 :: (s.2.2.2.2.1 ++ (s.2.2.2.2.2 ++ (G ++ F)))))))) (fun s => (s.1 ≠ 0 → s.2.1 = p) ∧ StF s.2.1.l s.2.2.1 s.2.2.2.2.1 ∧ TrF (i + 1) s.2.1.F s.2.2.2.1 s.2.2.2.2.2) ⟨rfl, rfl, rfl, rfl, rfl, rfl, rfl, rfl, trivial⟩ (fun _ KK hC0 => ?_) ?_
    · dsimp only [List.cons_append, List.nil_append] at hC0
      refine Wp.seq ?_
      refine Wp.region ?_
      first | refine Ops.pv (pv_fieldAddr0 rfl rfl) rfl ?_ | refine Ops.pv (pv_fieldAddr rfl rfl) rfl ?_
      first | refine Ops.pv (pv_load rfl rfl rfl) rfl ?_ | refine Ops.pv (pv_load rfl rfl (by assumption)) rfl ?_
      refine Ops.nil ?_
      refine Ends.seq ?_
      refine Wp.block ?_
      refine Wp.seq ?_
      refine Wp.region ?_
      refine Ops.pv (pv_eql rfl rfl) rfl ?_
      refine Ops.pv (pv_assign rfl) rfl ?_
      refine Ops.nil ?_
      refine Ends.seq ?_
      first | refine Wp.cond_dect rfl (fun h2 => ?_) (fun h2 => ?_) | refine Wp.cond_t rfl (fun h2 => ?_) (fun h2 => ?_)
      · refine Wp.region ?_
        refine Ops.pv (pv_move rfl) rfl ?_
        first | refine Ops.pv (pv_fieldAddr0 rfl rfl) rfl ?_ | refine Ops.pv (pv_fieldAddr rfl rfl) rfl ?_
        refine Ops.pv (pv_loadK [_, _] rfl rfl rfl ⟨rfl, rfl, trivial⟩) rfl ?_
        first | refine Ops.pv (pv_fieldAddr0 rfl rfl) rfl ?_ | refine Ops.pv (pv_fieldAddr rfl rfl) rfl ?_
        refine Ops.pv (pv_loadK [_, _, _, _, _, _] rfl rfl rfl ⟨rfl, rfl, rfl, rfl, rfl, rfl, trivial⟩) rfl ?_
        refine Ops.ef rfl (ef_call (tr_mPlant _ cb1 _ p ⟨_, _, _, _, hS, hT, rfl⟩ x.a x.c) rfl rfl) ?_
        rintro _ _ ⟨_, _, ⟨rfl, sb2, tb2, Ls2, Lt2, hS2, hT2, rfl⟩, rfl, rfl⟩
        refine Ops.app ?_
        refine Ops.pv (pv_assign rfl) rfl ?_
        refine Ops.nil ?_
        refine Ends.block_normal ?_
        refine Ends.goes ?_
        refine Goes.back (hC0 ((mPlant p x.a x.c).1, (mPlant p x.a x.c).2, sb2, tb2, Ls2, Lt2) ⟨fun h => mPlant_no h, hS2, hT2.more (by omega)⟩) ⟨rfl, rfl, rfl, rfl, rfl, rfl, rfl, rfl, rfl, trivial⟩
      · refine Wp.seq ?_
        refine Wp.region ?_
        refine Ops.pv (pv_eql rfl rfl) rfl ?_
        refine Ops.pv (pv_assign rfl) rfl ?_
        refine Ops.nil ?_
        refine Ends.seq ?_
        first | refine Wp.cond_dect rfl (fun h3 => ?_) (fun h3 => ?_) | refine Wp.cond_t rfl (fun h3 => ?_) (fun h3 => ?_)
        · refine Wp.region ?_
          refine Ops.pv (pv_move rfl) rfl ?_
          first | refine Ops.pv (pv_fieldAddr0 rfl rfl) rfl ?_ | refine Ops.pv (pv_fieldAddr rfl rfl) rfl ?_
          refine Ops.pv (pv_loadK [_, _] rfl rfl rfl ⟨rfl, rfl, trivial⟩) rfl ?_
          first | refine Ops.pv (pv_fieldAddr0 rfl rfl) rfl ?_ | refine Ops.pv (pv_fieldAddr rfl rfl) rfl ?_
          refine Ops.pv (pv_loadK [_, _] rfl rfl rfl ⟨rfl, rfl, trivial⟩) rfl ?_
          first | refine Ops.pv (pv_fieldAddr0 rfl rfl) rfl ?_ | refine Ops.pv (pv_fieldAddr rfl rfl) rfl ?_
          refine Ops.pv (pv_loadK [_, _, _, _, _, _] rfl rfl rfl ⟨rfl, rfl, rfl, rfl, rfl, rfl, trivial⟩) rfl ?_
          refine Ops.ef rfl (ef_call (tr_mChild _ cb1 _ p ⟨_, _, _, _, hS, hT, rfl⟩ (by omega) x.a x.b x.c) rfl rfl) ?_
          rintro _ _ ⟨_, _, ⟨rfl, sb2, tb2, Ls2, Lt2, hS2, hT2, rfl⟩, rfl, rfl⟩
          refine Ops.app ?_
          refine Ops.pv (pv_assign rfl) rfl ?_
          refine Ops.nil ?_
          refine Ends.block_normal ?_
          refine Ends.goes ?_
          refine Goes.back (hC0 ((mChild p x.a x.b x.c).1, (mChild p x.a x.b x.c).2, sb2, tb2, Ls2, Lt2) ⟨fun h => mChild_no h, hS2, hT2.more (by omega)⟩) ⟨rfl, rfl, rfl, rfl, rfl, rfl, rfl, rfl, rfl, trivial⟩
        · refine Wp.seq ?_
          refine Wp.region ?_
          refine Ops.pv (pv_eql rfl rfl) rfl ?_
          refine Ops.pv (pv_assign rfl) rfl ?_
          refine Ops.nil ?_
          refine Ends.seq ?_
          first | refine Wp.cond_dect rfl (fun h4 => ?_) (fun h4 => ?_) | refine Wp.cond_t rfl (fun h4 => ?_) (fun h4 => ?_)
          · refine Wp.region ?_
            refine Ops.pv (pv_move rfl) rfl ?_
            first | refine Ops.pv (pv_fieldAddr0 rfl rfl) rfl ?_ | refine Ops.pv (pv_fieldAddr rfl rfl) rfl ?_
            refine Ops.pv (pv_loadK [_, _] rfl rfl rfl ⟨rfl, rfl, trivial⟩) rfl ?_
            first | refine Ops.pv (pv_fieldAddr0 rfl rfl) rfl ?_ | refine Ops.pv (pv_fieldAddr rfl rfl) rfl ?_
            refine Ops.pv (pv_loadK [_, _] rfl rfl rfl ⟨rfl, rfl, trivial⟩) rfl ?_
            first | refine Ops.pv (pv_fieldAddr0 rfl rfl) rfl ?_ | refine Ops.pv (pv_fieldAddr rfl rfl) rfl ?_
            first | refine Ops.pv (pv_load rfl rfl rfl) rfl ?_ | refine Ops.pv (pv_load rfl rfl (by assumption)) rfl ?_
            refine Ops.ef rfl (ef_call (tr_mCopy _ cb1 _ p ⟨_, _, _, _, hS, hT, rfl⟩ (by omega) x.a x.b x.rights) rfl rfl) ?_
            rintro _ _ ⟨_, _, ⟨rfl, sb2, tb2, Ls2, Lt2, hS2, hT2, rfl⟩, rfl, rfl⟩
            refine Ops.app ?_
            refine Ops.pv (pv_assign rfl) rfl ?_
            refine Ops.nil ?_
            refine Ends.block_normal ?_
            refine Ends.goes ?_
            refine Goes.back (hC0 ((mCopy p x.a x.b x.rights).1, (mCopy p x.a x.b x.rights).2, sb2, tb2, Ls2, Lt2) ⟨fun h => mCopy_no h, hS2, hT2.more (by omega)⟩) ⟨rfl, rfl, rfl, rfl, rfl, rfl, rfl, rfl, rfl, trivial⟩
          · refine Wp.seq ?_
            refine Wp.region ?_
            refine Ops.pv (pv_eql rfl rfl) rfl ?_
            refine Ops.pv (pv_assign rfl) rfl ?_
            refine Ops.nil ?_
            refine Ends.seq ?_
            first | refine Wp.cond_dect rfl (fun h5 => ?_) (fun h5 => ?_) | refine Wp.cond_t rfl (fun h5 => ?_) (fun h5 => ?_)
            · refine Wp.region ?_
              refine Ops.pv (pv_move rfl) rfl ?_
              first | refine Ops.pv (pv_fieldAddr0 rfl rfl) rfl ?_ | refine Ops.pv (pv_fieldAddr rfl rfl) rfl ?_
              refine Ops.pv (pv_loadK [_, _] rfl rfl rfl ⟨rfl, rfl, trivial⟩) rfl ?_
              first | refine Ops.pv (pv_fieldAddr0 rfl rfl) rfl ?_ | refine Ops.pv (pv_fieldAddr rfl rfl) rfl ?_
              refine Ops.pv (pv_loadK [_, _] rfl rfl rfl ⟨rfl, rfl, trivial⟩) rfl ?_
              first | refine Ops.pv (pv_fieldAddr0 rfl rfl) rfl ?_ | refine Ops.pv (pv_fieldAddr rfl rfl) rfl ?_
              first | refine Ops.pv (pv_load rfl rfl rfl) rfl ?_ | refine Ops.pv (pv_load rfl rfl (by assumption)) rfl ?_
              first | refine Ops.pv (pv_fieldAddr0 rfl rfl) rfl ?_ | refine Ops.pv (pv_fieldAddr rfl rfl) rfl ?_
              first | refine Ops.pv (pv_load rfl rfl rfl) rfl ?_ | refine Ops.pv (pv_load rfl rfl (by assumption)) rfl ?_
              first | refine Ops.pv (pv_fieldAddr0 rfl rfl) rfl ?_ | refine Ops.pv (pv_fieldAddr rfl rfl) rfl ?_
              first | refine Ops.pv (pv_load rfl rfl rfl) rfl ?_ | refine Ops.pv (pv_load rfl rfl (by assumption)) rfl ?_
              first | refine Ops.pv (pv_fieldAddr0 rfl rfl) rfl ?_ | refine Ops.pv (pv_fieldAddr rfl rfl) rfl ?_
              first | refine Ops.pv (pv_load rfl rfl rfl) rfl ?_ | refine Ops.pv (pv_load rfl rfl (by assumption)) rfl ?_
              refine Ops.ef rfl (ef_call (tr_mMint _ cb1 _ p ⟨_, _, _, _, hS, hT, rfl⟩ (by omega) x.a x.b x.rights x.badge x.guard x.bits) rfl rfl) ?_
              rintro _ _ ⟨_, _, ⟨rfl, sb2, tb2, Ls2, Lt2, hS2, hT2, rfl⟩, rfl, rfl⟩
              refine Ops.app ?_
              refine Ops.pv (pv_assign rfl) rfl ?_
              refine Ops.nil ?_
              refine Ends.block_normal ?_
              refine Ends.goes ?_
              refine Goes.back (hC0 ((mMint p x.a x.b x.rights x.badge x.guard x.bits).1, (mMint p x.a x.b x.rights x.badge x.guard x.bits).2, sb2, tb2, Ls2, Lt2) ⟨fun h => mMint_no h, hS2, hT2.more (by omega)⟩) ⟨rfl, rfl, rfl, rfl, rfl, rfl, rfl, rfl, rfl, trivial⟩
            · refine Wp.seq ?_
              refine Wp.region ?_
              refine Ops.pv (pv_eql rfl rfl) rfl ?_
              refine Ops.pv (pv_assign rfl) rfl ?_
              refine Ops.nil ?_
              refine Ends.seq ?_
              first | refine Wp.cond_dect rfl (fun h6 => ?_) (fun h6 => ?_) | refine Wp.cond_t rfl (fun h6 => ?_) (fun h6 => ?_)
              · refine Wp.region ?_
                refine Ops.pv (pv_move rfl) rfl ?_
                first | refine Ops.pv (pv_fieldAddr0 rfl rfl) rfl ?_ | refine Ops.pv (pv_fieldAddr rfl rfl) rfl ?_
                refine Ops.pv (pv_loadK [_, _] rfl rfl rfl ⟨rfl, rfl, trivial⟩) rfl ?_
                first | refine Ops.pv (pv_fieldAddr0 rfl rfl) rfl ?_ | refine Ops.pv (pv_fieldAddr rfl rfl) rfl ?_
                refine Ops.pv (pv_loadK [_, _] rfl rfl rfl ⟨rfl, rfl, trivial⟩) rfl ?_
                refine Ops.ef rfl (ef_call (tr_mMove _ cb1 _ p ⟨_, _, _, _, hS, hT, rfl⟩ x.a x.b) rfl rfl) ?_
                rintro _ _ ⟨_, _, ⟨rfl, sb2, tb2, Ls2, Lt2, hS2, hT2, rfl⟩, rfl, rfl⟩
                refine Ops.app ?_
                refine Ops.pv (pv_assign rfl) rfl ?_
                refine Ops.nil ?_
                refine Ends.block_normal ?_
                refine Ends.goes ?_
                refine Goes.back (hC0 ((mMove p x.a x.b).1, (mMove p x.a x.b).2, sb2, tb2, Ls2, Lt2) ⟨fun h => mMove_no h, hS2, hT2.more (by omega)⟩) ⟨rfl, rfl, rfl, rfl, rfl, rfl, rfl, rfl, rfl, trivial⟩
              · refine Wp.seq ?_
                refine Wp.region ?_
                refine Ops.pv (pv_eql rfl rfl) rfl ?_
                refine Ops.pv (pv_assign rfl) rfl ?_
                refine Ops.nil ?_
                refine Ends.seq ?_
                first | refine Wp.cond_dect rfl (fun h7 => ?_) (fun h7 => ?_) | refine Wp.cond_t rfl (fun h7 => ?_) (fun h7 => ?_)
                · refine Wp.region ?_
                  refine Ops.pv (pv_move rfl) rfl ?_
                  first | refine Ops.pv (pv_fieldAddr0 rfl rfl) rfl ?_ | refine Ops.pv (pv_fieldAddr rfl rfl) rfl ?_
                  refine Ops.pv (pv_loadK [_, _] rfl rfl rfl ⟨rfl, rfl, trivial⟩) rfl ?_
                  first | refine Ops.pv (pv_fieldAddr0 rfl rfl) rfl ?_ | refine Ops.pv (pv_fieldAddr rfl rfl) rfl ?_
                  refine Ops.pv (pv_loadK [_, _] rfl rfl rfl ⟨rfl, rfl, trivial⟩) rfl ?_
                  first | refine Ops.pv (pv_fieldAddr0 rfl rfl) rfl ?_ | refine Ops.pv (pv_fieldAddr rfl rfl) rfl ?_
                  first | refine Ops.pv (pv_load rfl rfl rfl) rfl ?_ | refine Ops.pv (pv_load rfl rfl (by assumption)) rfl ?_
                  first | refine Ops.pv (pv_fieldAddr0 rfl rfl) rfl ?_ | refine Ops.pv (pv_fieldAddr rfl rfl) rfl ?_
                  first | refine Ops.pv (pv_load rfl rfl rfl) rfl ?_ | refine Ops.pv (pv_load rfl rfl (by assumption)) rfl ?_
                  refine Ops.ef rfl (ef_call (tr_mMutate _ cb1 _ p ⟨_, _, _, _, hS, hT, rfl⟩ x.a x.b x.guard x.bits) rfl rfl) ?_
                  rintro _ _ ⟨_, _, ⟨rfl, sb2, tb2, Ls2, Lt2, hS2, hT2, rfl⟩, rfl, rfl⟩
                  refine Ops.app ?_
                  refine Ops.pv (pv_assign rfl) rfl ?_
                  refine Ops.nil ?_
                  refine Ends.block_normal ?_
                  refine Ends.goes ?_
                  refine Goes.back (hC0 ((mMutate p x.a x.b x.guard x.bits).1, (mMutate p x.a x.b x.guard x.bits).2, sb2, tb2, Ls2, Lt2) ⟨fun h => mMutate_no h, hS2, hT2.more (by omega)⟩) ⟨rfl, rfl, rfl, rfl, rfl, rfl, rfl, rfl, rfl, trivial⟩
                · refine Wp.seq ?_
                  refine Wp.region ?_
                  refine Ops.pv (pv_eql rfl rfl) rfl ?_
                  refine Ops.pv (pv_assign rfl) rfl ?_
                  refine Ops.nil ?_
                  refine Ends.seq ?_
                  first | refine Wp.cond_dect rfl (fun h8 => ?_) (fun h8 => ?_) | refine Wp.cond_t rfl (fun h8 => ?_) (fun h8 => ?_)
                  · refine Wp.region ?_
                    refine Ops.pv (pv_move rfl) rfl ?_
                    first | refine Ops.pv (pv_fieldAddr0 rfl rfl) rfl ?_ | refine Ops.pv (pv_fieldAddr rfl rfl) rfl ?_
                    refine Ops.pv (pv_loadK [_, _] rfl rfl rfl ⟨rfl, rfl, trivial⟩) rfl ?_
                    first | refine Ops.pv (pv_fieldAddr0 rfl rfl) rfl ?_ | refine Ops.pv (pv_fieldAddr rfl rfl) rfl ?_
                    refine Ops.pv (pv_loadK [_, _] rfl rfl rfl ⟨rfl, rfl, trivial⟩) rfl ?_
                    first | refine Ops.pv (pv_fieldAddr0 rfl rfl) rfl ?_ | refine Ops.pv (pv_fieldAddr rfl rfl) rfl ?_
                    refine Ops.pv (pv_loadK [_, _] rfl rfl rfl ⟨rfl, rfl, trivial⟩) rfl ?_
                    refine Ops.ef rfl (ef_call (tr_mRotate _ cb1 _ p ⟨_, _, _, _, hS, hT, rfl⟩ x.a x.b x.d) rfl rfl) ?_
                    rintro _ _ ⟨_, _, ⟨rfl, sb2, tb2, Ls2, Lt2, hS2, hT2, rfl⟩, rfl, rfl⟩
                    refine Ops.app ?_
                    refine Ops.pv (pv_assign rfl) rfl ?_
                    refine Ops.nil ?_
                    refine Ends.block_normal ?_
                    refine Ends.goes ?_
                    refine Goes.back (hC0 ((mRotate p x.a x.b x.d).1, (mRotate p x.a x.b x.d).2, sb2, tb2, Ls2, Lt2) ⟨fun h => mRotate_no h, hS2, hT2.more (by omega)⟩) ⟨rfl, rfl, rfl, rfl, rfl, rfl, rfl, rfl, rfl, trivial⟩
                  · refine Wp.skip ?_
                    refine Ends.block_normal ?_
                    refine Ends.goes ?_
                    refine Goes.back (hC0 (0, p, sb, tb, Ls, Lt) ⟨fun h => absurd rfl h, hS, hT.more (by omega)⟩) ⟨rfl, rfl, rfl, rfl, rfl, rfl, rfl, rfl, rfl, trivial⟩
    rintro ⟨e, p2, sb2, tb2, Ls2, Lt2⟩ ⟨hno, hS2, hT2⟩
    dsimp only [List.cons_append, List.nil_append] at ⊢
    dsimp only at hno hS2 hT2 ⊢
    refine Wp.seq ?_
    refine Wp.seq ?_
    refine Wp.region ?_
    refine Ops.pv (pv_move rfl) rfl ?_
    refine Ops.pv (pv_eql rfl rfl) rfl ?_
    refine Ops.nil ?_
    refine Ends.seq ?_
    first | refine Wp.cond_dect rfl (fun h9 => ?_) (fun h9 => ?_) | refine Wp.cond_t rfl (fun h9 => ?_) (fun h9 => ?_)
    · refine Wp.exit ?_
      refine Ends.then_exit ?_
      refine Ends.block_hit ?_
      refine Ends.seq ?_
      refine Wp.region ?_
      refine Ops.pv (pv_move rfl) rfl ?_
      first | refine Ops.pv (pv_add rfl rfl (w64 (by omega) (by omega))) rfl ?_ | refine Ops.pv (pv_add rfl rfl rfl) rfl ?_
      refine Ops.pv (pv_assign rfl) rfl ?_
      refine Ops.nil ?_
      refine Ends.goes ?_
      refine Goes.back (hK (i + 1, p2, sb2, tb2, Ls2, Lt2) ⟨by dsimp only; omega, by dsimp only; omega, hS2, hT2⟩ (by dsimp only; omega)) ⟨rfl, rfl, rfl, trivial⟩
    · have hpp := (hno (by assumption)).symm
      subst hpp
      have hfl := hS2.full_len
      have hkl := hT2.kin_len x.a (by omega)
      refine Wp.skip ?_
      refine Ends.seq ?_
      refine Wp.cutK (σ := Nat) [(0, _), (3, _), (4, _), (5, _), (6, _), (7, _), (9, _), (11, _)] (fun s => [(13, .pointer (some ⟨s, 0, none⟩))]) (fun s => (s, .cells (dget p.l x.a).1.cells.toArray 24) :: (C2 ++ ((vb, .cells (dget p.l x.b).1.cells.toArray 24) :: (va, .cells (dget p.l x.a).1.cells.toArray 24) :: (C1 ++ ((b1, .cells x.cells.toArray 51) :: (cBlk cb1 sb2 tb2 :: (Ls2 ++ (Lt2 ++ (G ++ F))))))))) (fun s => True) ⟨rfl, rfl, rfl, rfl, rfl, rfl, rfl, rfl, trivial⟩ (fun _ KK hC0 => ?_) ?_
      · dsimp only [List.cons_append, List.nil_append] at hC0
        refine AnyH.start ((b1, .cells x.cells.toArray 51) :: cBlk cb1 sb2 tb2 :: []) 14 rfl ?_
        refine AnyH.take 0 rfl (by kernel_rfl) (by kernel_rfl) (by kernel_rfl) PF.pf rfl (pv_move rfl) rfl ?_
        first | refine AnyH.take 1 rfl (by kernel_rfl) (by kernel_rfl) (by kernel_rfl) PF.pf rfl (pv_nilCheck rfl) rfl ?_ | refine AnyH.take 1 rfl (by kernel_rfl) (by kernel_rfl) (by kernel_rfl) PF.pf rfl (pv_nilCheck_func rfl rfl) rfl ?_
        first | refine AnyH.take 2 rfl (by kernel_rfl) (by kernel_rfl) (by kernel_rfl) PF.pf rfl (pv_fieldAddr0 rfl rfl) rfl ?_ | refine AnyH.take 2 rfl (by kernel_rfl) (by kernel_rfl) (by kernel_rfl) PF.pf rfl (pv_fieldAddr rfl rfl) rfl ?_
        first | refine AnyH.take 3 rfl (by kernel_rfl) (by kernel_rfl) (by kernel_rfl) PF.pf rfl (pv_fieldAddr0 rfl rfl) rfl ?_ | refine AnyH.take 3 rfl (by kernel_rfl) (by kernel_rfl) (by kernel_rfl) PF.pf rfl (pv_fieldAddr rfl rfl) rfl ?_
        first | refine AnyH.take 4 rfl (by kernel_rfl) (by kernel_rfl) (by kernel_rfl) PF.pf rfl (pv_load rfl rfl rfl) rfl ?_ | refine AnyH.take 4 rfl (by kernel_rfl) (by kernel_rfl) (by kernel_rfl) PF.pf rfl (pv_load rfl rfl (by assumption)) rfl ?_
        first | refine AnyH.take 5 rfl (by kernel_rfl) (by kernel_rfl) (by kernel_rfl) PF.pf rfl (pv_fieldAddr0 rfl rfl) rfl ?_ | refine AnyH.take 5 rfl (by kernel_rfl) (by kernel_rfl) (by kernel_rfl) PF.pf rfl (pv_fieldAddr rfl rfl) rfl ?_
        refine AnyH.take 6 rfl (by kernel_rfl) (by kernel_rfl) (by kernel_rfl) PF.pf rfl (pv_loadK [_, _] rfl rfl rfl ⟨rfl, rfl, trivial⟩) rfl ?_
        refine AnyH.two 7 11 (by kernel_rfl) ?_ ?_
        · refine Turn.ef rfl rfl (ef_callr (sf_get hS2 x.a) rfl rfl) ?_ ?_
          · rintro _ _ ⟨rfl, rfl⟩; infer_instance
          rintro _ _ ⟨rfl, rfl⟩
          refine AnyH.take 8 rfl (by kernel_rfl) (by kernel_rfl) (by kernel_rfl) PF.pf rfl (pv_move rfl) rfl ?_
          refine AnyH.take 9 rfl (by kernel_rfl) (by kernel_rfl) (by kernel_rfl) PF.pf rfl (pv_extract rfl rfl) rfl ?_
          refine AnyH.take 10 rfl (by kernel_rfl) (by kernel_rfl) (by kernel_rfl) PF.pf rfl (pv_extract rfl rfl) rfl ?_
          refine AnyH.one 11 (by kernel_rfl) ?_
          refine Turn.ef rfl rfl (ef_allocK tyZ24 rfl) ?_ ?_
          · rintro _ _ ⟨b6, rfl, rfl⟩; infer_instance
          rintro _ _ ⟨b6, rfl, rfl⟩
          refine AnyH.one 12 (by kernel_rfl) ?_
          refine Turn.ef rfl rfl (ef_storeK rfl rfl rfl rfl) ?_ ?_
          · rintro _ _ ⟨rfl, rfl⟩; infer_instance
          rintro _ _ ⟨rfl, rfl⟩
          refine AnyH.take 13 rfl (by kernel_rfl) (by kernel_rfl) (by kernel_rfl) PF.pf rfl (pv_assign rfl) rfl ?_
          refine AnyH.done (by kernel_rfl) ?_
          refine Ends.goes ?_
          refine Goes.back (hC0 b6 trivial) ⟨rfl, rfl, rfl, rfl, rfl, rfl, rfl, rfl, rfl, trivial⟩
        · refine Turn.ef rfl rfl (ef_allocK tyZ24 rfl) ?_ ?_
          · rintro _ _ ⟨b7, rfl, rfl⟩; infer_instance
          rintro _ _ ⟨b7, rfl, rfl⟩
          refine AnyH.one 7 (by kernel_rfl) ?_
          refine Turn.ef rfl rfl (ef_callr (sf_get hS2 x.a) rfl rfl) ?_ ?_
          · rintro _ _ ⟨rfl, rfl⟩; infer_instance
          rintro _ _ ⟨rfl, rfl⟩
          refine AnyH.take 8 rfl (by kernel_rfl) (by kernel_rfl) (by kernel_rfl) PF.pf rfl (pv_move rfl) rfl ?_
          refine AnyH.take 9 rfl (by kernel_rfl) (by kernel_rfl) (by kernel_rfl) PF.pf rfl (pv_extract rfl rfl) rfl ?_
          refine AnyH.take 10 rfl (by kernel_rfl) (by kernel_rfl) (by kernel_rfl) PF.pf rfl (pv_extract rfl rfl) rfl ?_
          refine AnyH.one 12 (by kernel_rfl) ?_
          refine Turn.ef rfl rfl (ef_storeK rfl rfl rfl rfl) ?_ ?_
          · rintro _ _ ⟨rfl, rfl⟩; infer_instance
          rintro _ _ ⟨rfl, rfl⟩
          refine AnyH.take 13 rfl (by kernel_rfl) (by kernel_rfl) (by kernel_rfl) PF.pf rfl (pv_assign rfl) rfl ?_
          refine AnyH.done (by kernel_rfl) ?_
          refine Ends.goes ?_
          refine Goes.back (hC0 b7 trivial) ⟨rfl, rfl, rfl, rfl, rfl, rfl, rfl, rfl, rfl, trivial⟩
      rintro vc _
      dsimp only [List.cons_append, List.nil_append] at ⊢
      refine Wp.cutK (σ := Nat) [(0, _), (3, _), (4, _), (5, _), (6, _), (7, _), (9, _), (11, _), (13, _)] (fun s => [(15, .pointer (some ⟨s, 0, none⟩))]) (fun s => (s, .cells (dget p.l x.b).1.cells.toArray 24) :: ((vc, .cells (dget p.l x.a).1.cells.toArray 24) :: (C2 ++ ((vb, .cells (dget p.l x.b).1.cells.toArray 24) :: (va, .cells (dget p.l x.a).1.cells.toArray 24) :: (C1 ++ ((b1, .cells x.cells.toArray 51) :: (cBlk cb1 sb2 tb2 :: (Ls2 ++ (Lt2 ++ (G ++ F)))))))))) (fun s => True) ⟨rfl, rfl, rfl, rfl, rfl, rfl, rfl, rfl, rfl, trivial⟩ (fun _ KK hC0 => ?_) ?_
      · dsimp only [List.cons_append, List.nil_append] at hC0
        refine AnyH.start ((b1, .cells x.cells.toArray 51) :: cBlk cb1 sb2 tb2 :: []) 14 rfl ?_
        refine AnyH.take 0 rfl (by kernel_rfl) (by kernel_rfl) (by kernel_rfl) PF.pf rfl (pv_move rfl) rfl ?_
        first | refine AnyH.take 1 rfl (by kernel_rfl) (by kernel_rfl) (by kernel_rfl) PF.pf rfl (pv_nilCheck rfl) rfl ?_ | refine AnyH.take 1 rfl (by kernel_rfl) (by kernel_rfl) (by kernel_rfl) PF.pf rfl (pv_nilCheck_func rfl rfl) rfl ?_
        first | refine AnyH.take 2 rfl (by kernel_rfl) (by kernel_rfl) (by kernel_rfl) PF.pf rfl (pv_fieldAddr0 rfl rfl) rfl ?_ | refine AnyH.take 2 rfl (by kernel_rfl) (by kernel_rfl) (by kernel_rfl) PF.pf rfl (pv_fieldAddr rfl rfl) rfl ?_
        first | refine AnyH.take 3 rfl (by kernel_rfl) (by kernel_rfl) (by kernel_rfl) PF.pf rfl (pv_fieldAddr0 rfl rfl) rfl ?_ | refine AnyH.take 3 rfl (by kernel_rfl) (by kernel_rfl) (by kernel_rfl) PF.pf rfl (pv_fieldAddr rfl rfl) rfl ?_
        first | refine AnyH.take 4 rfl (by kernel_rfl) (by kernel_rfl) (by kernel_rfl) PF.pf rfl (pv_load rfl rfl rfl) rfl ?_ | refine AnyH.take 4 rfl (by kernel_rfl) (by kernel_rfl) (by kernel_rfl) PF.pf rfl (pv_load rfl rfl (by assumption)) rfl ?_
        first | refine AnyH.take 5 rfl (by kernel_rfl) (by kernel_rfl) (by kernel_rfl) PF.pf rfl (pv_fieldAddr0 rfl rfl) rfl ?_ | refine AnyH.take 5 rfl (by kernel_rfl) (by kernel_rfl) (by kernel_rfl) PF.pf rfl (pv_fieldAddr rfl rfl) rfl ?_
        refine AnyH.take 6 rfl (by kernel_rfl) (by kernel_rfl) (by kernel_rfl) PF.pf rfl (pv_loadK [_, _] rfl rfl rfl ⟨rfl, rfl, trivial⟩) rfl ?_
        refine AnyH.two 7 11 (by kernel_rfl) ?_ ?_
        · refine Turn.ef rfl rfl (ef_callr (sf_get hS2 x.b) rfl rfl) ?_ ?_
          · rintro _ _ ⟨rfl, rfl⟩; infer_instance
          rintro _ _ ⟨rfl, rfl⟩
          refine AnyH.take 8 rfl (by kernel_rfl) (by kernel_rfl) (by kernel_rfl) PF.pf rfl (pv_move rfl) rfl ?_
          refine AnyH.take 9 rfl (by kernel_rfl) (by kernel_rfl) (by kernel_rfl) PF.pf rfl (pv_extract rfl rfl) rfl ?_
          refine AnyH.take 10 rfl (by kernel_rfl) (by kernel_rfl) (by kernel_rfl) PF.pf rfl (pv_extract rfl rfl) rfl ?_
          refine AnyH.one 11 (by kernel_rfl) ?_
          refine Turn.ef rfl rfl (ef_allocK tyZ24 rfl) ?_ ?_
          · rintro _ _ ⟨b8, rfl, rfl⟩; infer_instance
          rintro _ _ ⟨b8, rfl, rfl⟩
          refine AnyH.one 12 (by kernel_rfl) ?_
          refine Turn.ef rfl rfl (ef_storeK rfl rfl rfl rfl) ?_ ?_
          · rintro _ _ ⟨rfl, rfl⟩; infer_instance
          rintro _ _ ⟨rfl, rfl⟩
          refine AnyH.take 13 rfl (by kernel_rfl) (by kernel_rfl) (by kernel_rfl) PF.pf rfl (pv_assign rfl) rfl ?_
          refine AnyH.done (by kernel_rfl) ?_
          refine Ends.goes ?_
          refine Goes.back (hC0 b8 trivial) ⟨rfl, rfl, rfl, rfl, rfl, rfl, rfl, rfl, rfl, rfl, trivial⟩
        · refine Turn.ef rfl rfl (ef_allocK tyZ24 rfl) ?_ ?_
          · rintro _ _ ⟨b9, rfl, rfl⟩; infer_instance
          rintro _ _ ⟨b9, rfl, rfl⟩
          refine AnyH.one 7 (by kernel_rfl) ?_
          refine Turn.ef rfl rfl (ef_callr (sf_get hS2 x.b) rfl rfl) ?_ ?_
          · rintro _ _ ⟨rfl, rfl⟩; infer_instance
          rintro _ _ ⟨rfl, rfl⟩
          refine AnyH.take 8 rfl (by kernel_rfl) (by kernel_rfl) (by kernel_rfl) PF.pf rfl (pv_move rfl) rfl ?_
          refine AnyH.take 9 rfl (by kernel_rfl) (by kernel_rfl) (by kernel_rfl) PF.pf rfl (pv_extract rfl rfl) rfl ?_
          refine AnyH.take 10 rfl (by kernel_rfl) (by kernel_rfl) (by kernel_rfl) PF.pf rfl (pv_extract rfl rfl) rfl ?_
          refine AnyH.one 12 (by kernel_rfl) ?_
          refine Turn.ef rfl rfl (ef_storeK rfl rfl rfl rfl) ?_ ?_
          · rintro _ _ ⟨rfl, rfl⟩; infer_instance
          rintro _ _ ⟨rfl, rfl⟩
          refine AnyH.take 13 rfl (by kernel_rfl) (by kernel_rfl) (by kernel_rfl) PF.pf rfl (pv_assign rfl) rfl ?_
          refine AnyH.done (by kernel_rfl) ?_
          refine Ends.goes ?_
          refine Goes.back (hC0 b9 trivial) ⟨rfl, rfl, rfl, rfl, rfl, rfl, rfl, rfl, rfl, rfl, trivial⟩
      rintro vd _
      dsimp only [List.cons_append, List.nil_append] at ⊢
      refine Wp.seq ?_
      refine Wp.region ?_
      refine Ops.pv (pv_move rfl) rfl ?_
      refine Ops.pv (pv_move rfl) rfl ?_
      first | refine Ops.pv (pv_nilCheck rfl) rfl ?_ | refine Ops.pv (pv_nilCheck_func rfl rfl) rfl ?_
      first | refine Ops.pv (pv_fieldAddr0 rfl rfl) rfl ?_ | refine Ops.pv (pv_fieldAddr rfl rfl) rfl ?_
      first | refine Ops.pv (pv_fieldAddr0 rfl rfl) rfl ?_ | refine Ops.pv (pv_fieldAddr rfl rfl) rfl ?_
      first | refine Ops.pv (pv_load rfl rfl rfl) rfl ?_ | refine Ops.pv (pv_load rfl rfl (by assumption)) rfl ?_
      refine Ops.ef rfl (ef_call (sf_full hS2) rfl rfl) ?_
      rintro _ _ ⟨_, _, ⟨C3, hc3, rfl⟩, rfl, rfl⟩
      refine Ops.app ?_
      obtain ⟨pp3, qq3, rfl⟩ := hc3.form
      refine Ops.ef rfl (ef_callr ((tr_sameSlots (C1 ++ C3) _ _ _ _ (dfull p.l) (dfull p.l) (hc1.view.mono (by intro p hp; simp [hp])) (hc3.view.mono (by intro p hp; simp [hp])) hfl).eq (r' := .bool true) (by rw [decide_eq_true rfl])) rfl rfl) ?_
      rintro _ _ ⟨rfl, rfl⟩
      first | refine Ops.pv (pv_not_dec rfl) rfl ?_ | refine Ops.pv (pv_not rfl) rfl ?_
      refine Ops.pv (pv_move rfl) rfl ?_
      refine Ops.pvg ⟨_, _, rfl, rfl, rfl⟩ (pv_loadK [_, _, _, _, _, _] rfl rfl rfl ⟨rfl, rfl, rfl, rfl, rfl, rfl, trivial⟩) rfl ?_
      refine Ops.pvg ⟨_, _, rfl, rfl, rfl⟩ (pv_loadK [_, _, _, _, _, _] rfl rfl rfl ⟨rfl, rfl, rfl, rfl, rfl, rfl, trivial⟩) rfl ?_
      refine Ops.pvg ⟨_, _, rfl, rfl, rfl⟩ ((pv_neq_cap rfl rfl).fls (by first | exact fun h => h rfl | decide | omega | assumption)) rfl ?_
      refine Ops.pv (pv_pick_false rfl rfl) rfl ?_
      refine Ops.pv (pv_move rfl) rfl ?_
      refine Ops.pvg ⟨_, _, rfl, rfl, rfl⟩ (pv_loadK [_, _, _, _, _, _] rfl rfl rfl ⟨rfl, rfl, rfl, rfl, rfl, rfl, trivial⟩) rfl ?_
      refine Ops.pvg ⟨_, _, rfl, rfl, rfl⟩ (pv_loadK [_, _, _, _, _, _] rfl rfl rfl ⟨rfl, rfl, rfl, rfl, rfl, rfl, trivial⟩) rfl ?_
      refine Ops.pvg ⟨_, _, rfl, rfl, rfl⟩ ((pv_neq_cap rfl rfl).fls (by first | exact fun h => h rfl | decide | omega | assumption)) rfl ?_
      refine Ops.pv (pv_pick_false rfl rfl) rfl ?_
      refine Ops.pv (pv_move rfl) rfl ?_
      refine Ops.pvg ⟨_, _, rfl, rfl, rfl⟩ (pv_move rfl) rfl ?_
      refine Ops.pvg ⟨_, _, rfl, rfl, rfl⟩ (pv_move rfl) rfl ?_
      first | refine Ops.pvg ⟨_, _, rfl, rfl, rfl⟩ (pv_fieldAddr0 rfl rfl) rfl ?_ | refine Ops.pvg ⟨_, _, rfl, rfl, rfl⟩ (pv_fieldAddr rfl rfl) rfl ?_
      refine Ops.pvg ⟨_, _, rfl, rfl, rfl⟩ (pv_loadK [_, _] rfl rfl rfl ⟨rfl, rfl, trivial⟩) rfl ?_
      refine Ops.efg ⟨_, _, rfl, rfl, rfl⟩ (ef_call (tr_mKin _ cb1 _ p ⟨_, _, _, _, hS2, hT2, rfl⟩ (by omega) x.a) rfl rfl) ?_
      rintro _ _ ⟨_, _, ⟨C4, hc4, rfl⟩, rfl, rfl⟩
      refine Ops.app ?_
      obtain ⟨pp4, qq4, rfl⟩ := hc4.form
      refine Ops.efg ⟨_, _, rfl, rfl, rfl⟩ (ef_callr ((tr_sameSlots (C2 ++ C4) _ _ _ _ (ftKin p.F x.a) (ftKin p.F x.a) (hc2.view.mono (by intro p hp; simp [hp])) (hc4.view.mono (by intro p hp; simp [hp])) hkl).eq (r' := .bool true) (by rw [decide_eq_true rfl])) rfl rfl) ?_
      rintro _ _ ⟨rfl, rfl⟩
      first | refine Ops.pvg ⟨_, _, rfl, rfl, rfl⟩ (pv_not_dec rfl) rfl ?_ | refine Ops.pvg ⟨_, _, rfl, rfl, rfl⟩ (pv_not rfl) rfl ?_
      refine Ops.pv (pv_pick_false rfl rfl) rfl ?_
      refine Ops.nil ?_
      refine Ends.seq ?_
      refine Wp.cond_false rfl ?_
      refine Wp.skip ?_
      refine Ends.block_normal ?_
      refine Ends.seq ?_
      refine Wp.region ?_
      refine Ops.pv (pv_move rfl) rfl ?_
      first | refine Ops.pv (pv_add rfl rfl (w64 (by omega) (by omega))) rfl ?_ | refine Ops.pv (pv_add rfl rfl rfl) rfl ?_
      refine Ops.pv (pv_assign rfl) rfl ?_
      refine Ops.nil ?_
      refine Ends.goes ?_
      refine Goes.back (hK (i + 1, p, sb2, tb2, Ls2, Lt2) ⟨by dsimp only; omega, by dsimp only; omega, hS2, hT2⟩ (by dsimp only; omega)) ⟨rfl, rfl, rfl, trivial⟩
  · refine Wp.exit ?_
    refine Ends.then_exit ?_
    refine Ends.then_exit ?_
    refine Ends.block_hit ?_
    refine Ends.seq ?_
    refine Wp.seq ?_
    refine Wp.region ?_
    refine Ops.pv (pv_assign rfl) rfl ?_
    refine Ops.nil ?_
    refine Ends.seq ?_
    refine Wp.ret ?_
    exact Ends.ret (res1 rfl rfl) ⟨rfl, rfl⟩

end Go.Proofs.Ytdodfnjmkpgdbaa
