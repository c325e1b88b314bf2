/- Walks of layer 10: MovesBack. No condition. -/
import Derived.Test.YtdodfnjmkpgdbaaM10d
import Derived.Test.YtdodfnjmkpgdbaaW10c
set_option linter.unusedVariables false
set_option linter.unusedSimpArgs false
namespace Go.Proofs.Ytdodfnjmkpgdbaa
open Go.SL

set_option maxHeartbeats 16000000 in
theorem tr_movesBack (x y : CapM) (r : Int) : TrR Try.prog 3 [x.v, y.v, .int .i64 r] ([]) (.bool true) := by
  refine Tr.enter Try.func3 rfl Try.ntmps3 rfl (fun W F => ?_)
  refine Wp.app ?_
  refine Wp.seq ?_
  refine Wp.region ?_
  refine Ops.ef rfl (ef_boxK rfl rfl) ?_
  rintro _ _ ⟨b1, rfl, rfl⟩
  refine Ops.ef rfl (ef_boxK rfl rfl) ?_
  rintro _ _ ⟨b2, rfl, rfl⟩
  refine Ops.pv (pv_assign rfl) rfl ?_
  refine Ops.nil ?_
  refine Ends.seq ?_
  refine Wp.seq ?_
  refine Wp.seq ?_
  refine Wp.region ?_
  refine Ops.ef rfl (ef_callr (tr_mworks) rfl rfl) ?_
  rintro _ _ ⟨rfl, rfl⟩
  first | refine Ops.pv (pv_not_dec rfl) rfl ?_ | refine Ops.pv (pv_not rfl) rfl ?_
  refine Ops.nil ?_
  refine Ends.seq ?_
  refine Wp.cond_false rfl ?_
  refine Wp.skip ?_
  refine Ends.seq ?_
  refine Wp.seq ?_
  refine Wp.region ?_
  refine Ops.ef rfl (ef_call (tr_mNew) rfl rfl) ?_
  rintro _ _ ⟨_, _, ⟨cb1, rfl, sb2, tb2, Ls2, Lt2, hS2, hT2, rfl⟩, rfl, rfl⟩
  refine Ops.app ?_
  refine Ops.pv (pv_assign rfl) rfl ?_
  refine Ops.nil ?_
  refine Ends.seq ?_
  refine Wp.seq ?_
  refine Wp.region ?_
  refine Ops.pv (pv_move rfl) rfl ?_
  first | refine Ops.pv (pv_nilCheck rfl) rfl ?_ | refine Ops.pv (pv_nilCheck_func rfl rfl) rfl ?_
  first | refine Ops.pv (pv_fieldAddr0 rfl rfl) rfl ?_ | refine Ops.pv (pv_fieldAddr rfl rfl) rfl ?_
  refine Ops.pv (pv_loadK [_] rfl rfl rfl ⟨rfl, trivial⟩) rfl ?_
  refine Ops.ef rfl (ef_call (tr_smNode _ sb2 Ls2 hS2 0 3) rfl rfl) ?_
  rintro _ _ ⟨_, Q1, ⟨rfl, hS3⟩, rfl, rfl⟩
  refine Ops.app ?_
  have hS4 : StF (mNode PS.new 0 3).2.l _ _ := hS3
  rw [q8_new] at hS4
  refine Ops.nil ?_
  refine Ends.seq ?_
  refine Wp.seq ?_
  refine Wp.seq ?_
  refine AnyH.start ((b1, .cells x.cells.toArray 24) :: (b2, .cells y.cells.toArray 24) :: []) 12 rfl ?_
  refine AnyH.take 0 rfl (by kernel_rfl) (by kernel_rfl) (by kernel_rfl) PF.pf rfl (pv_move rfl) rfl ?_
  refine AnyH.take 2 rfl (by kernel_rfl) (by kernel_rfl) (by kernel_rfl) PF.pf rfl (pv_loadK [_, _, _, _, _, _] rfl rfl rfl ⟨rfl, rfl, rfl, rfl, rfl, rfl, trivial⟩) rfl ?_
  refine AnyH.one 1 (by kernel_rfl) ?_
  refine Turn.ef rfl rfl (ef_callr (tr_mslot _) rfl rfl) ?_ ?_
  · rintro _ _ ⟨rfl, rfl⟩; infer_instance
  rintro _ _ ⟨rfl, rfl⟩
  refine AnyH.one 3 (by kernel_rfl) ?_
  refine Turn.ef rfl rfl (ef_call (tr_mPlant _ cb1 _ (q8 zc zc zc zc zc .nil) ⟨_, _, _, _, hS4, hT2, rfl⟩ (0, 0) x) rfl rfl) ?_ ?_
  · rintro _ _ ⟨_, _, ⟨rfl, sb2, tb2, Ls2, Lt2, hS2, hT2, rfl⟩, rfl, rfl⟩; infer_instance
  rintro _ _ ⟨_, _, ⟨rfl, sb2, tb2, Ls2, Lt2, hS2, hT2, rfl⟩, rfl, rfl⟩
  refine AnyH.app ?_
  refine AnyH.take 4 rfl (by kernel_rfl) (by kernel_rfl) (by kernel_rfl) PF.pf rfl (pv_neq rfl rfl) rfl ?_
  refine AnyH.take 5 rfl (by kernel_rfl) (by kernel_rfl) (by kernel_rfl) PF.pf rfl (pv_move rfl) rfl ?_
  refine AnyH.split (t := 30) rfl (fun h1 => ?_) (fun h1 => ?_)
  · refine AnyH.skip 6 rfl (by kernel_rfl) (by kernel_rfl) (by kernel_rfl) PF.pf ⟨_, _, rfl, rfl, rfl⟩ rfl ?_
    refine AnyH.skip 7 rfl (by kernel_rfl) (by kernel_rfl) (by kernel_rfl) PF.pf ⟨_, _, rfl, rfl, rfl⟩ rfl ?_
    refine AnyH.skip 8 rfl (by kernel_rfl) (by kernel_rfl) (by kernel_rfl) PF.pf ⟨_, _, rfl, rfl, rfl⟩ rfl ?_
    refine AnyH.skip 9 rfl (by kernel_rfl) (by kernel_rfl) (by kernel_rfl) PF.pf ⟨_, _, rfl, rfl, rfl⟩ rfl ?_
    refine AnyH.skip 10 rfl (by kernel_rfl) (by kernel_rfl) (by kernel_rfl) PF.pf ⟨_, _, rfl, rfl, rfl⟩ rfl ?_
    refine AnyH.take 11 rfl (by kernel_rfl) (by kernel_rfl) (by kernel_rfl) PF.pf rfl (pv_pick_true rfl rfl) rfl ?_
    refine AnyH.done (by kernel_rfl) ?_
    refine Ends.seq ?_
    refine Wp.cond_true rfl ?_
    refine Wp.seq ?_
    refine Wp.region ?_
    refine Ops.pv (pv_assign rfl) rfl ?_
    refine Ops.nil ?_
    refine Ends.seq ?_
    refine Wp.ret ?_
    refine Ends.then_ret ?_
    exact Ends.ret (res1 rfl rfl) ⟨rfl, rfl⟩
  · obtain ⟨hx1, hx2, e1⟩ := mb_plant1 (Decidable.not_not.1 h1)
    rw [e1] at hS2 hT2
    refine AnyH.take 6 rfl (by kernel_rfl) (by kernel_rfl) (by kernel_rfl) PF.pf ⟨_, _, rfl, rfl, rfl⟩ (pv_move rfl) rfl ?_
    refine AnyH.take 8 rfl (by kernel_rfl) (by kernel_rfl) (by kernel_rfl) PF.pf ⟨_, _, rfl, rfl, rfl⟩ (pv_loadK [_, _, _, _, _, _] rfl rfl rfl ⟨rfl, rfl, rfl, rfl, rfl, rfl, trivial⟩) rfl ?_
    refine AnyH.one 7 (by kernel_rfl) ?_
    refine Turn.ef rfl ⟨_, _, rfl, rfl, rfl⟩ (ef_callr (tr_mslot _) rfl rfl) ?_ ?_
    · rintro _ _ ⟨rfl, rfl⟩; infer_instance
    rintro _ _ ⟨rfl, rfl⟩
    refine AnyH.one 9 (by kernel_rfl) ?_
    refine Turn.ef rfl ⟨_, _, rfl, rfl, rfl⟩ (ef_call (tr_mPlant _ cb1 _ (q8 x zc zc zc zc (.one (0, 0))) ⟨_, _, _, _, hS2, hT2, rfl⟩ (0, 1) y) rfl rfl) ?_ ?_
    · rintro _ _ ⟨_, _, ⟨rfl, sb2, tb2, Ls2, Lt2, hS2, hT2, rfl⟩, rfl, rfl⟩; infer_instance
    rintro _ _ ⟨_, _, ⟨rfl, sb2, tb2, Ls2, Lt2, hS2, hT2, rfl⟩, rfl, rfl⟩
    refine AnyH.app ?_
    refine AnyH.take 10 rfl (by kernel_rfl) (by kernel_rfl) (by kernel_rfl) PF.pf ⟨_, _, rfl, rfl, rfl⟩ (pv_neq rfl rfl) rfl ?_
    refine AnyH.take 11 rfl (by kernel_rfl) (by kernel_rfl) (by kernel_rfl) PF.pf rfl (pv_pick_false rfl rfl) rfl ?_
    refine AnyH.done (by kernel_rfl) ?_
    refine Ends.seq ?_
    first | refine Wp.cond_dect rfl (fun h2 => ?_) (fun h2 => ?_) | refine Wp.cond_t rfl (fun h2 => ?_) (fun h2 => ?_)
    · refine Wp.seq ?_
      refine Wp.region ?_
      refine Ops.pv (pv_assign rfl) rfl ?_
      refine Ops.nil ?_
      refine Ends.seq ?_
      refine Wp.ret ?_
      refine Ends.then_ret ?_
      exact Ends.ret (res1 rfl rfl) ⟨rfl, rfl⟩
    · obtain ⟨hy1, hy2, e2⟩ := mb_plant2 (Decidable.not_not.1 h2)
      rw [e2] at hS2 hT2
      refine Wp.skip ?_
      refine Ends.seq ?_
      refine Wp.seq ?_
      refine Wp.region ?_
      refine Ops.pv (pv_move rfl) rfl ?_
      refine Ops.ef rfl (ef_callr (tr_mslot _) rfl rfl) ?_
      rintro _ _ ⟨rfl, rfl⟩
      refine Ops.ef rfl (ef_callr (tr_mslot _) rfl rfl) ?_
      rintro _ _ ⟨rfl, rfl⟩
      refine Ops.pv (pv_move rfl) rfl ?_
      refine Ops.ef rfl (ef_call (tr_mCopy _ cb1 _ (q8 x y zc zc zc (.cons (0, 0) .nil (.one (0, 1)))) ⟨_, _, _, _, hS2, hT2, rfl⟩ (by omega) (0, 0) (0, 2) r) rfl rfl) ?_
      rintro _ _ ⟨_, _, ⟨rfl, sb2, tb2, Ls2, Lt2, hS2, hT2, rfl⟩, rfl, rfl⟩
      refine Ops.app ?_
      obtain ⟨w, K0, hK, e3⟩ := mb_copy (y := y) hx2 r
      rw [e3] at hS2 hT2
      have hKl : K0.all.length ≤ 2 ^ 40 := by rcases hK with rfl | rfl <;> decide
      refine Ops.nil ?_
      refine Ends.seq ?_
      refine Wp.seq ?_
      refine Wp.region ?_
      refine Ops.pv (pv_move rfl) rfl ?_
      refine Ops.ef rfl (ef_callr (tr_mslot _) rfl rfl) ?_
      rintro _ _ ⟨rfl, rfl⟩
      refine Ops.ef rfl (ef_call (tr_mKin _ cb1 _ (q8 x y w zc zc (.cons (0, 0) K0 (.one (0, 1)))) ⟨_, _, _, _, hS2, hT2, rfl⟩ (by omega) (0, 0)) rfl rfl) ?_
      rintro _ _ ⟨_, _, ⟨C1, hc1, rfl⟩, rfl, rfl⟩
      refine Ops.app ?_
      have hkk : ftKin (q8 x y w zc zc (.cons (0, 0) K0 (.one (0, 1)))).F (0, 0) = K0.all := mb_kin (0, 0)
      rw [hkk] at hc1
      obtain ⟨pp1, qq1, rfl⟩ := hc1.form
      refine Ops.pv (pv_assign rfl) rfl ?_
      refine Ops.nil ?_
      refine Ends.seq ?_
      refine Wp.seq ?_
      refine Wp.seq ?_
      refine Wp.region ?_
      refine Ops.pv (pv_move rfl) rfl ?_
      refine Ops.ef rfl (ef_callr (tr_mslot _) rfl rfl) ?_
      rintro _ _ ⟨rfl, rfl⟩
      refine Ops.ef rfl (ef_callr (tr_mslot _) rfl rfl) ?_
      rintro _ _ ⟨rfl, rfl⟩
      refine Ops.ef rfl (ef_call ((tr_mMove _ cb1 _ (q8 x y w zc zc (.cons (0, 0) K0 (.one (0, 1)))) ⟨_, _, _, _, hS2, hT2, rfl⟩ (0, 0) (0, 5)).mono (R' := fun u L' => u = .int .i64 0 ∧ CapsH _ (q8 zc y w x zc (.cons (0, 5) K0 (.one (0, 1)))) cb1 L') (by intro u L' h; rw [mb_move1 hx2 hx1 hK] at h; exact h)) rfl rfl) ?_
      rintro _ _ ⟨_, _, ⟨rfl, sb2, tb2, Ls2, Lt2, hS2, hT2, rfl⟩, rfl, rfl⟩
      refine Ops.app ?_
      refine Ops.pv ((pv_neq rfl rfl).fls (by first | exact fun h => h rfl | decide | omega | assumption)) rfl ?_
      refine Ops.pv (pv_move rfl) rfl ?_
      refine Ops.pvg ⟨_, _, rfl, rfl, rfl⟩ (pv_move rfl) rfl ?_
      refine Ops.efg ⟨_, _, rfl, rfl, rfl⟩ (ef_callr (tr_mslot _) rfl rfl) ?_
      rintro _ _ ⟨rfl, rfl⟩
      refine Ops.efg ⟨_, _, rfl, rfl, rfl⟩ (ef_callr (tr_mslot _) rfl rfl) ?_
      rintro _ _ ⟨rfl, rfl⟩
      refine Ops.efg ⟨_, _, rfl, rfl, rfl⟩ (ef_call ((tr_mMove _ cb1 _ (q8 zc y w x zc (.cons (0, 5) K0 (.one (0, 1)))) ⟨_, _, _, _, hS2, hT2, rfl⟩ (0, 5) (0, 0)).mono (R' := fun u L' => u = .int .i64 0 ∧ CapsH _ (q8 x y w zc zc (.cons (0, 0) K0 (.one (0, 1)))) cb1 L') (by intro u L' h; rw [mb_move2 hx2 hx1 hK] at h; exact h)) rfl rfl) ?_
      rintro _ _ ⟨_, _, ⟨rfl, sb2, tb2, Ls2, Lt2, hS2, hT2, rfl⟩, rfl, rfl⟩
      refine Ops.app ?_
      refine Ops.pvg ⟨_, _, rfl, rfl, rfl⟩ ((pv_neq rfl rfl).fls (by first | exact fun h => h rfl | decide | omega | assumption)) rfl ?_
      refine Ops.pv (pv_pick_false rfl rfl) rfl ?_
      refine Ops.nil ?_
      refine Ends.seq ?_
      refine Wp.cond_false rfl ?_
      refine Wp.skip ?_
      refine Ends.seq ?_
      refine Wp.cutK (σ := Nat) [(3, _), (4, _), (7, _), (8, _)] (fun s => [(9, .pointer (some ⟨s, 0, none⟩))]) (fun s => (s, .cells x.cells.toArray 24) :: (C1 ++ (cBlk cb1 sb2 tb2 :: (Ls2 ++ (Lt2 ++ ((b1, .cells x.cells.toArray 24) :: (b2, .cells y.cells.toArray 24) :: F)))))) (fun s => True) ⟨rfl, rfl, rfl, rfl, trivial⟩ (fun _ KK hC0 => ?_) ?_
      · dsimp only [List.cons_append, List.nil_append] at hC0
        refine AnyH.start (cBlk cb1 sb2 tb2 :: []) 13 rfl ?_
        refine AnyH.take 0 rfl (by kernel_rfl) (by kernel_rfl) (by kernel_rfl) PF.pf rfl (pv_move rfl) rfl ?_
        first | refine AnyH.take 1 rfl (by kernel_rfl) (by kernel_rfl) (by kernel_rfl) PF.pf rfl (pv_nilCheck rfl) rfl ?_ | refine AnyH.take 1 rfl (by kernel_rfl) (by kernel_rfl) (by kernel_rfl) PF.pf rfl (pv_nilCheck_func rfl rfl) rfl ?_
        first | refine AnyH.take 2 rfl (by kernel_rfl) (by kernel_rfl) (by kernel_rfl) PF.pf rfl (pv_fieldAddr0 rfl rfl) rfl ?_ | refine AnyH.take 2 rfl (by kernel_rfl) (by kernel_rfl) (by kernel_rfl) PF.pf rfl (pv_fieldAddr rfl rfl) rfl ?_
        first | refine AnyH.take 3 rfl (by kernel_rfl) (by kernel_rfl) (by kernel_rfl) PF.pf rfl (pv_fieldAddr0 rfl rfl) rfl ?_ | refine AnyH.take 3 rfl (by kernel_rfl) (by kernel_rfl) (by kernel_rfl) PF.pf rfl (pv_fieldAddr rfl rfl) rfl ?_
        first | refine AnyH.take 4 rfl (by kernel_rfl) (by kernel_rfl) (by kernel_rfl) PF.pf rfl (pv_load rfl rfl rfl) rfl ?_ | refine AnyH.take 4 rfl (by kernel_rfl) (by kernel_rfl) (by kernel_rfl) PF.pf rfl (pv_load rfl rfl (by assumption)) rfl ?_
        refine AnyH.two 5 10 (by kernel_rfl) ?_ ?_
        · refine Turn.ef rfl rfl (ef_callr (tr_mslot _) rfl rfl) ?_ ?_
          · rintro _ _ ⟨rfl, rfl⟩; infer_instance
          rintro _ _ ⟨rfl, rfl⟩
          refine AnyH.two 6 10 (by kernel_rfl) ?_ ?_
          · refine Turn.ef rfl rfl (ef_callr ((sf_get (l := (q8 x y w zc zc (.cons (0, 0) K0 (.one (0, 1)))).l) hS2 (0, 0)).eq (by rw [q8_get0])) rfl rfl) ?_ ?_
            · rintro _ _ ⟨rfl, rfl⟩; infer_instance
            rintro _ _ ⟨rfl, rfl⟩
            refine AnyH.take 7 rfl (by kernel_rfl) (by kernel_rfl) (by kernel_rfl) PF.pf rfl (pv_move rfl) rfl ?_
            refine AnyH.take 8 rfl (by kernel_rfl) (by kernel_rfl) (by kernel_rfl) PF.pf rfl (pv_extract rfl rfl) rfl ?_
            refine AnyH.take 9 rfl (by kernel_rfl) (by kernel_rfl) (by kernel_rfl) PF.pf rfl (pv_extract rfl rfl) rfl ?_
            refine AnyH.one 10 (by kernel_rfl) ?_
            refine Turn.ef rfl rfl (ef_allocK tyZ24 rfl) ?_ ?_
            · rintro _ _ ⟨b3, rfl, rfl⟩; infer_instance
            rintro _ _ ⟨b3, rfl, rfl⟩
            refine AnyH.one 11 (by kernel_rfl) ?_
            refine Turn.ef rfl rfl (ef_storeK rfl rfl rfl rfl) ?_ ?_
            · rintro _ _ ⟨rfl, rfl⟩; infer_instance
            rintro _ _ ⟨rfl, rfl⟩
            refine AnyH.take 12 rfl (by kernel_rfl) (by kernel_rfl) (by kernel_rfl) PF.pf rfl (pv_assign rfl) rfl ?_
            refine AnyH.done (by kernel_rfl) ?_
            refine Ends.goes ?_
            refine Goes.back (hC0 b3 trivial) ⟨rfl, rfl, rfl, rfl, rfl, trivial⟩
          · refine Turn.ef rfl rfl (ef_allocK tyZ24 rfl) ?_ ?_
            · rintro _ _ ⟨b4, rfl, rfl⟩; infer_instance
            rintro _ _ ⟨b4, rfl, rfl⟩
            refine AnyH.one 6 (by kernel_rfl) ?_
            refine Turn.ef rfl rfl (ef_callr ((sf_get (l := (q8 x y w zc zc (.cons (0, 0) K0 (.one (0, 1)))).l) hS2 (0, 0)).eq (by rw [q8_get0])) rfl rfl) ?_ ?_
            · rintro _ _ ⟨rfl, rfl⟩; infer_instance
            rintro _ _ ⟨rfl, rfl⟩
            refine AnyH.take 7 rfl (by kernel_rfl) (by kernel_rfl) (by kernel_rfl) PF.pf rfl (pv_move rfl) rfl ?_
            refine AnyH.take 8 rfl (by kernel_rfl) (by kernel_rfl) (by kernel_rfl) PF.pf rfl (pv_extract rfl rfl) rfl ?_
            refine AnyH.take 9 rfl (by kernel_rfl) (by kernel_rfl) (by kernel_rfl) PF.pf rfl (pv_extract rfl rfl) rfl ?_
            refine AnyH.one 11 (by kernel_rfl) ?_
            refine Turn.ef rfl rfl (ef_storeK rfl rfl rfl rfl) ?_ ?_
            · rintro _ _ ⟨rfl, rfl⟩; infer_instance
            rintro _ _ ⟨rfl, rfl⟩
            refine AnyH.take 12 rfl (by kernel_rfl) (by kernel_rfl) (by kernel_rfl) PF.pf rfl (pv_assign rfl) rfl ?_
            refine AnyH.done (by kernel_rfl) ?_
            refine Ends.goes ?_
            refine Goes.back (hC0 b4 trivial) ⟨rfl, rfl, rfl, rfl, rfl, trivial⟩
        · refine Turn.ef rfl rfl (ef_allocK tyZ24 rfl) ?_ ?_
          · rintro _ _ ⟨b5, rfl, rfl⟩; infer_instance
          rintro _ _ ⟨b5, rfl, rfl⟩
          refine AnyH.one 5 (by kernel_rfl) ?_
          refine Turn.ef rfl rfl (ef_callr (tr_mslot _) rfl rfl) ?_ ?_
          · rintro _ _ ⟨rfl, rfl⟩; infer_instance
          rintro _ _ ⟨rfl, rfl⟩
          refine AnyH.one 6 (by kernel_rfl) ?_
          refine Turn.ef rfl rfl (ef_callr ((sf_get (l := (q8 x y w zc zc (.cons (0, 0) K0 (.one (0, 1)))).l) hS2 (0, 0)).eq (by rw [q8_get0])) rfl rfl) ?_ ?_
          · rintro _ _ ⟨rfl, rfl⟩; infer_instance
          rintro _ _ ⟨rfl, rfl⟩
          refine AnyH.take 7 rfl (by kernel_rfl) (by kernel_rfl) (by kernel_rfl) PF.pf rfl (pv_move rfl) rfl ?_
          refine AnyH.take 8 rfl (by kernel_rfl) (by kernel_rfl) (by kernel_rfl) PF.pf rfl (pv_extract rfl rfl) rfl ?_
          refine AnyH.take 9 rfl (by kernel_rfl) (by kernel_rfl) (by kernel_rfl) PF.pf rfl (pv_extract rfl rfl) rfl ?_
          refine AnyH.one 11 (by kernel_rfl) ?_
          refine Turn.ef rfl rfl (ef_storeK rfl rfl rfl rfl) ?_ ?_
          · rintro _ _ ⟨rfl, rfl⟩; infer_instance
          rintro _ _ ⟨rfl, rfl⟩
          refine AnyH.take 12 rfl (by kernel_rfl) (by kernel_rfl) (by kernel_rfl) PF.pf rfl (pv_assign rfl) rfl ?_
          refine AnyH.done (by kernel_rfl) ?_
          refine Ends.goes ?_
          refine Goes.back (hC0 b5 trivial) ⟨rfl, rfl, rfl, rfl, rfl, trivial⟩
      rintro va _
      dsimp only [List.cons_append, List.nil_append] at ⊢
      refine Wp.seq ?_
      refine Wp.seq ?_
      refine Wp.region ?_
      refine Ops.pv (pv_loadK [_, _, _, _, _, _] rfl rfl rfl ⟨rfl, rfl, rfl, rfl, rfl, rfl, trivial⟩) rfl ?_
      refine Ops.pv (pv_loadK [_, _, _, _, _, _] rfl rfl rfl ⟨rfl, rfl, rfl, rfl, rfl, rfl, trivial⟩) rfl ?_
      refine Ops.pv ((pv_neq_cap (a := x) (b := x) rfl rfl).fls (fun h => h rfl)) rfl ?_
      refine Ops.pv (pv_move rfl) rfl ?_
      refine Ops.pvg ⟨_, _, rfl, rfl, rfl⟩ (pv_move rfl) rfl ?_
      refine Ops.efg ⟨_, _, rfl, rfl, rfl⟩ (ef_callr (tr_mslot _) rfl rfl) ?_
      rintro _ _ ⟨rfl, rfl⟩
      refine Ops.efg ⟨_, _, rfl, rfl, rfl⟩ (ef_call (tr_mKin _ cb1 _ (q8 x y w zc zc (.cons (0, 0) K0 (.one (0, 1)))) ⟨_, _, _, _, hS2, hT2, rfl⟩ (by omega) (0, 0)) rfl rfl) ?_
      rintro _ _ ⟨_, _, ⟨C2, hc2, rfl⟩, rfl, rfl⟩
      refine Ops.app ?_
      have hkk : ftKin (q8 x y w zc zc (.cons (0, 0) K0 (.one (0, 1)))).F (0, 0) = K0.all := mb_kin (0, 0)
      rw [hkk] at hc2
      obtain ⟨pp2, qq2, rfl⟩ := hc2.form
      refine Ops.pvg ⟨_, _, rfl, rfl, rfl⟩ (pv_move rfl) rfl ?_
      refine Ops.efg ⟨_, _, rfl, rfl, rfl⟩ (ef_callr ((tr_sameSlots (C1 ++ C2) _ _ _ _ K0.all K0.all (hc2.view.mono (by intro p hp; simp [hp])) (hc1.view.mono (by intro p hp; simp [hp])) hKl).eq (r' := .bool true) (by rw [decide_eq_true rfl])) rfl rfl) ?_
      rintro _ _ ⟨rfl, rfl⟩
      first | refine Ops.pvg ⟨_, _, rfl, rfl, rfl⟩ (pv_not_dec rfl) rfl ?_ | refine Ops.pvg ⟨_, _, rfl, rfl, rfl⟩ (pv_not rfl) rfl ?_
      refine Ops.pv (pv_pick_false rfl rfl) rfl ?_
      refine Ops.nil ?_
      refine Ends.seq ?_
      refine Wp.cond_false rfl ?_
      refine Wp.skip ?_
      refine Ends.seq ?_
      refine Wp.seq ?_
      refine Wp.seq ?_
      refine Wp.region ?_
      refine Ops.pv (pv_move rfl) rfl ?_
      refine Ops.ef rfl (ef_callr (tr_mslot _) rfl rfl) ?_
      rintro _ _ ⟨rfl, rfl⟩
      refine Ops.ef rfl (ef_callr (tr_mslot _) rfl rfl) ?_
      rintro _ _ ⟨rfl, rfl⟩
      refine Ops.ef rfl (ef_callr (tr_mslot _) rfl rfl) ?_
      rintro _ _ ⟨rfl, rfl⟩
      refine Ops.ef rfl (ef_call ((tr_mRotate _ cb1 _ (q8 x y w zc zc (.cons (0, 0) K0 (.one (0, 1)))) ⟨_, _, _, _, hS2, hT2, rfl⟩ (0, 0) (0, 1) (0, 0)).mono (R' := fun u L' => u = .int .i64 0 ∧ CapsH _ (q8 y x w zc zc (.cons (0, 1) K0 (.one (0, 0)))) cb1 L') (by intro u L' h; rw [mb_rot1 hx2 hx1 hK hy2 hy1] at h; exact h)) rfl rfl) ?_
      rintro _ _ ⟨_, _, ⟨rfl, sb2, tb2, Ls2, Lt2, hS2, hT2, rfl⟩, rfl, rfl⟩
      refine Ops.app ?_
      refine Ops.pv ((pv_neq rfl rfl).fls (by first | exact fun h => h rfl | decide | omega | assumption)) rfl ?_
      refine Ops.nil ?_
      refine Ends.seq ?_
      refine Wp.cond_false rfl ?_
      refine Wp.skip ?_
      refine Ends.seq ?_
      refine Wp.cutK (σ := Nat) [(3, _), (4, _), (7, _), (8, _)] (fun s => [(11, .pointer (some ⟨s, 0, none⟩))]) (fun s => (s, .cells y.cells.toArray 24) :: (C1 ++ (cBlk cb1 sb2 tb2 :: (Ls2 ++ (Lt2 ++ ((b1, .cells x.cells.toArray 24) :: (b2, .cells y.cells.toArray 24) :: F)))))) (fun s => True) ⟨rfl, rfl, rfl, rfl, trivial⟩ (fun _ KK hC0 => ?_) ?_
      · dsimp only [List.cons_append, List.nil_append] at hC0
        refine AnyH.start (cBlk cb1 sb2 tb2 :: []) 13 rfl ?_
        refine AnyH.take 0 rfl (by kernel_rfl) (by kernel_rfl) (by kernel_rfl) PF.pf rfl (pv_move rfl) rfl ?_
        first | refine AnyH.take 1 rfl (by kernel_rfl) (by kernel_rfl) (by kernel_rfl) PF.pf rfl (pv_nilCheck rfl) rfl ?_ | refine AnyH.take 1 rfl (by kernel_rfl) (by kernel_rfl) (by kernel_rfl) PF.pf rfl (pv_nilCheck_func rfl rfl) rfl ?_
        first | refine AnyH.take 2 rfl (by kernel_rfl) (by kernel_rfl) (by kernel_rfl) PF.pf rfl (pv_fieldAddr0 rfl rfl) rfl ?_ | refine AnyH.take 2 rfl (by kernel_rfl) (by kernel_rfl) (by kernel_rfl) PF.pf rfl (pv_fieldAddr rfl rfl) rfl ?_
        first | refine AnyH.take 3 rfl (by kernel_rfl) (by kernel_rfl) (by kernel_rfl) PF.pf rfl (pv_fieldAddr0 rfl rfl) rfl ?_ | refine AnyH.take 3 rfl (by kernel_rfl) (by kernel_rfl) (by kernel_rfl) PF.pf rfl (pv_fieldAddr rfl rfl) rfl ?_
        first | refine AnyH.take 4 rfl (by kernel_rfl) (by kernel_rfl) (by kernel_rfl) PF.pf rfl (pv_load rfl rfl rfl) rfl ?_ | refine AnyH.take 4 rfl (by kernel_rfl) (by kernel_rfl) (by kernel_rfl) PF.pf rfl (pv_load rfl rfl (by assumption)) rfl ?_
        refine AnyH.two 5 10 (by kernel_rfl) ?_ ?_
        · refine Turn.ef rfl rfl (ef_callr (tr_mslot _) rfl rfl) ?_ ?_
          · rintro _ _ ⟨rfl, rfl⟩; infer_instance
          rintro _ _ ⟨rfl, rfl⟩
          refine AnyH.two 6 10 (by kernel_rfl) ?_ ?_
          · refine Turn.ef rfl rfl (ef_callr ((sf_get (l := (q8 y x w zc zc (.cons (0, 1) K0 (.one (0, 0)))).l) hS2 (0, 0)).eq (by rw [q8_get0])) rfl rfl) ?_ ?_
            · rintro _ _ ⟨rfl, rfl⟩; infer_instance
            rintro _ _ ⟨rfl, rfl⟩
            refine AnyH.take 7 rfl (by kernel_rfl) (by kernel_rfl) (by kernel_rfl) PF.pf rfl (pv_move rfl) rfl ?_
            refine AnyH.take 8 rfl (by kernel_rfl) (by kernel_rfl) (by kernel_rfl) PF.pf rfl (pv_extract rfl rfl) rfl ?_
            refine AnyH.take 9 rfl (by kernel_rfl) (by kernel_rfl) (by kernel_rfl) PF.pf rfl (pv_extract rfl rfl) rfl ?_
            refine AnyH.one 10 (by kernel_rfl) ?_
            refine Turn.ef rfl rfl (ef_allocK tyZ24 rfl) ?_ ?_
            · rintro _ _ ⟨b6, rfl, rfl⟩; infer_instance
            rintro _ _ ⟨b6, rfl, rfl⟩
            refine AnyH.one 11 (by kernel_rfl) ?_
            refine Turn.ef rfl rfl (ef_storeK rfl rfl rfl rfl) ?_ ?_
            · rintro _ _ ⟨rfl, rfl⟩; infer_instance
            rintro _ _ ⟨rfl, rfl⟩
            refine AnyH.take 12 rfl (by kernel_rfl) (by kernel_rfl) (by kernel_rfl) PF.pf rfl (pv_assign rfl) rfl ?_
            refine AnyH.done (by kernel_rfl) ?_
            refine Ends.goes ?_
            refine Goes.back (hC0 b6 trivial) ⟨rfl, rfl, rfl, rfl, rfl, trivial⟩
          · refine Turn.ef rfl rfl (ef_allocK tyZ24 rfl) ?_ ?_
            · rintro _ _ ⟨b7, rfl, rfl⟩; infer_instance
            rintro _ _ ⟨b7, rfl, rfl⟩
            refine AnyH.one 6 (by kernel_rfl) ?_
            refine Turn.ef rfl rfl (ef_callr ((sf_get (l := (q8 y x w zc zc (.cons (0, 1) K0 (.one (0, 0)))).l) hS2 (0, 0)).eq (by rw [q8_get0])) rfl rfl) ?_ ?_
            · rintro _ _ ⟨rfl, rfl⟩; infer_instance
            rintro _ _ ⟨rfl, rfl⟩
            refine AnyH.take 7 rfl (by kernel_rfl) (by kernel_rfl) (by kernel_rfl) PF.pf rfl (pv_move rfl) rfl ?_
            refine AnyH.take 8 rfl (by kernel_rfl) (by kernel_rfl) (by kernel_rfl) PF.pf rfl (pv_extract rfl rfl) rfl ?_
            refine AnyH.take 9 rfl (by kernel_rfl) (by kernel_rfl) (by kernel_rfl) PF.pf rfl (pv_extract rfl rfl) rfl ?_
            refine AnyH.one 11 (by kernel_rfl) ?_
            refine Turn.ef rfl rfl (ef_storeK rfl rfl rfl rfl) ?_ ?_
            · rintro _ _ ⟨rfl, rfl⟩; infer_instance
            rintro _ _ ⟨rfl, rfl⟩
            refine AnyH.take 12 rfl (by kernel_rfl) (by kernel_rfl) (by kernel_rfl) PF.pf rfl (pv_assign rfl) rfl ?_
            refine AnyH.done (by kernel_rfl) ?_
            refine Ends.goes ?_
            refine Goes.back (hC0 b7 trivial) ⟨rfl, rfl, rfl, rfl, rfl, trivial⟩
        · refine Turn.ef rfl rfl (ef_allocK tyZ24 rfl) ?_ ?_
          · rintro _ _ ⟨b8, rfl, rfl⟩; infer_instance
          rintro _ _ ⟨b8, rfl, rfl⟩
          refine AnyH.one 5 (by kernel_rfl) ?_
          refine Turn.ef rfl rfl (ef_callr (tr_mslot _) rfl rfl) ?_ ?_
          · rintro _ _ ⟨rfl, rfl⟩; infer_instance
          rintro _ _ ⟨rfl, rfl⟩
          refine AnyH.one 6 (by kernel_rfl) ?_
          refine Turn.ef rfl rfl (ef_callr ((sf_get (l := (q8 y x w zc zc (.cons (0, 1) K0 (.one (0, 0)))).l) hS2 (0, 0)).eq (by rw [q8_get0])) rfl rfl) ?_ ?_
          · rintro _ _ ⟨rfl, rfl⟩; infer_instance
          rintro _ _ ⟨rfl, rfl⟩
          refine AnyH.take 7 rfl (by kernel_rfl) (by kernel_rfl) (by kernel_rfl) PF.pf rfl (pv_move rfl) rfl ?_
          refine AnyH.take 8 rfl (by kernel_rfl) (by kernel_rfl) (by kernel_rfl) PF.pf rfl (pv_extract rfl rfl) rfl ?_
          refine AnyH.take 9 rfl (by kernel_rfl) (by kernel_rfl) (by kernel_rfl) PF.pf rfl (pv_extract rfl rfl) rfl ?_
          refine AnyH.one 11 (by kernel_rfl) ?_
          refine Turn.ef rfl rfl (ef_storeK rfl rfl rfl rfl) ?_ ?_
          · rintro _ _ ⟨rfl, rfl⟩; infer_instance
          rintro _ _ ⟨rfl, rfl⟩
          refine AnyH.take 12 rfl (by kernel_rfl) (by kernel_rfl) (by kernel_rfl) PF.pf rfl (pv_assign rfl) rfl ?_
          refine AnyH.done (by kernel_rfl) ?_
          refine Ends.goes ?_
          refine Goes.back (hC0 b8 trivial) ⟨rfl, rfl, rfl, rfl, rfl, trivial⟩
      rintro vb _
      dsimp only [List.cons_append, List.nil_append] at ⊢
      refine Wp.cutK (σ := Nat) [(3, _), (4, _), (7, _), (8, _), (11, _)] (fun s => [(13, .pointer (some ⟨s, 0, none⟩))]) (fun s => (s, .cells x.cells.toArray 24) :: (vb, .cells y.cells.toArray 24) :: (C1 ++ (cBlk cb1 sb2 tb2 :: (Ls2 ++ (Lt2 ++ ((b1, .cells x.cells.toArray 24) :: (b2, .cells y.cells.toArray 24) :: F)))))) (fun s => True) ⟨rfl, rfl, rfl, rfl, rfl, trivial⟩ (fun _ KK hC0 => ?_) ?_
      · dsimp only [List.cons_append, List.nil_append] at hC0
        refine AnyH.start (cBlk cb1 sb2 tb2 :: []) 13 rfl ?_
        refine AnyH.take 0 rfl (by kernel_rfl) (by kernel_rfl) (by kernel_rfl) PF.pf rfl (pv_move rfl) rfl ?_
        first | refine AnyH.take 1 rfl (by kernel_rfl) (by kernel_rfl) (by kernel_rfl) PF.pf rfl (pv_nilCheck rfl) rfl ?_ | refine AnyH.take 1 rfl (by kernel_rfl) (by kernel_rfl) (by kernel_rfl) PF.pf rfl (pv_nilCheck_func rfl rfl) rfl ?_
        first | refine AnyH.take 2 rfl (by kernel_rfl) (by kernel_rfl) (by kernel_rfl) PF.pf rfl (pv_fieldAddr0 rfl rfl) rfl ?_ | refine AnyH.take 2 rfl (by kernel_rfl) (by kernel_rfl) (by kernel_rfl) PF.pf rfl (pv_fieldAddr rfl rfl) rfl ?_
        first | refine AnyH.take 3 rfl (by kernel_rfl) (by kernel_rfl) (by kernel_rfl) PF.pf rfl (pv_fieldAddr0 rfl rfl) rfl ?_ | refine AnyH.take 3 rfl (by kernel_rfl) (by kernel_rfl) (by kernel_rfl) PF.pf rfl (pv_fieldAddr rfl rfl) rfl ?_
        first | refine AnyH.take 4 rfl (by kernel_rfl) (by kernel_rfl) (by kernel_rfl) PF.pf rfl (pv_load rfl rfl rfl) rfl ?_ | refine AnyH.take 4 rfl (by kernel_rfl) (by kernel_rfl) (by kernel_rfl) PF.pf rfl (pv_load rfl rfl (by assumption)) rfl ?_
        refine AnyH.two 5 10 (by kernel_rfl) ?_ ?_
        · refine Turn.ef rfl rfl (ef_callr (tr_mslot _) rfl rfl) ?_ ?_
          · rintro _ _ ⟨rfl, rfl⟩; infer_instance
          rintro _ _ ⟨rfl, rfl⟩
          refine AnyH.two 6 10 (by kernel_rfl) ?_ ?_
          · refine Turn.ef rfl rfl (ef_callr ((sf_get (l := (q8 y x w zc zc (.cons (0, 1) K0 (.one (0, 0)))).l) hS2 (0, 1)).eq (by rw [q8_get1])) rfl rfl) ?_ ?_
            · rintro _ _ ⟨rfl, rfl⟩; infer_instance
            rintro _ _ ⟨rfl, rfl⟩
            refine AnyH.take 7 rfl (by kernel_rfl) (by kernel_rfl) (by kernel_rfl) PF.pf rfl (pv_move rfl) rfl ?_
            refine AnyH.take 8 rfl (by kernel_rfl) (by kernel_rfl) (by kernel_rfl) PF.pf rfl (pv_extract rfl rfl) rfl ?_
            refine AnyH.take 9 rfl (by kernel_rfl) (by kernel_rfl) (by kernel_rfl) PF.pf rfl (pv_extract rfl rfl) rfl ?_
            refine AnyH.one 10 (by kernel_rfl) ?_
            refine Turn.ef rfl rfl (ef_allocK tyZ24 rfl) ?_ ?_
            · rintro _ _ ⟨b9, rfl, rfl⟩; infer_instance
            rintro _ _ ⟨b9, rfl, rfl⟩
            refine AnyH.one 11 (by kernel_rfl) ?_
            refine Turn.ef rfl rfl (ef_storeK rfl rfl rfl rfl) ?_ ?_
            · rintro _ _ ⟨rfl, rfl⟩; infer_instance
            rintro _ _ ⟨rfl, rfl⟩
            refine AnyH.take 12 rfl (by kernel_rfl) (by kernel_rfl) (by kernel_rfl) PF.pf rfl (pv_assign rfl) rfl ?_
            refine AnyH.done (by kernel_rfl) ?_
            refine Ends.goes ?_
            refine Goes.back (hC0 b9 trivial) ⟨rfl, rfl, rfl, rfl, rfl, rfl, trivial⟩
          · refine Turn.ef rfl rfl (ef_allocK tyZ24 rfl) ?_ ?_
            · rintro _ _ ⟨b10, rfl, rfl⟩; infer_instance
            rintro _ _ ⟨b10, rfl, rfl⟩
            refine AnyH.one 6 (by kernel_rfl) ?_
            refine Turn.ef rfl rfl (ef_callr ((sf_get (l := (q8 y x w zc zc (.cons (0, 1) K0 (.one (0, 0)))).l) hS2 (0, 1)).eq (by rw [q8_get1])) rfl rfl) ?_ ?_
            · rintro _ _ ⟨rfl, rfl⟩; infer_instance
            rintro _ _ ⟨rfl, rfl⟩
            refine AnyH.take 7 rfl (by kernel_rfl) (by kernel_rfl) (by kernel_rfl) PF.pf rfl (pv_move rfl) rfl ?_
            refine AnyH.take 8 rfl (by kernel_rfl) (by kernel_rfl) (by kernel_rfl) PF.pf rfl (pv_extract rfl rfl) rfl ?_
            refine AnyH.take 9 rfl (by kernel_rfl) (by kernel_rfl) (by kernel_rfl) PF.pf rfl (pv_extract rfl rfl) rfl ?_
            refine AnyH.one 11 (by kernel_rfl) ?_
            refine Turn.ef rfl rfl (ef_storeK rfl rfl rfl rfl) ?_ ?_
            · rintro _ _ ⟨rfl, rfl⟩; infer_instance
            rintro _ _ ⟨rfl, rfl⟩
            refine AnyH.take 12 rfl (by kernel_rfl) (by kernel_rfl) (by kernel_rfl) PF.pf rfl (pv_assign rfl) rfl ?_
            refine AnyH.done (by kernel_rfl) ?_
            refine Ends.goes ?_
            refine Goes.back (hC0 b10 trivial) ⟨rfl, rfl, rfl, rfl, rfl, rfl, trivial⟩
        · refine Turn.ef rfl rfl (ef_allocK tyZ24 rfl) ?_ ?_
          · rintro _ _ ⟨b11, rfl, rfl⟩; infer_instance
          rintro _ _ ⟨b11, rfl, rfl⟩
          refine AnyH.one 5 (by kernel_rfl) ?_
          refine Turn.ef rfl rfl (ef_callr (tr_mslot _) rfl rfl) ?_ ?_
          · rintro _ _ ⟨rfl, rfl⟩; infer_instance
          rintro _ _ ⟨rfl, rfl⟩
          refine AnyH.one 6 (by kernel_rfl) ?_
          refine Turn.ef rfl rfl (ef_callr ((sf_get (l := (q8 y x w zc zc (.cons (0, 1) K0 (.one (0, 0)))).l) hS2 (0, 1)).eq (by rw [q8_get1])) rfl rfl) ?_ ?_
          · rintro _ _ ⟨rfl, rfl⟩; infer_instance
          rintro _ _ ⟨rfl, rfl⟩
          refine AnyH.take 7 rfl (by kernel_rfl) (by kernel_rfl) (by kernel_rfl) PF.pf rfl (pv_move rfl) rfl ?_
          refine AnyH.take 8 rfl (by kernel_rfl) (by kernel_rfl) (by kernel_rfl) PF.pf rfl (pv_extract rfl rfl) rfl ?_
          refine AnyH.take 9 rfl (by kernel_rfl) (by kernel_rfl) (by kernel_rfl) PF.pf rfl (pv_extract rfl rfl) rfl ?_
          refine AnyH.one 11 (by kernel_rfl) ?_
          refine Turn.ef rfl rfl (ef_storeK rfl rfl rfl rfl) ?_ ?_
          · rintro _ _ ⟨rfl, rfl⟩; infer_instance
          rintro _ _ ⟨rfl, rfl⟩
          refine AnyH.take 12 rfl (by kernel_rfl) (by kernel_rfl) (by kernel_rfl) PF.pf rfl (pv_assign rfl) rfl ?_
          refine AnyH.done (by kernel_rfl) ?_
          refine Ends.goes ?_
          refine Goes.back (hC0 b11 trivial) ⟨rfl, rfl, rfl, rfl, rfl, rfl, trivial⟩
      rintro vc _
      dsimp only [List.cons_append, List.nil_append] at ⊢
      refine Wp.seq ?_
      refine Wp.seq ?_
      refine Wp.region ?_
      refine Ops.pv (pv_loadK [_, _, _, _, _, _] rfl rfl rfl ⟨rfl, rfl, rfl, rfl, rfl, rfl, trivial⟩) rfl ?_
      refine Ops.pv (pv_loadK [_, _, _, _, _, _] rfl rfl rfl ⟨rfl, rfl, rfl, rfl, rfl, rfl, trivial⟩) rfl ?_
      refine Ops.pv ((pv_neq_cap (a := y) (b := y) rfl rfl).fls (fun h => h rfl)) rfl ?_
      refine Ops.pv (pv_move rfl) rfl ?_
      refine Ops.pvg ⟨_, _, rfl, rfl, rfl⟩ (pv_loadK [_, _, _, _, _, _] rfl rfl rfl ⟨rfl, rfl, rfl, rfl, rfl, rfl, trivial⟩) rfl ?_
      refine Ops.pvg ⟨_, _, rfl, rfl, rfl⟩ (pv_loadK [_, _, _, _, _, _] rfl rfl rfl ⟨rfl, rfl, rfl, rfl, rfl, rfl, trivial⟩) rfl ?_
      refine Ops.pvg ⟨_, _, rfl, rfl, rfl⟩ ((pv_neq_cap (a := x) (b := x) rfl rfl).fls (fun h => h rfl)) rfl ?_
      refine Ops.pv (pv_pick_false rfl rfl) rfl ?_
      refine Ops.pv (pv_move rfl) rfl ?_
      refine Ops.pvg ⟨_, _, rfl, rfl, rfl⟩ (pv_move rfl) rfl ?_
      refine Ops.efg ⟨_, _, rfl, rfl, rfl⟩ (ef_callr (tr_mslot _) rfl rfl) ?_
      rintro _ _ ⟨rfl, rfl⟩
      refine Ops.efg ⟨_, _, rfl, rfl, rfl⟩ (ef_call (tr_mKin _ cb1 _ (q8 y x w zc zc (.cons (0, 1) K0 (.one (0, 0)))) ⟨_, _, _, _, hS2, hT2, rfl⟩ (by omega) (0, 1)) rfl rfl) ?_
      rintro _ _ ⟨_, _, ⟨C3, hc3, rfl⟩, rfl, rfl⟩
      refine Ops.app ?_
      have hkk : ftKin (q8 y x w zc zc (.cons (0, 1) K0 (.one (0, 0)))).F (0, 1) = K0.all := mb_kin (0, 1)
      rw [hkk] at hc3
      obtain ⟨pp3, qq3, rfl⟩ := hc3.form
      refine Ops.pvg ⟨_, _, rfl, rfl, rfl⟩ (pv_move rfl) rfl ?_
      refine Ops.efg ⟨_, _, rfl, rfl, rfl⟩ (ef_callr ((tr_sameSlots (C1 ++ C3) _ _ _ _ K0.all K0.all (hc3.view.mono (by intro p hp; simp [hp])) (hc1.view.mono (by intro p hp; simp [hp])) hKl).eq (r' := .bool true) (by rw [decide_eq_true rfl])) rfl rfl) ?_
      rintro _ _ ⟨rfl, rfl⟩
      first | refine Ops.pvg ⟨_, _, rfl, rfl, rfl⟩ (pv_not_dec rfl) rfl ?_ | refine Ops.pvg ⟨_, _, rfl, rfl, rfl⟩ (pv_not rfl) rfl ?_
      refine Ops.pv (pv_pick_false rfl rfl) rfl ?_
      refine Ops.nil ?_
      refine Ends.seq ?_
      refine Wp.cond_false rfl ?_
      refine Wp.skip ?_
      refine Ends.seq ?_
      refine Wp.seq ?_
      refine Wp.seq ?_
      refine Wp.region ?_
      refine Ops.pv (pv_move rfl) rfl ?_
      refine Ops.ef rfl (ef_callr (tr_mslot _) rfl rfl) ?_
      rintro _ _ ⟨rfl, rfl⟩
      refine Ops.ef rfl (ef_callr (tr_mslot _) rfl rfl) ?_
      rintro _ _ ⟨rfl, rfl⟩
      refine Ops.ef rfl (ef_callr (tr_mslot _) rfl rfl) ?_
      rintro _ _ ⟨rfl, rfl⟩
      refine Ops.ef rfl (ef_call ((tr_mRotate _ cb1 _ (q8 y x w zc zc (.cons (0, 1) K0 (.one (0, 0)))) ⟨_, _, _, _, hS2, hT2, rfl⟩ (0, 6) (0, 0) (0, 1)).mono (R' := fun u L' => u = .int .i64 0 ∧ CapsH _ (q8 x zc w zc y (.cons (0, 0) K0 (.one (0, 6)))) cb1 L') (by intro u L' h; rw [mb_rot2 hx2 hx1 hK hy2 hy1] at h; exact h)) rfl rfl) ?_
      rintro _ _ ⟨_, _, ⟨rfl, sb2, tb2, Ls2, Lt2, hS2, hT2, rfl⟩, rfl, rfl⟩
      refine Ops.app ?_
      refine Ops.pv ((pv_neq rfl rfl).fls (by first | exact fun h => h rfl | decide | omega | assumption)) rfl ?_
      refine Ops.nil ?_
      refine Ends.seq ?_
      refine Wp.cond_false rfl ?_
      refine Wp.skip ?_
      refine Ends.seq ?_
      refine Wp.seq ?_
      refine AnyH.start (cBlk cb1 sb2 tb2 :: []) 11 rfl ?_
      refine AnyH.take 0 rfl (by kernel_rfl) (by kernel_rfl) (by kernel_rfl) PF.pf rfl (pv_move rfl) rfl ?_
      first | refine AnyH.take 1 rfl (by kernel_rfl) (by kernel_rfl) (by kernel_rfl) PF.pf rfl (pv_nilCheck rfl) rfl ?_ | refine AnyH.take 1 rfl (by kernel_rfl) (by kernel_rfl) (by kernel_rfl) PF.pf rfl (pv_nilCheck_func rfl rfl) rfl ?_
      first | refine AnyH.take 2 rfl (by kernel_rfl) (by kernel_rfl) (by kernel_rfl) PF.pf rfl (pv_fieldAddr0 rfl rfl) rfl ?_ | refine AnyH.take 2 rfl (by kernel_rfl) (by kernel_rfl) (by kernel_rfl) PF.pf rfl (pv_fieldAddr rfl rfl) rfl ?_
      first | refine AnyH.take 3 rfl (by kernel_rfl) (by kernel_rfl) (by kernel_rfl) PF.pf rfl (pv_fieldAddr0 rfl rfl) rfl ?_ | refine AnyH.take 3 rfl (by kernel_rfl) (by kernel_rfl) (by kernel_rfl) PF.pf rfl (pv_fieldAddr rfl rfl) rfl ?_
      first | refine AnyH.take 4 rfl (by kernel_rfl) (by kernel_rfl) (by kernel_rfl) PF.pf rfl (pv_load rfl rfl rfl) rfl ?_ | refine AnyH.take 4 rfl (by kernel_rfl) (by kernel_rfl) (by kernel_rfl) PF.pf rfl (pv_load rfl rfl (by assumption)) rfl ?_
      refine AnyH.one 5 (by kernel_rfl) ?_
      refine Turn.ef rfl rfl (ef_callr (tr_mslot _) rfl rfl) ?_ ?_
      · rintro _ _ ⟨rfl, rfl⟩; infer_instance
      rintro _ _ ⟨rfl, rfl⟩
      refine AnyH.one 6 (by kernel_rfl) ?_
      refine Turn.ef rfl rfl (ef_callr ((sf_get (l := (q8 x zc w zc y (.cons (0, 0) K0 (.one (0, 6)))).l) hS2 (0, 6)).eq (by rw [q8_get6])) rfl rfl) ?_ ?_
      · rintro _ _ ⟨rfl, rfl⟩; infer_instance
      rintro _ _ ⟨rfl, rfl⟩
      refine AnyH.take 7 rfl (by kernel_rfl) (by kernel_rfl) (by kernel_rfl) PF.pf rfl (pv_move rfl) rfl ?_
      refine AnyH.take 8 rfl (by kernel_rfl) (by kernel_rfl) (by kernel_rfl) PF.pf rfl (pv_extract rfl rfl) rfl ?_
      refine AnyH.take 9 rfl (by kernel_rfl) (by kernel_rfl) (by kernel_rfl) PF.pf rfl (pv_extract rfl rfl) rfl ?_
      refine AnyH.one 10 (by kernel_rfl) ?_
      refine Turn.ef rfl rfl (ef_storeK rfl rfl rfl rfl) ?_ ?_
      · rintro _ _ ⟨rfl, rfl⟩; infer_instance
      rintro _ _ ⟨rfl, rfl⟩
      refine AnyH.done (by kernel_rfl) ?_
      refine Ends.seq ?_
      refine Wp.seq ?_
      refine AnyH.start (cBlk cb1 sb2 tb2 :: []) 11 rfl ?_
      refine AnyH.take 0 rfl (by kernel_rfl) (by kernel_rfl) (by kernel_rfl) PF.pf rfl (pv_move rfl) rfl ?_
      first | refine AnyH.take 1 rfl (by kernel_rfl) (by kernel_rfl) (by kernel_rfl) PF.pf rfl (pv_nilCheck rfl) rfl ?_ | refine AnyH.take 1 rfl (by kernel_rfl) (by kernel_rfl) (by kernel_rfl) PF.pf rfl (pv_nilCheck_func rfl rfl) rfl ?_
      first | refine AnyH.take 2 rfl (by kernel_rfl) (by kernel_rfl) (by kernel_rfl) PF.pf rfl (pv_fieldAddr0 rfl rfl) rfl ?_ | refine AnyH.take 2 rfl (by kernel_rfl) (by kernel_rfl) (by kernel_rfl) PF.pf rfl (pv_fieldAddr rfl rfl) rfl ?_
      first | refine AnyH.take 3 rfl (by kernel_rfl) (by kernel_rfl) (by kernel_rfl) PF.pf rfl (pv_fieldAddr0 rfl rfl) rfl ?_ | refine AnyH.take 3 rfl (by kernel_rfl) (by kernel_rfl) (by kernel_rfl) PF.pf rfl (pv_fieldAddr rfl rfl) rfl ?_
      first | refine AnyH.take 4 rfl (by kernel_rfl) (by kernel_rfl) (by kernel_rfl) PF.pf rfl (pv_load rfl rfl rfl) rfl ?_ | refine AnyH.take 4 rfl (by kernel_rfl) (by kernel_rfl) (by kernel_rfl) PF.pf rfl (pv_load rfl rfl (by assumption)) rfl ?_
      refine AnyH.one 5 (by kernel_rfl) ?_
      refine Turn.ef rfl rfl (ef_callr (tr_mslot _) rfl rfl) ?_ ?_
      · rintro _ _ ⟨rfl, rfl⟩; infer_instance
      rintro _ _ ⟨rfl, rfl⟩
      refine AnyH.one 6 (by kernel_rfl) ?_
      refine Turn.ef rfl rfl (ef_callr ((sf_get (l := (q8 x zc w zc y (.cons (0, 0) K0 (.one (0, 6)))).l) hS2 (0, 0)).eq (by rw [q8_get0])) rfl rfl) ?_ ?_
      · rintro _ _ ⟨rfl, rfl⟩; infer_instance
      rintro _ _ ⟨rfl, rfl⟩
      refine AnyH.take 7 rfl (by kernel_rfl) (by kernel_rfl) (by kernel_rfl) PF.pf rfl (pv_move rfl) rfl ?_
      refine AnyH.take 8 rfl (by kernel_rfl) (by kernel_rfl) (by kernel_rfl) PF.pf rfl (pv_extract rfl rfl) rfl ?_
      refine AnyH.take 9 rfl (by kernel_rfl) (by kernel_rfl) (by kernel_rfl) PF.pf rfl (pv_extract rfl rfl) rfl ?_
      refine AnyH.one 10 (by kernel_rfl) ?_
      refine Turn.ef rfl rfl (ef_storeK rfl rfl rfl rfl) ?_ ?_
      · rintro _ _ ⟨rfl, rfl⟩; infer_instance
      rintro _ _ ⟨rfl, rfl⟩
      refine AnyH.done (by kernel_rfl) ?_
      refine Ends.seq ?_
      refine Wp.cutK (σ := Nat) [(3, _), (4, _), (7, _), (8, _), (11, _), (13, _)] (fun s => [(15, .pointer (some ⟨s, 0, none⟩))]) (fun s => (s, .cells zc.cells.toArray 24) :: (vc, .cells x.cells.toArray 24) :: (vb, .cells y.cells.toArray 24) :: (C1 ++ (cBlk cb1 sb2 tb2 :: (Ls2 ++ (Lt2 ++ ((b1, .cells x.cells.toArray 24) :: (b2, .cells y.cells.toArray 24) :: F)))))) (fun s => True) ⟨rfl, rfl, rfl, rfl, rfl, rfl, trivial⟩ (fun _ KK hC0 => ?_) ?_
      · dsimp only [List.cons_append, List.nil_append] at hC0
        refine AnyH.start (cBlk cb1 sb2 tb2 :: []) 13 rfl ?_
        refine AnyH.take 0 rfl (by kernel_rfl) (by kernel_rfl) (by kernel_rfl) PF.pf rfl (pv_move rfl) rfl ?_
        first | refine AnyH.take 1 rfl (by kernel_rfl) (by kernel_rfl) (by kernel_rfl) PF.pf rfl (pv_nilCheck rfl) rfl ?_ | refine AnyH.take 1 rfl (by kernel_rfl) (by kernel_rfl) (by kernel_rfl) PF.pf rfl (pv_nilCheck_func rfl rfl) rfl ?_
        first | refine AnyH.take 2 rfl (by kernel_rfl) (by kernel_rfl) (by kernel_rfl) PF.pf rfl (pv_fieldAddr0 rfl rfl) rfl ?_ | refine AnyH.take 2 rfl (by kernel_rfl) (by kernel_rfl) (by kernel_rfl) PF.pf rfl (pv_fieldAddr rfl rfl) rfl ?_
        first | refine AnyH.take 3 rfl (by kernel_rfl) (by kernel_rfl) (by kernel_rfl) PF.pf rfl (pv_fieldAddr0 rfl rfl) rfl ?_ | refine AnyH.take 3 rfl (by kernel_rfl) (by kernel_rfl) (by kernel_rfl) PF.pf rfl (pv_fieldAddr rfl rfl) rfl ?_
        first | refine AnyH.take 4 rfl (by kernel_rfl) (by kernel_rfl) (by kernel_rfl) PF.pf rfl (pv_load rfl rfl rfl) rfl ?_ | refine AnyH.take 4 rfl (by kernel_rfl) (by kernel_rfl) (by kernel_rfl) PF.pf rfl (pv_load rfl rfl (by assumption)) rfl ?_
        refine AnyH.two 5 10 (by kernel_rfl) ?_ ?_
        · refine Turn.ef rfl rfl (ef_callr (tr_mslot _) rfl rfl) ?_ ?_
          · rintro _ _ ⟨rfl, rfl⟩; infer_instance
          rintro _ _ ⟨rfl, rfl⟩
          refine AnyH.two 6 10 (by kernel_rfl) ?_ ?_
          · refine Turn.ef rfl rfl (ef_callr ((sf_get (l := (q8 x zc w zc y (.cons (0, 0) K0 (.one (0, 6)))).l) hS2 (0, 1)).eq (by rw [q8_get1])) rfl rfl) ?_ ?_
            · rintro _ _ ⟨rfl, rfl⟩; infer_instance
            rintro _ _ ⟨rfl, rfl⟩
            refine AnyH.take 7 rfl (by kernel_rfl) (by kernel_rfl) (by kernel_rfl) PF.pf rfl (pv_move rfl) rfl ?_
            refine AnyH.take 8 rfl (by kernel_rfl) (by kernel_rfl) (by kernel_rfl) PF.pf rfl (pv_extract rfl rfl) rfl ?_
            refine AnyH.take 9 rfl (by kernel_rfl) (by kernel_rfl) (by kernel_rfl) PF.pf rfl (pv_extract rfl rfl) rfl ?_
            refine AnyH.one 10 (by kernel_rfl) ?_
            refine Turn.ef rfl rfl (ef_allocK tyZ24 rfl) ?_ ?_
            · rintro _ _ ⟨b12, rfl, rfl⟩; infer_instance
            rintro _ _ ⟨b12, rfl, rfl⟩
            refine AnyH.one 11 (by kernel_rfl) ?_
            refine Turn.ef rfl rfl (ef_storeK rfl rfl rfl rfl) ?_ ?_
            · rintro _ _ ⟨rfl, rfl⟩; infer_instance
            rintro _ _ ⟨rfl, rfl⟩
            refine AnyH.take 12 rfl (by kernel_rfl) (by kernel_rfl) (by kernel_rfl) PF.pf rfl (pv_assign rfl) rfl ?_
            refine AnyH.done (by kernel_rfl) ?_
            refine Ends.goes ?_
            refine Goes.back (hC0 b12 trivial) ⟨rfl, rfl, rfl, rfl, rfl, rfl, rfl, trivial⟩
          · refine Turn.ef rfl rfl (ef_allocK tyZ24 rfl) ?_ ?_
            · rintro _ _ ⟨b13, rfl, rfl⟩; infer_instance
            rintro _ _ ⟨b13, rfl, rfl⟩
            refine AnyH.one 6 (by kernel_rfl) ?_
            refine Turn.ef rfl rfl (ef_callr ((sf_get (l := (q8 x zc w zc y (.cons (0, 0) K0 (.one (0, 6)))).l) hS2 (0, 1)).eq (by rw [q8_get1])) rfl rfl) ?_ ?_
            · rintro _ _ ⟨rfl, rfl⟩; infer_instance
            rintro _ _ ⟨rfl, rfl⟩
            refine AnyH.take 7 rfl (by kernel_rfl) (by kernel_rfl) (by kernel_rfl) PF.pf rfl (pv_move rfl) rfl ?_
            refine AnyH.take 8 rfl (by kernel_rfl) (by kernel_rfl) (by kernel_rfl) PF.pf rfl (pv_extract rfl rfl) rfl ?_
            refine AnyH.take 9 rfl (by kernel_rfl) (by kernel_rfl) (by kernel_rfl) PF.pf rfl (pv_extract rfl rfl) rfl ?_
            refine AnyH.one 11 (by kernel_rfl) ?_
            refine Turn.ef rfl rfl (ef_storeK rfl rfl rfl rfl) ?_ ?_
            · rintro _ _ ⟨rfl, rfl⟩; infer_instance
            rintro _ _ ⟨rfl, rfl⟩
            refine AnyH.take 12 rfl (by kernel_rfl) (by kernel_rfl) (by kernel_rfl) PF.pf rfl (pv_assign rfl) rfl ?_
            refine AnyH.done (by kernel_rfl) ?_
            refine Ends.goes ?_
            refine Goes.back (hC0 b13 trivial) ⟨rfl, rfl, rfl, rfl, rfl, rfl, rfl, trivial⟩
        · refine Turn.ef rfl rfl (ef_allocK tyZ24 rfl) ?_ ?_
          · rintro _ _ ⟨b14, rfl, rfl⟩; infer_instance
          rintro _ _ ⟨b14, rfl, rfl⟩
          refine AnyH.one 5 (by kernel_rfl) ?_
          refine Turn.ef rfl rfl (ef_callr (tr_mslot _) rfl rfl) ?_ ?_
          · rintro _ _ ⟨rfl, rfl⟩; infer_instance
          rintro _ _ ⟨rfl, rfl⟩
          refine AnyH.one 6 (by kernel_rfl) ?_
          refine Turn.ef rfl rfl (ef_callr ((sf_get (l := (q8 x zc w zc y (.cons (0, 0) K0 (.one (0, 6)))).l) hS2 (0, 1)).eq (by rw [q8_get1])) rfl rfl) ?_ ?_
          · rintro _ _ ⟨rfl, rfl⟩; infer_instance
          rintro _ _ ⟨rfl, rfl⟩
          refine AnyH.take 7 rfl (by kernel_rfl) (by kernel_rfl) (by kernel_rfl) PF.pf rfl (pv_move rfl) rfl ?_
          refine AnyH.take 8 rfl (by kernel_rfl) (by kernel_rfl) (by kernel_rfl) PF.pf rfl (pv_extract rfl rfl) rfl ?_
          refine AnyH.take 9 rfl (by kernel_rfl) (by kernel_rfl) (by kernel_rfl) PF.pf rfl (pv_extract rfl rfl) rfl ?_
          refine AnyH.one 11 (by kernel_rfl) ?_
          refine Turn.ef rfl rfl (ef_storeK rfl rfl rfl rfl) ?_ ?_
          · rintro _ _ ⟨rfl, rfl⟩; infer_instance
          rintro _ _ ⟨rfl, rfl⟩
          refine AnyH.take 12 rfl (by kernel_rfl) (by kernel_rfl) (by kernel_rfl) PF.pf rfl (pv_assign rfl) rfl ?_
          refine AnyH.done (by kernel_rfl) ?_
          refine Ends.goes ?_
          refine Goes.back (hC0 b14 trivial) ⟨rfl, rfl, rfl, rfl, rfl, rfl, rfl, trivial⟩
      rintro vd _
      dsimp only [List.cons_append, List.nil_append] at ⊢
      refine Wp.seq ?_
      refine Wp.region ?_
      refine Ops.pv (pv_loadK [_, _, _, _, _, _] rfl rfl rfl ⟨rfl, rfl, rfl, rfl, rfl, rfl, trivial⟩) rfl ?_
      refine Ops.pv (pv_loadK [_, _, _, _, _, _] rfl rfl rfl ⟨rfl, rfl, rfl, rfl, rfl, rfl, trivial⟩) rfl ?_
      refine Ops.pv ((pv_eql_cap (a := y) (b := y) rfl rfl).tru rfl) rfl ?_
      refine Ops.pv (pv_move rfl) rfl ?_
      refine Ops.pvg ⟨_, _, rfl, rfl, rfl⟩ (pv_loadK [_, _, _, _, _, _] rfl rfl rfl ⟨rfl, rfl, rfl, rfl, rfl, rfl, trivial⟩) rfl ?_
      refine Ops.pvg ⟨_, _, rfl, rfl, rfl⟩ (pv_loadK [_, _, _, _, _, _] rfl rfl rfl ⟨rfl, rfl, rfl, rfl, rfl, rfl, trivial⟩) rfl ?_
      refine Ops.pvg ⟨_, _, rfl, rfl, rfl⟩ ((pv_eql_cap (a := x) (b := x) rfl rfl).tru rfl) rfl ?_
      refine Ops.pv (pv_pick_true rfl rfl) rfl ?_
      refine Ops.pv (pv_move rfl) rfl ?_
      refine Ops.pvg ⟨_, _, rfl, rfl, rfl⟩ (pv_loadK [_, _, _, _, _, _] rfl rfl rfl ⟨rfl, rfl, rfl, rfl, rfl, rfl, trivial⟩) rfl ?_
      refine Ops.pvg ⟨_, _, rfl, rfl, rfl⟩ (pv_build rfl) rfl ?_
      refine Ops.pvg ⟨_, _, rfl, rfl, rfl⟩ ((pv_eql_cap (a := zc) (b := zc) rfl rfl).tru rfl) rfl ?_
      refine Ops.pv (pv_pick_true rfl rfl) rfl ?_
      refine Ops.pv (pv_move rfl) rfl ?_
      refine Ops.pvg ⟨_, _, rfl, rfl, rfl⟩ (pv_move rfl) rfl ?_
      refine Ops.efg ⟨_, _, rfl, rfl, rfl⟩ (ef_callr (tr_mslot _) rfl rfl) ?_
      rintro _ _ ⟨rfl, rfl⟩
      refine Ops.efg ⟨_, _, rfl, rfl, rfl⟩ (ef_call (tr_mKin _ cb1 _ (q8 x zc w zc y (.cons (0, 0) K0 (.one (0, 6)))) ⟨_, _, _, _, hS2, hT2, rfl⟩ (by omega) (0, 0)) rfl rfl) ?_
      rintro _ _ ⟨_, _, ⟨C4, hc4, rfl⟩, rfl, rfl⟩
      refine Ops.app ?_
      have hkk : ftKin (q8 x zc w zc y (.cons (0, 0) K0 (.one (0, 6)))).F (0, 0) = K0.all := mb_kin (0, 0)
      rw [hkk] at hc4
      obtain ⟨pp4, qq4, rfl⟩ := hc4.form
      refine Ops.pvg ⟨_, _, rfl, rfl, rfl⟩ (pv_move rfl) rfl ?_
      refine Ops.efg ⟨_, _, rfl, rfl, rfl⟩ (ef_callr ((tr_sameSlots (C1 ++ C4) _ _ _ _ K0.all K0.all (hc4.view.mono (by intro p hp; simp [hp])) (hc1.view.mono (by intro p hp; simp [hp])) hKl).eq (r' := .bool true) (by rw [decide_eq_true rfl])) rfl rfl) ?_
      rintro _ _ ⟨rfl, rfl⟩
      refine Ops.pv (pv_pick_true rfl rfl) rfl ?_
      refine Ops.pv (pv_assign rfl) rfl ?_
      refine Ops.nil ?_
      refine Ends.seq ?_
      refine Wp.ret ?_
      exact Ends.ret (res1 rfl rfl) ⟨rfl, rfl⟩

end Go.Proofs.Ytdodfnjmkpgdbaa
