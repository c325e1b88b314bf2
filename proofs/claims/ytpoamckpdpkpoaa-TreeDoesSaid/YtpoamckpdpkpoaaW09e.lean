/- Walks of layer 9: the program's tree and the document's, side by side. No condition. -/
import Derived.Test.YtpoamckpdpkpoaaW09g
import Derived.Test.YtpoamckpdpkpoaaW09h
import Derived.Test.YtpoamckpdpkpoaaW07x
import Derived.Test.YtpoamckpdpkpoaaM09o
set_option linter.unusedVariables false
set_option linter.unusedSimpArgs false
namespace Go.Proofs.Ytpoamckpdpkpoaa
open Go.SL

theorem tr_tact (uS : Value) (n tb qb : Nat) (F0 : FoS) (Lt Lq : Hp) (hT : TrF n F0 tb Lt) (hD : DtF uS F0 qb Lq) (hn : n ≤ 2 ^ 19) (x : OpT) : Tr Try.prog 47 [trP tb, dtQ qb, .agg x.cells.toArray] (Lt ++ Lq) (fun u L' => u = .bool true ∧ ∃ Lt' Lq', TrF (n + 1) (actF F0 x) tb Lt' ∧ DtF uS (actF F0 x) qb Lq' ∧ L' = Lt' ++ Lq') := by
  have hnd := hT.nd
  have hln := hT.len
  have hl20 : F0.all.length ≤ 2 ^ 20 := by omega
  refine Tr.enter Try.func47 rfl Try.ntmps47 rfl (fun W F => ?_)
  refine Wp.app ?_
  refine Wp.seq ?_
  refine Wp.region ?_
  refine Ops.ef rfl (ef_boxK rfl rfl) ?_
  rintro _ _ ⟨b1, rfl, rfl⟩
  refine Ops.pv (pv_assign rfl) rfl ?_
  refine Ops.nil ?_
  refine Ends.seq ?_
  refine Wp.seq ?_
  refine Wp.seq ?_
  refine Wp.region ?_
  first | refine Ops.pv (pv_fieldAddr0 rfl rfl) rfl ?_ | refine Ops.pv (pv_fieldAddr rfl rfl) rfl ?_
  first | refine Ops.pv (pv_load rfl rfl rfl) rfl ?_ | refine Ops.pv (pv_load rfl rfl (by assumption)) rfl ?_
  refine Ops.nil ?_
  refine Ends.seq ?_
  refine Wp.block ?_
  refine Wp.seq ?_
  refine Wp.region ?_
  refine Ops.pv (pv_eql rfl rfl) rfl ?_
  refine Ops.pv (pv_assign rfl) rfl ?_
  refine Ops.nil ?_
  refine Ends.seq ?_
  first | refine Wp.cond_dect rfl (fun h1 => ?_) (fun h1 => ?_) | refine Wp.cond_t rfl (fun h1 => ?_) (fun h1 => ?_)
  · refine Wp.seq ?_
    refine AnyH.start ((b1, .cells x.cells.toArray 52) :: []) 10 rfl ?_
    refine AnyH.take 0 rfl (by kernel_rfl) (by kernel_rfl) (by kernel_rfl) PF.pf rfl (pv_move rfl) rfl ?_
    first | refine AnyH.take 1 rfl (by kernel_rfl) (by kernel_rfl) (by kernel_rfl) PF.pf rfl (pv_fieldAddr0 rfl rfl) rfl ?_ | refine AnyH.take 1 rfl (by kernel_rfl) (by kernel_rfl) (by kernel_rfl) PF.pf rfl (pv_fieldAddr rfl rfl) rfl ?_
    refine AnyH.take 2 rfl (by kernel_rfl) (by kernel_rfl) (by kernel_rfl) PF.pf rfl (pv_loadK [_, _] rfl rfl rfl ⟨rfl, rfl, trivial⟩) rfl ?_
    refine AnyH.take 4 rfl (by kernel_rfl) (by kernel_rfl) (by kernel_rfl) PF.pf rfl (pv_move rfl) rfl ?_
    first | refine AnyH.take 5 rfl (by kernel_rfl) (by kernel_rfl) (by kernel_rfl) PF.pf rfl (pv_fieldAddr0 rfl rfl) rfl ?_ | refine AnyH.take 5 rfl (by kernel_rfl) (by kernel_rfl) (by kernel_rfl) PF.pf rfl (pv_fieldAddr rfl rfl) rfl ?_
    refine AnyH.take 6 rfl (by kernel_rfl) (by kernel_rfl) (by kernel_rfl) PF.pf rfl (pv_loadK [_, _] rfl rfl rfl ⟨rfl, rfl, trivial⟩) rfl ?_
    refine AnyH.one 3 (by kernel_rfl) ?_
    refine Turn.ef rfl rfl (ef_call (tr_fRoot hT x.a) rfl rfl) ?_ ?_
    · rintro _ _ ⟨_, QT1, ⟨rfl, hT2⟩, rfl, rfl⟩; infer_instance
    rintro _ _ ⟨_, QT1, ⟨rfl, hT2⟩, rfl, rfl⟩
    refine AnyH.app ?_
    skip
    refine AnyH.one 7 (by kernel_rfl) ?_
    refine Turn.ef rfl rfl (ef_call (tr_gRoot hD hnd hl20 x.a) rfl rfl) ?_ ?_
    · rintro _ _ ⟨_, QD1, ⟨rfl, hD2⟩, rfl, rfl⟩; infer_instance
    rintro _ _ ⟨_, QD1, ⟨rfl, hD2⟩, rfl, rfl⟩
    refine AnyH.app ?_
    skip
    refine AnyH.take 8 rfl (by kernel_rfl) (by kernel_rfl) (by kernel_rfl) PF.pf rfl ((pv_eql rfl rfl).tru rfl) rfl ?_
    refine AnyH.take 9 rfl (by kernel_rfl) (by kernel_rfl) (by kernel_rfl) PF.pf rfl (pv_assign rfl) rfl ?_
    refine AnyH.done (by kernel_rfl) ?_
    refine Ends.seq ?_
    refine Wp.ret ?_
    refine Ends.block_ret ?_
    refine Ends.then_ret ?_
    have ha : actF F0 x = (ftRoot F0 x.a).2 := by unfold actF; simp_all
    rw [ha]
    exact Ends.ret (L' := QT1 ++ QD1) (res1 rfl rfl) ⟨rfl, QT1, QD1, hT2, hD2, rfl⟩
  · refine Wp.seq ?_
    refine Wp.region ?_
    refine Ops.pv (pv_eql rfl rfl) rfl ?_
    refine Ops.pv (pv_assign rfl) rfl ?_
    refine Ops.nil ?_
    refine Ends.seq ?_
    first | refine Wp.cond_dect rfl (fun h2 => ?_) (fun h2 => ?_) | refine Wp.cond_t rfl (fun h2 => ?_) (fun h2 => ?_)
    · refine Wp.seq ?_
      refine AnyH.start ((b1, .cells x.cells.toArray 52) :: []) 14 rfl ?_
      refine AnyH.take 0 rfl (by kernel_rfl) (by kernel_rfl) (by kernel_rfl) PF.pf rfl (pv_move rfl) rfl ?_
      first | refine AnyH.take 1 rfl (by kernel_rfl) (by kernel_rfl) (by kernel_rfl) PF.pf rfl (pv_fieldAddr0 rfl rfl) rfl ?_ | refine AnyH.take 1 rfl (by kernel_rfl) (by kernel_rfl) (by kernel_rfl) PF.pf rfl (pv_fieldAddr rfl rfl) rfl ?_
      refine AnyH.take 2 rfl (by kernel_rfl) (by kernel_rfl) (by kernel_rfl) PF.pf rfl (pv_loadK [_, _] rfl rfl rfl ⟨rfl, rfl, trivial⟩) rfl ?_
      first | refine AnyH.take 3 rfl (by kernel_rfl) (by kernel_rfl) (by kernel_rfl) PF.pf rfl (pv_fieldAddr0 rfl rfl) rfl ?_ | refine AnyH.take 3 rfl (by kernel_rfl) (by kernel_rfl) (by kernel_rfl) PF.pf rfl (pv_fieldAddr rfl rfl) rfl ?_
      refine AnyH.take 4 rfl (by kernel_rfl) (by kernel_rfl) (by kernel_rfl) PF.pf rfl (pv_loadK [_, _] rfl rfl rfl ⟨rfl, rfl, trivial⟩) rfl ?_
      refine AnyH.take 6 rfl (by kernel_rfl) (by kernel_rfl) (by kernel_rfl) PF.pf rfl (pv_move rfl) rfl ?_
      first | refine AnyH.take 7 rfl (by kernel_rfl) (by kernel_rfl) (by kernel_rfl) PF.pf rfl (pv_fieldAddr0 rfl rfl) rfl ?_ | refine AnyH.take 7 rfl (by kernel_rfl) (by kernel_rfl) (by kernel_rfl) PF.pf rfl (pv_fieldAddr rfl rfl) rfl ?_
      refine AnyH.take 8 rfl (by kernel_rfl) (by kernel_rfl) (by kernel_rfl) PF.pf rfl (pv_loadK [_, _] rfl rfl rfl ⟨rfl, rfl, trivial⟩) rfl ?_
      first | refine AnyH.take 9 rfl (by kernel_rfl) (by kernel_rfl) (by kernel_rfl) PF.pf rfl (pv_fieldAddr0 rfl rfl) rfl ?_ | refine AnyH.take 9 rfl (by kernel_rfl) (by kernel_rfl) (by kernel_rfl) PF.pf rfl (pv_fieldAddr rfl rfl) rfl ?_
      refine AnyH.take 10 rfl (by kernel_rfl) (by kernel_rfl) (by kernel_rfl) PF.pf rfl (pv_loadK [_, _] rfl rfl rfl ⟨rfl, rfl, trivial⟩) rfl ?_
      refine AnyH.one 5 (by kernel_rfl) ?_
      refine Turn.ef rfl rfl (ef_call (tr_fChild hT (by omega) x.a x.b) rfl rfl) ?_ ?_
      · rintro _ _ ⟨_, QT2, ⟨rfl, hT2⟩, rfl, rfl⟩; infer_instance
      rintro _ _ ⟨_, QT2, ⟨rfl, hT2⟩, rfl, rfl⟩
      refine AnyH.app ?_
      skip
      refine AnyH.one 11 (by kernel_rfl) ?_
      refine Turn.ef rfl rfl (ef_call (tr_gChild hD hnd hl20 x.a x.b) rfl rfl) ?_ ?_
      · rintro _ _ ⟨_, QD2, ⟨rfl, hD2⟩, rfl, rfl⟩; infer_instance
      rintro _ _ ⟨_, QD2, ⟨rfl, hD2⟩, rfl, rfl⟩
      refine AnyH.app ?_
      skip
      refine AnyH.take 12 rfl (by kernel_rfl) (by kernel_rfl) (by kernel_rfl) PF.pf rfl ((pv_eql rfl rfl).tru rfl) rfl ?_
      refine AnyH.take 13 rfl (by kernel_rfl) (by kernel_rfl) (by kernel_rfl) PF.pf rfl (pv_assign rfl) rfl ?_
      refine AnyH.done (by kernel_rfl) ?_
      refine Ends.seq ?_
      refine Wp.ret ?_
      refine Ends.block_ret ?_
      refine Ends.then_ret ?_
      have ha : actF F0 x = (ftChild F0 x.a x.b).2 := by unfold actF; simp_all
      rw [ha]
      exact Ends.ret (L' := QT2 ++ QD2) (res1 rfl rfl) ⟨rfl, QT2, QD2, hT2, hD2, rfl⟩
    · refine Wp.seq ?_
      refine Wp.region ?_
      refine Ops.pv (pv_eql rfl rfl) rfl ?_
      refine Ops.pv (pv_assign rfl) rfl ?_
      refine Ops.nil ?_
      refine Ends.seq ?_
      first | refine Wp.cond_dect rfl (fun h3 => ?_) (fun h3 => ?_) | refine Wp.cond_t rfl (fun h3 => ?_) (fun h3 => ?_)
      · refine Wp.seq ?_
        refine AnyH.start ((b1, .cells x.cells.toArray 52) :: []) 10 rfl ?_
        refine AnyH.take 0 rfl (by kernel_rfl) (by kernel_rfl) (by kernel_rfl) PF.pf rfl (pv_move rfl) rfl ?_
        first | refine AnyH.take 1 rfl (by kernel_rfl) (by kernel_rfl) (by kernel_rfl) PF.pf rfl (pv_fieldAddr0 rfl rfl) rfl ?_ | refine AnyH.take 1 rfl (by kernel_rfl) (by kernel_rfl) (by kernel_rfl) PF.pf rfl (pv_fieldAddr rfl rfl) rfl ?_
        refine AnyH.take 2 rfl (by kernel_rfl) (by kernel_rfl) (by kernel_rfl) PF.pf rfl (pv_loadK [_, _] rfl rfl rfl ⟨rfl, rfl, trivial⟩) rfl ?_
        refine AnyH.take 4 rfl (by kernel_rfl) (by kernel_rfl) (by kernel_rfl) PF.pf rfl (pv_move rfl) rfl ?_
        first | refine AnyH.take 5 rfl (by kernel_rfl) (by kernel_rfl) (by kernel_rfl) PF.pf rfl (pv_fieldAddr0 rfl rfl) rfl ?_ | refine AnyH.take 5 rfl (by kernel_rfl) (by kernel_rfl) (by kernel_rfl) PF.pf rfl (pv_fieldAddr rfl rfl) rfl ?_
        refine AnyH.take 6 rfl (by kernel_rfl) (by kernel_rfl) (by kernel_rfl) PF.pf rfl (pv_loadK [_, _] rfl rfl rfl ⟨rfl, rfl, trivial⟩) rfl ?_
        refine AnyH.one 3 (by kernel_rfl) ?_
        refine Turn.ef rfl rfl (ef_call (tr_fDrop hT (by omega) x.a) rfl rfl) ?_ ?_
        · rintro _ _ ⟨_, QT3, ⟨rfl, hT2⟩, rfl, rfl⟩; infer_instance
        rintro _ _ ⟨_, QT3, ⟨rfl, hT2⟩, rfl, rfl⟩
        refine AnyH.app ?_
        skip
        refine AnyH.one 7 (by kernel_rfl) ?_
        refine Turn.ef rfl rfl (ef_call (tr_gDrop hD hnd hl20 x.a) rfl rfl) ?_ ?_
        · rintro _ _ ⟨_, QD3, ⟨rfl, hD2⟩, rfl, rfl⟩; infer_instance
        rintro _ _ ⟨_, QD3, ⟨rfl, hD2⟩, rfl, rfl⟩
        refine AnyH.app ?_
        skip
        refine AnyH.take 8 rfl (by kernel_rfl) (by kernel_rfl) (by kernel_rfl) PF.pf rfl ((pv_eql rfl rfl).tru rfl) rfl ?_
        refine AnyH.take 9 rfl (by kernel_rfl) (by kernel_rfl) (by kernel_rfl) PF.pf rfl (pv_assign rfl) rfl ?_
        refine AnyH.done (by kernel_rfl) ?_
        refine Ends.seq ?_
        refine Wp.ret ?_
        refine Ends.block_ret ?_
        refine Ends.then_ret ?_
        have ha : actF F0 x = (ftDrop F0 x.a).2 := by unfold actF; simp_all
        rw [ha]
        exact Ends.ret (L' := QT3 ++ QD3) (res1 rfl rfl) ⟨rfl, QT3, QD3, hT2.more (by omega), hD2, rfl⟩
      · refine Wp.seq ?_
        refine Wp.region ?_
        refine Ops.pv (pv_eql rfl rfl) rfl ?_
        refine Ops.pv (pv_assign rfl) rfl ?_
        refine Ops.nil ?_
        refine Ends.seq ?_
        first | refine Wp.cond_dect rfl (fun h4 => ?_) (fun h4 => ?_) | refine Wp.cond_t rfl (fun h4 => ?_) (fun h4 => ?_)
        · refine Wp.seq ?_
          refine AnyH.start ((b1, .cells x.cells.toArray 52) :: []) 14 rfl ?_
          refine AnyH.take 0 rfl (by kernel_rfl) (by kernel_rfl) (by kernel_rfl) PF.pf rfl (pv_move rfl) rfl ?_
          first | refine AnyH.take 1 rfl (by kernel_rfl) (by kernel_rfl) (by kernel_rfl) PF.pf rfl (pv_fieldAddr0 rfl rfl) rfl ?_ | refine AnyH.take 1 rfl (by kernel_rfl) (by kernel_rfl) (by kernel_rfl) PF.pf rfl (pv_fieldAddr rfl rfl) rfl ?_
          refine AnyH.take 2 rfl (by kernel_rfl) (by kernel_rfl) (by kernel_rfl) PF.pf rfl (pv_loadK [_, _] rfl rfl rfl ⟨rfl, rfl, trivial⟩) rfl ?_
          first | refine AnyH.take 3 rfl (by kernel_rfl) (by kernel_rfl) (by kernel_rfl) PF.pf rfl (pv_fieldAddr0 rfl rfl) rfl ?_ | refine AnyH.take 3 rfl (by kernel_rfl) (by kernel_rfl) (by kernel_rfl) PF.pf rfl (pv_fieldAddr rfl rfl) rfl ?_
          refine AnyH.take 4 rfl (by kernel_rfl) (by kernel_rfl) (by kernel_rfl) PF.pf rfl (pv_loadK [_, _] rfl rfl rfl ⟨rfl, rfl, trivial⟩) rfl ?_
          refine AnyH.take 6 rfl (by kernel_rfl) (by kernel_rfl) (by kernel_rfl) PF.pf rfl (pv_move rfl) rfl ?_
          first | refine AnyH.take 7 rfl (by kernel_rfl) (by kernel_rfl) (by kernel_rfl) PF.pf rfl (pv_fieldAddr0 rfl rfl) rfl ?_ | refine AnyH.take 7 rfl (by kernel_rfl) (by kernel_rfl) (by kernel_rfl) PF.pf rfl (pv_fieldAddr rfl rfl) rfl ?_
          refine AnyH.take 8 rfl (by kernel_rfl) (by kernel_rfl) (by kernel_rfl) PF.pf rfl (pv_loadK [_, _] rfl rfl rfl ⟨rfl, rfl, trivial⟩) rfl ?_
          first | refine AnyH.take 9 rfl (by kernel_rfl) (by kernel_rfl) (by kernel_rfl) PF.pf rfl (pv_fieldAddr0 rfl rfl) rfl ?_ | refine AnyH.take 9 rfl (by kernel_rfl) (by kernel_rfl) (by kernel_rfl) PF.pf rfl (pv_fieldAddr rfl rfl) rfl ?_
          refine AnyH.take 10 rfl (by kernel_rfl) (by kernel_rfl) (by kernel_rfl) PF.pf rfl (pv_loadK [_, _] rfl rfl rfl ⟨rfl, rfl, trivial⟩) rfl ?_
          refine AnyH.one 5 (by kernel_rfl) ?_
          refine Turn.ef rfl rfl (ef_call (tr_fMove hT x.a x.b) rfl rfl) ?_ ?_
          · rintro _ _ ⟨_, QT4, ⟨rfl, hT2⟩, rfl, rfl⟩; infer_instance
          rintro _ _ ⟨_, QT4, ⟨rfl, hT2⟩, rfl, rfl⟩
          refine AnyH.app ?_
          skip
          refine AnyH.one 11 (by kernel_rfl) ?_
          refine Turn.ef rfl rfl (ef_call (tr_gMove hD hnd hl20 x.a x.b) rfl rfl) ?_ ?_
          · rintro _ _ ⟨_, QD4, ⟨rfl, hD2⟩, rfl, rfl⟩; infer_instance
          rintro _ _ ⟨_, QD4, ⟨rfl, hD2⟩, rfl, rfl⟩
          refine AnyH.app ?_
          skip
          refine AnyH.take 12 rfl (by kernel_rfl) (by kernel_rfl) (by kernel_rfl) PF.pf rfl ((pv_eql rfl rfl).tru rfl) rfl ?_
          refine AnyH.take 13 rfl (by kernel_rfl) (by kernel_rfl) (by kernel_rfl) PF.pf rfl (pv_assign rfl) rfl ?_
          refine AnyH.done (by kernel_rfl) ?_
          refine Ends.seq ?_
          refine Wp.ret ?_
          refine Ends.block_ret ?_
          refine Ends.then_ret ?_
          have ha : actF F0 x = (ftMove F0 x.a x.b).2 := by unfold actF; simp_all
          rw [ha]
          exact Ends.ret (L' := QT4 ++ QD4) (res1 rfl rfl) ⟨rfl, QT4, QD4, hT2.more (by omega), hD2, rfl⟩
        · refine Wp.skip ?_
          refine Ends.block_normal ?_
          refine Ends.seq ?_
          refine Wp.seq ?_
          refine Wp.region ?_
          refine Ops.pv (pv_assign rfl) rfl ?_
          refine Ops.nil ?_
          refine Ends.seq ?_
          refine Wp.ret ?_
          have ha : actF F0 x = F0 := by unfold actF; simp_all
          rw [ha]
          exact Ends.ret (L' := Lt ++ Lq) (res1 rfl rfl) ⟨rfl, Lt, Lq, hT.more (by omega), hD, rfl⟩

set_option maxHeartbeats 4000000 in
theorem tr_tsame (uS : Value) (n tb qb : Nat) (F0 : FoS) (Lt Lq : Hp) (hT : TrF n F0 tb Lt) (hD : DtF uS F0 qb Lq) (hn : n ≤ 2 ^ 19) (so : SlotM) : TrR Try.prog 48 [trP tb, dtQ qb, slotV so] (Lt ++ Lq) (.bool true) := by
  have hnd := hT.nd
  have hln := hT.len
  have hl20 : F0.all.length ≤ 2 ^ 20 := by omega
  have hlr : (rowF F0).length = F0.all.length := rowF_len F0
  have hD0 := hD
  obtain ⟨v0, H0, hs0, rfl⟩ := hD0
  obtain ⟨a0, c0, rfl⟩ := hs0.form
  refine Tr.enter Try.func48 rfl Try.ntmps48 rfl (fun W F => ?_)
  refine Wp.app ?_
  refine Wp.seq ?_
  refine Wp.region ?_
  refine Ops.ef rfl (ef_boxK rfl rfl) ?_
  rintro _ _ ⟨b1, rfl, rfl⟩
  refine Ops.pv (pv_assign rfl) rfl ?_
  refine Ops.nil ?_
  refine Ends.seq ?_
  refine Wp.seq ?_
  refine Wp.region ?_
  refine Ops.pv (pv_move rfl) rfl ?_
  refine Ops.pv (pv_loadK [_, _] rfl rfl rfl ⟨rfl, rfl, trivial⟩) rfl ?_
  refine Ops.ef rfl (ef_callr (tr_fPar hT so) rfl rfl) ?_
  rintro _ _ ⟨rfl, rfl⟩
  refine Ops.pv (pv_move rfl) rfl ?_
  refine Ops.pv (pv_extract rfl rfl) rfl ?_
  refine Ops.pv (pv_extract rfl rfl) rfl ?_
  refine Ops.ef rfl (ef_allocK tyZ31 rfl) ?_
  rintro _ _ ⟨b2, rfl, rfl⟩
  refine Ops.ef rfl (ef_storeK rfl rfl rfl rfl) ?_
  rintro _ _ ⟨rfl, rfl⟩
  refine Ops.pv (pv_assign rfl) rfl ?_
  refine Ops.nil ?_
  refine Ends.seq ?_
  refine Wp.seq ?_
  refine Wp.region ?_
  refine Ops.pv (pv_move rfl) rfl ?_
  refine Ops.pv (pv_loadK [_, _] rfl rfl rfl ⟨rfl, rfl, trivial⟩) rfl ?_
  refine Ops.ef rfl (ef_callr (tr_gPar hD hnd hl20 so) rfl rfl) ?_
  rintro _ _ ⟨rfl, rfl⟩
  refine Ops.pv (pv_move rfl) rfl ?_
  refine Ops.pv (pv_extract rfl rfl) rfl ?_
  refine Ops.pv (pv_extract rfl rfl) rfl ?_
  refine Ops.ef rfl (ef_allocK tyZ31 rfl) ?_
  rintro _ _ ⟨b3, rfl, rfl⟩
  refine Ops.ef rfl (ef_storeK rfl rfl rfl rfl) ?_
  rintro _ _ ⟨rfl, rfl⟩
  refine Ops.pv (pv_assign rfl) rfl ?_
  refine Ops.nil ?_
  refine Ends.seq ?_
  refine Wp.seq ?_
  refine AnyH.start ((b1, .cells [.int .i64 so.1, .int .i64 so.2].toArray 31) :: (b2, .cells [.int .i64 (ftPar F0 so).1, .int .i64 (ftPar F0 so).2].toArray 31) :: (b3, .cells [.int .i64 (ftPar F0 so).1, .int .i64 (ftPar F0 so).2].toArray 31) :: dtBlk uS qb (.slice a0 (rowF F0).length c0) :: []) 46 rfl ?_
  refine AnyH.take 0 rfl (by kernel_rfl) (by kernel_rfl) (by kernel_rfl) PF.pf rfl (pv_loadK [_, _] rfl rfl rfl ⟨rfl, rfl, trivial⟩) rfl ?_
  refine AnyH.take 1 rfl (by kernel_rfl) (by kernel_rfl) (by kernel_rfl) PF.pf rfl (pv_loadK [_, _] rfl rfl rfl ⟨rfl, rfl, trivial⟩) rfl ?_
  refine AnyH.take 2 rfl (by kernel_rfl) (by kernel_rfl) (by kernel_rfl) PF.pf rfl ((pv_eql_slot rfl rfl).tru (by first | rfl | decide | omega | assumption | (simp; done) | (simp; omega))) rfl ?_
  refine AnyH.take 3 rfl (by kernel_rfl) (by kernel_rfl) (by kernel_rfl) PF.pf rfl (pv_move rfl) rfl ?_
  refine AnyH.take 4 rfl (by kernel_rfl) (by kernel_rfl) (by kernel_rfl) PF.pf ⟨_, _, rfl, rfl, rfl⟩ (pv_move rfl) rfl ?_
  refine AnyH.take 5 rfl (by kernel_rfl) (by kernel_rfl) (by kernel_rfl) PF.pf ⟨_, _, rfl, rfl, rfl⟩ (pv_move rfl) rfl ?_
  refine AnyH.take 6 rfl (by kernel_rfl) (by kernel_rfl) (by kernel_rfl) PF.pf ⟨_, _, rfl, rfl, rfl⟩ ((pv_eql_bool rfl rfl).is (u := .bool true) (by first | rfl | (simp; done) | simp_all)) rfl ?_
  refine AnyH.take 7 rfl (by kernel_rfl) (by kernel_rfl) (by kernel_rfl) PF.pf rfl (pv_pick_true rfl rfl) rfl ?_
  refine AnyH.take 8 rfl (by kernel_rfl) (by kernel_rfl) (by kernel_rfl) PF.pf rfl (pv_move rfl) rfl ?_
  refine AnyH.take 9 rfl (by kernel_rfl) (by kernel_rfl) (by kernel_rfl) PF.pf ⟨_, _, rfl, rfl, rfl⟩ (pv_move rfl) rfl ?_
  refine AnyH.take 10 rfl (by kernel_rfl) (by kernel_rfl) (by kernel_rfl) PF.pf ⟨_, _, rfl, rfl, rfl⟩ (pv_loadK [_, _] rfl rfl rfl ⟨rfl, rfl, trivial⟩) rfl ?_
  refine AnyH.take 12 rfl (by kernel_rfl) (by kernel_rfl) (by kernel_rfl) PF.pf ⟨_, _, rfl, rfl, rfl⟩ (pv_move rfl) rfl ?_
  refine AnyH.take 13 rfl (by kernel_rfl) (by kernel_rfl) (by kernel_rfl) PF.pf ⟨_, _, rfl, rfl, rfl⟩ (pv_loadK [_, _] rfl rfl rfl ⟨rfl, rfl, trivial⟩) rfl ?_
  refine AnyH.one 11 (by kernel_rfl) ?_
  refine Turn.ef rfl ⟨_, _, rfl, rfl, rfl⟩ (ef_callr (tr_fHas hT so) rfl rfl) ?_ ?_
  · rintro _ _ ⟨rfl, rfl⟩; infer_instance
  rintro _ _ ⟨rfl, rfl⟩
  refine AnyH.one 14 (by kernel_rfl) ?_
  refine Turn.ef rfl ⟨_, _, rfl, rfl, rfl⟩ (ef_callr (tr_gHas hD hnd hl20 so) rfl rfl) ?_ ?_
  · rintro _ _ ⟨rfl, rfl⟩; infer_instance
  rintro _ _ ⟨rfl, rfl⟩
  refine AnyH.take 15 rfl (by kernel_rfl) (by kernel_rfl) (by kernel_rfl) PF.pf ⟨_, _, rfl, rfl, rfl⟩ ((pv_eql_bool rfl rfl).is (u := .bool true) (by first | rfl | (simp; done) | simp_all)) rfl ?_
  refine AnyH.take 16 rfl (by kernel_rfl) (by kernel_rfl) (by kernel_rfl) PF.pf rfl (pv_pick_true rfl rfl) rfl ?_
  refine AnyH.take 17 rfl (by kernel_rfl) (by kernel_rfl) (by kernel_rfl) PF.pf rfl (pv_move rfl) rfl ?_
  refine AnyH.take 18 rfl (by kernel_rfl) (by kernel_rfl) (by kernel_rfl) PF.pf ⟨_, _, rfl, rfl, rfl⟩ (pv_move rfl) rfl ?_
  refine AnyH.take 19 rfl (by kernel_rfl) (by kernel_rfl) (by kernel_rfl) PF.pf ⟨_, _, rfl, rfl, rfl⟩ (pv_loadK [_, _] rfl rfl rfl ⟨rfl, rfl, trivial⟩) rfl ?_
  refine AnyH.take 21 rfl (by kernel_rfl) (by kernel_rfl) (by kernel_rfl) PF.pf ⟨_, _, rfl, rfl, rfl⟩ (pv_move rfl) rfl ?_
  refine AnyH.take 22 rfl (by kernel_rfl) (by kernel_rfl) (by kernel_rfl) PF.pf ⟨_, _, rfl, rfl, rfl⟩ (pv_loadK [_, _] rfl rfl rfl ⟨rfl, rfl, trivial⟩) rfl ?_
  refine AnyH.one 20 (by kernel_rfl) ?_
  refine Turn.ef rfl ⟨_, _, rfl, rfl, rfl⟩ (ef_call (tr_fKids hT (by omega) so) rfl rfl) ?_ ?_
  · rintro _ _ ⟨_, _, ⟨C1, hc1, rfl⟩, rfl, rfl⟩; infer_instance
  rintro _ _ ⟨_, _, ⟨C1, hc1, rfl⟩, rfl, rfl⟩
  refine AnyH.app ?_
  obtain ⟨pp1, qq1, rfl⟩ := hc1.form
  refine AnyH.one 23 (by kernel_rfl) ?_
  refine Turn.ef rfl ⟨_, _, rfl, rfl, rfl⟩ (ef_call (tr_gKids hD hnd hl20 so) rfl rfl) ?_ ?_
  · rintro _ _ ⟨_, _, ⟨D1, hd1, rfl⟩, rfl, rfl⟩; infer_instance
  rintro _ _ ⟨_, _, ⟨D1, hd1, rfl⟩, rfl, rfl⟩
  refine AnyH.app ?_
  obtain ⟨pp2, qq2, rfl⟩ := hd1.form
  refine AnyH.one 24 (by kernel_rfl) ?_
  refine Turn.ef rfl ⟨_, _, rfl, rfl, rfl⟩ (ef_callr ((tr_sameSlots (C1 ++ D1) _ _ _ _ (ftKids F0 so) (ftKids F0 so) (hc1.view.mono (by intro p hp; simp [hp])) (hd1.view.mono (by intro p hp; simp [hp])) (by have := ftKids_len F0 so; omega)).eq (r' := .bool true) (by rw [decide_eq_true rfl])) rfl rfl) ?_ ?_
  · rintro _ _ ⟨rfl, rfl⟩; infer_instance
  rintro _ _ ⟨rfl, rfl⟩
  refine AnyH.take 25 rfl (by kernel_rfl) (by kernel_rfl) (by kernel_rfl) PF.pf rfl (pv_pick_true rfl rfl) rfl ?_
  refine AnyH.take 26 rfl (by kernel_rfl) (by kernel_rfl) (by kernel_rfl) PF.pf rfl (pv_move rfl) rfl ?_
  refine AnyH.take 27 rfl (by kernel_rfl) (by kernel_rfl) (by kernel_rfl) PF.pf ⟨_, _, rfl, rfl, rfl⟩ (pv_move rfl) rfl ?_
  refine AnyH.take 28 rfl (by kernel_rfl) (by kernel_rfl) (by kernel_rfl) PF.pf ⟨_, _, rfl, rfl, rfl⟩ (pv_loadK [_, _] rfl rfl rfl ⟨rfl, rfl, trivial⟩) rfl ?_
  refine AnyH.take 30 rfl (by kernel_rfl) (by kernel_rfl) (by kernel_rfl) PF.pf ⟨_, _, rfl, rfl, rfl⟩ (pv_move rfl) rfl ?_
  refine AnyH.take 31 rfl (by kernel_rfl) (by kernel_rfl) (by kernel_rfl) PF.pf ⟨_, _, rfl, rfl, rfl⟩ (pv_loadK [_, _] rfl rfl rfl ⟨rfl, rfl, trivial⟩) rfl ?_
  refine AnyH.one 29 (by kernel_rfl) ?_
  refine Turn.ef rfl ⟨_, _, rfl, rfl, rfl⟩ (ef_call (tr_fKin hT (by omega) so) rfl rfl) ?_ ?_
  · rintro _ _ ⟨_, _, ⟨C2, hc2, rfl⟩, rfl, rfl⟩; infer_instance
  rintro _ _ ⟨_, _, ⟨C2, hc2, rfl⟩, rfl, rfl⟩
  refine AnyH.app ?_
  obtain ⟨pp3, qq3, rfl⟩ := hc2.form
  refine AnyH.one 32 (by kernel_rfl) ?_
  refine Turn.ef rfl ⟨_, _, rfl, rfl, rfl⟩ (ef_call (tr_gKin hD hnd hl20 so) rfl rfl) ?_ ?_
  · rintro _ _ ⟨_, _, ⟨D2, hd2, rfl⟩, rfl, rfl⟩; infer_instance
  rintro _ _ ⟨_, _, ⟨D2, hd2, rfl⟩, rfl, rfl⟩
  refine AnyH.app ?_
  obtain ⟨pp4, qq4, rfl⟩ := hd2.form
  refine AnyH.one 33 (by kernel_rfl) ?_
  refine Turn.ef rfl ⟨_, _, rfl, rfl, rfl⟩ (ef_callr ((tr_sameSlots (C2 ++ D2) _ _ _ _ (ftKin F0 so) (ftKin F0 so) (hc2.view.mono (by intro p hp; simp [hp])) (hd2.view.mono (by intro p hp; simp [hp])) (by have := ftKin_len F0 so; omega)).eq (r' := .bool true) (by rw [decide_eq_true rfl])) rfl rfl) ?_ ?_
  · rintro _ _ ⟨rfl, rfl⟩; infer_instance
  rintro _ _ ⟨rfl, rfl⟩
  refine AnyH.take 34 rfl (by kernel_rfl) (by kernel_rfl) (by kernel_rfl) PF.pf rfl (pv_pick_true rfl rfl) rfl ?_
  refine AnyH.take 35 rfl (by kernel_rfl) (by kernel_rfl) (by kernel_rfl) PF.pf rfl (pv_move rfl) rfl ?_
  refine AnyH.take 36 rfl (by kernel_rfl) (by kernel_rfl) (by kernel_rfl) PF.pf ⟨_, _, rfl, rfl, rfl⟩ (pv_move rfl) rfl ?_
  refine AnyH.take 38 rfl (by kernel_rfl) (by kernel_rfl) (by kernel_rfl) PF.pf ⟨_, _, rfl, rfl, rfl⟩ (pv_move rfl) rfl ?_
  first | refine AnyH.take 39 rfl (by kernel_rfl) (by kernel_rfl) (by kernel_rfl) PF.pf ⟨_, _, rfl, rfl, rfl⟩ (pv_nilCheck rfl) rfl ?_ | refine AnyH.take 39 rfl (by kernel_rfl) (by kernel_rfl) (by kernel_rfl) PF.pf ⟨_, _, rfl, rfl, rfl⟩ (pv_nilCheck_func rfl rfl) rfl ?_
  first | refine AnyH.take 40 rfl (by kernel_rfl) (by kernel_rfl) (by kernel_rfl) PF.pf ⟨_, _, rfl, rfl, rfl⟩ (pv_fieldAddr0 rfl rfl) rfl ?_ | refine AnyH.take 40 rfl (by kernel_rfl) (by kernel_rfl) (by kernel_rfl) PF.pf ⟨_, _, rfl, rfl, rfl⟩ (pv_fieldAddr rfl rfl) rfl ?_
  first | refine AnyH.take 41 rfl (by kernel_rfl) (by kernel_rfl) (by kernel_rfl) PF.pf ⟨_, _, rfl, rfl, rfl⟩ (pv_load rfl rfl rfl) rfl ?_ | refine AnyH.take 41 rfl (by kernel_rfl) (by kernel_rfl) (by kernel_rfl) PF.pf ⟨_, _, rfl, rfl, rfl⟩ (pv_load rfl rfl (by assumption)) rfl ?_
  refine AnyH.take 42 rfl (by kernel_rfl) (by kernel_rfl) (by kernel_rfl) PF.pf ⟨_, _, rfl, rfl, rfl⟩ (pv_len_slice (T := 75) rfl rfl) rfl ?_
  refine AnyH.one 37 (by kernel_rfl) ?_
  refine Turn.ef rfl ⟨_, _, rfl, rfl, rfl⟩ (ef_callr (tr_fLen hT) rfl rfl) ?_ ?_
  · rintro _ _ ⟨rfl, rfl⟩; infer_instance
  rintro _ _ ⟨rfl, rfl⟩
  refine AnyH.take 43 rfl (by kernel_rfl) (by kernel_rfl) (by kernel_rfl) PF.pf ⟨_, _, rfl, rfl, rfl⟩ ((pv_eql rfl rfl).tru (by first | rfl | decide | omega | assumption | (simp; done) | (simp; omega))) rfl ?_
  refine AnyH.take 44 rfl (by kernel_rfl) (by kernel_rfl) (by kernel_rfl) PF.pf rfl (pv_pick_true rfl rfl) rfl ?_
  refine AnyH.take 45 rfl (by kernel_rfl) (by kernel_rfl) (by kernel_rfl) PF.pf rfl (pv_assign rfl) rfl ?_
  refine AnyH.done (by kernel_rfl) ?_
  refine Ends.seq ?_
  refine Wp.ret ?_
  exact Ends.ret (res1 rfl rfl) ⟨rfl, rfl⟩

set_option maxHeartbeats 8000000 in
theorem tr_treeDoes (G : Hp) (a : Option Addr) (c : Nat) (l : List OpT) (ha : ArgS G 5 a (l.map OpT.cells)) (hl : l.length ≤ maxLen) : TrR Try.prog 12 [.slice a l.length c] (G) (.bool true) := by
  refine Tr.enter Try.func12 rfl Try.ntmps12 rfl (fun W F => ?_)
  refine Wp.app ?_
  refine Wp.seq ?_
  refine Wp.region ?_
  refine Ops.pv (pv_assign rfl) rfl ?_
  refine Ops.nil ?_
  refine Ends.seq ?_
  refine Wp.seq ?_
  refine Wp.region ?_
  refine Ops.ef rfl (ef_call (tr_fNew) rfl rfl) ?_
  rintro _ _ ⟨_, Q1, ⟨tb1, rfl, hS1⟩, rfl, rfl⟩
  refine Ops.app ?_
  skip
  refine Ops.pv (pv_build rfl) rfl ?_
  refine Ops.ef rfl (ef_boxK rfl rfl) ?_
  rintro _ _ ⟨b1, rfl, rfl⟩
  refine Ops.pv (pv_assign rfl) rfl ?_
  refine Ops.pv (pv_assign rfl) rfl ?_
  refine Ops.nil ?_
  refine Ends.seq ?_
  refine Wp.seq ?_
  refine Wp.seq ?_
  refine Wp.region ?_
  refine Ops.pv (pv_move rfl) rfl ?_
  refine Ops.pv (pv_eql_nil rfl rfl) rfl ?_
  refine Ops.nil ?_
  refine Ends.seq ?_
  refine Wp.cond_false rfl ?_
  refine Wp.skip ?_
  refine Ends.seq ?_
  refine Wp.seq ?_
  refine Wp.seq ?_
  refine Wp.region ?_
  refine Ops.pv (pv_assign rfl) rfl ?_
  refine Ops.nil ?_
  refine Ends.seq ?_
  refine Wp.block ?_
  refine Wp.loopK (σ := Nat × FoS × Hp × Hp) [(0, _), (3, _), (4, _)] (fun s => [(5, .int .i64 s.1)]) (fun s => s.2.2.1 ++ (s.2.2.2 ++ (G ++ F))) (fun s => s.1 ≤ l.length ∧ s.1 ≤ 60 ∧ TrF s.1 s.2.1 tb1 s.2.2.1 ∧ DtF (.bool false) s.2.1 b1 s.2.2.2) (fun s => l.length - s.1) (0, .nil, Q1, [(b1, .cells [.slice none 0 0].toArray 77)]) ⟨Nat.zero_le _, Nat.zero_le _, hS1, _, [], Slc.nil _ _, rfl⟩ ⟨rfl, rfl, rfl, trivial⟩ ⟨rfl, trivial⟩ (by intro w ho; (try dsimp only [List.nil_append, List.cons_append]); exact Drop.own ho) ?_
  rintro ⟨i, F0, Lt, Lq⟩ KK ⟨hi, hi2, hT, hD⟩ hK
  dsimp only [List.cons_append, List.nil_append] at hK ⊢
  dsimp only at hi hi2 hT hD ⊢
  refine Wp.seq ?_
  refine Wp.seq ?_
  refine Wp.region ?_
  refine Ops.pv (pv_move rfl) rfl ?_
  refine Ops.pv (pv_move rfl) rfl ?_
  refine Ops.pv (pv_len_slice (T := 48) rfl rfl) rfl ?_
  refine Ops.pv (pv_lss rfl rfl) rfl ?_
  refine Ops.pv (pv_move rfl) rfl ?_
  refine Ops.pvc rfl rfl (fun hg => pv_move rfl) rfl ?_
  refine Ops.pvc rfl rfl (fun hg => Pv.setE (t := 17) rfl (cv_pos hg) (pv_lss rfl rfl)) rfl ?_
  refine Ops.pv (pv_pick_and rfl rfl) rfl ?_
  refine Ops.nil ?_
  refine Ends.seq ?_
  first | refine Wp.cond_dect rfl (fun h1 => ?_) (fun h1 => ?_) | refine Wp.cond_t rfl (fun h1 => ?_) (fun h1 => ?_)
  · obtain ⟨x, hq⟩ : ∃ x, l[i]? = some x := ⟨_, List.getElem?_eq_getElem (by omega)⟩
    obtain ⟨_, b, o, cc, T, f, rfl, hmm, hr⟩ := ha i x.cells (by rw [List.getElem?_map, hq]; rfl)
    have hbg : Blk G b (.cells cc.toArray T f) := ⟨hmm⟩
    refine Wp.skip ?_
    refine Ends.seq ?_
    refine Wp.seq ?_
    refine Wp.block ?_
    refine Wp.seq ?_
    refine Wp.region ?_
    refine Ops.pv (pv_move rfl) rfl ?_
    refine Ops.pv (pv_move rfl) rfl ?_
    refine Ops.pv (pv_move rfl) rfl ?_
    refine Ops.pv (pv_move rfl) rfl ?_
    refine Ops.pv (pv_indexAddr (i := i) rfl rfl rfl (by omega)) rfl ?_
    refine Ops.pv (pv_loadK x.cells rfl rfl rfl ⟨hr.1, hr.2.1, hr.2.2.1, hr.2.2.2.1, hr.2.2.2.2.1, trivial⟩) rfl ?_
    refine Ops.ef rfl (ef_call (tr_tact (.bool false) i tb1 b1 F0 Lt Lq hT hD (by omega) x) rfl rfl) ?_
    rintro _ _ ⟨_, _, ⟨rfl, Lt1, Lq1, hT1, hD1, rfl⟩, rfl, rfl⟩
    refine Ops.app ?_
    first | refine Ops.pv (pv_not_dec rfl) rfl ?_ | refine Ops.pv (pv_not rfl) rfl ?_
    refine Ops.pv (pv_move rfl) rfl ?_
    refine Ops.pvg ⟨_, _, rfl, rfl, rfl⟩ (pv_move rfl) rfl ?_
    refine Ops.pvg ⟨_, _, rfl, rfl, rfl⟩ (pv_move rfl) rfl ?_
    refine Ops.pvg ⟨_, _, rfl, rfl, rfl⟩ (pv_move rfl) rfl ?_
    refine Ops.pvg ⟨_, _, rfl, rfl, rfl⟩ (pv_move rfl) rfl ?_
    refine Ops.pvg ⟨_, _, rfl, rfl, rfl⟩ (pv_indexAddr (i := i) rfl rfl rfl (by omega)) rfl ?_
    first | refine Ops.pvg ⟨_, _, rfl, rfl, rfl⟩ (pv_fieldAddr0 rfl rfl) rfl ?_ | refine Ops.pvg ⟨_, _, rfl, rfl, rfl⟩ (pv_fieldAddr rfl rfl) rfl ?_
    refine Ops.pvg ⟨_, _, rfl, rfl, rfl⟩ (pv_loadK [.int .i64 x.a.1, .int .i64 x.a.2] rfl rfl rfl ⟨hr.2.1, hr.2.2.1, trivial⟩) rfl ?_
    refine Ops.efg ⟨_, _, rfl, rfl, rfl⟩ (ef_callr ((tr_tsame (.bool false) (i + 1) tb1 b1 (actF F0 x) Lt1 Lq1 hT1 hD1 (by omega) x.a).eq rfl) rfl rfl) ?_
    rintro _ _ ⟨rfl, rfl⟩
    first | refine Ops.pvg ⟨_, _, rfl, rfl, rfl⟩ (pv_not_dec rfl) rfl ?_ | refine Ops.pvg ⟨_, _, rfl, rfl, rfl⟩ (pv_not rfl) rfl ?_
    refine Ops.pv (pv_pick_false rfl rfl) rfl ?_
    refine Ops.pv (pv_move rfl) rfl ?_
    refine Ops.pvg ⟨_, _, rfl, rfl, rfl⟩ (pv_move rfl) rfl ?_
    refine Ops.pvg ⟨_, _, rfl, rfl, rfl⟩ (pv_move rfl) rfl ?_
    refine Ops.pvg ⟨_, _, rfl, rfl, rfl⟩ (pv_move rfl) rfl ?_
    refine Ops.pvg ⟨_, _, rfl, rfl, rfl⟩ (pv_move rfl) rfl ?_
    refine Ops.pvg ⟨_, _, rfl, rfl, rfl⟩ (pv_indexAddr (i := i) rfl rfl rfl (by omega)) rfl ?_
    first | refine Ops.pvg ⟨_, _, rfl, rfl, rfl⟩ (pv_fieldAddr0 rfl rfl) rfl ?_ | refine Ops.pvg ⟨_, _, rfl, rfl, rfl⟩ (pv_fieldAddr rfl rfl) rfl ?_
    refine Ops.pvg ⟨_, _, rfl, rfl, rfl⟩ (pv_loadK [.int .i64 x.b.1, .int .i64 x.b.2] rfl rfl rfl ⟨hr.2.2.2.1, hr.2.2.2.2.1, trivial⟩) rfl ?_
    refine Ops.efg ⟨_, _, rfl, rfl, rfl⟩ (ef_callr ((tr_tsame (.bool false) (i + 1) tb1 b1 (actF F0 x) Lt1 Lq1 hT1 hD1 (by omega) x.b).eq rfl) rfl rfl) ?_
    rintro _ _ ⟨rfl, rfl⟩
    first | refine Ops.pvg ⟨_, _, rfl, rfl, rfl⟩ (pv_not_dec rfl) rfl ?_ | refine Ops.pvg ⟨_, _, rfl, rfl, rfl⟩ (pv_not rfl) rfl ?_
    refine Ops.pv (pv_pick_false rfl rfl) rfl ?_
    refine Ops.nil ?_
    refine Ends.seq ?_
    refine Wp.cond_false rfl ?_
    refine Wp.skip ?_
    refine Ends.block_normal ?_
    refine Ends.seq ?_
    refine Wp.region ?_
    refine Ops.pv (pv_move rfl) rfl ?_
    first | refine Ops.pv (pv_add rfl rfl (w64 (by omega) (by omega))) rfl ?_ | refine Ops.pv (pv_add rfl rfl rfl) rfl ?_
    refine Ops.pv (pv_assign rfl) rfl ?_
    refine Ops.nil ?_
    refine Ends.goes ?_
    refine Goes.back (hK (i + 1, actF F0 x, Lt1, Lq1) ⟨by dsimp only; omega, by dsimp only; omega, hT1, hD1⟩ (by dsimp only; omega)) ⟨rfl, rfl, rfl, rfl, trivial⟩
  · refine Wp.exit ?_
    refine Ends.then_exit ?_
    refine Ends.then_exit ?_
    refine Ends.block_hit ?_
    refine Ends.seq ?_
    refine Wp.seq ?_
    refine Wp.seq ?_
    refine Wp.region ?_
    refine Ops.pv (pv_assign rfl) rfl ?_
    refine Ops.nil ?_
    refine Ends.seq ?_
    refine Wp.block ?_
    have hD0 := hD
    obtain ⟨v0, H0, hs0, rfl⟩ := hD0
    obtain ⟨a0, c0, rfl⟩ := hs0.form
    have hrl := rowF_len F0
    have hln := hT.len
    refine Wp.loopK (σ := Nat) [(3, _), (4, _)] (fun s => [(6, .int .i64 s)]) (fun s => Lt ++ (dtBlk (.bool false) b1 (.slice a0 (rowF F0).length c0) :: (H0 ++ (G ++ F)))) (fun s => s ≤ (rowF F0).length) (fun s => (rowF F0).length - s) 0 (Nat.zero_le _) ⟨rfl, rfl, trivial⟩ ⟨rfl, trivial⟩ (by intro w ho; (try dsimp only [List.nil_append, List.cons_append]); exact Drop.own ho) ?_
    rintro j KK hj hK
    dsimp only [List.cons_append, List.nil_append] at hK ⊢
    refine Wp.seq ?_
    refine Wp.seq ?_
    refine Wp.region ?_
    refine Ops.pv (pv_move rfl) rfl ?_
    refine Ops.pv (pv_move rfl) rfl ?_
    first | refine Ops.pv (pv_nilCheck rfl) rfl ?_ | refine Ops.pv (pv_nilCheck_func rfl rfl) rfl ?_
    first | refine Ops.pv (pv_fieldAddr0 rfl rfl) rfl ?_ | refine Ops.pv (pv_fieldAddr rfl rfl) rfl ?_
    first | refine Ops.pv (pv_load rfl rfl rfl) rfl ?_ | refine Ops.pv (pv_load rfl rfl (by assumption)) rfl ?_
    refine Ops.pv (pv_len_slice (T := 75) rfl rfl) rfl ?_
    refine Ops.pv (pv_lss rfl rfl) rfl ?_
    refine Ops.nil ?_
    refine Ends.seq ?_
    first | refine Wp.cond_dect rfl (fun h2 => ?_) (fun h2 => ?_) | refine Wp.cond_t rfl (fun h2 => ?_) (fun h2 => ?_)
    · obtain ⟨b, o, cap, cc, T, f, hv1, hbv, hr⟩ := hs0.view.open (by omega)
      cases hv1
      obtain ⟨d, hd⟩ : ∃ d, (rowF F0)[j]? = some d := ⟨_, List.getElem?_eq_getElem (by omega)⟩
      obtain ⟨q0, q1, q2, _⟩ := cel_reads (f := kmC) hr hd
      refine Wp.skip ?_
      refine Ends.seq ?_
      refine Wp.seq ?_
      refine Wp.block ?_
      refine Wp.seq ?_
      refine Wp.region ?_
      refine Ops.pv (pv_move rfl) rfl ?_
      refine Ops.pv (pv_move rfl) rfl ?_
      refine Ops.pv (pv_move rfl) rfl ?_
      first | refine Ops.pv (pv_nilCheck rfl) rfl ?_ | refine Ops.pv (pv_nilCheck_func rfl rfl) rfl ?_
      first | refine Ops.pv (pv_fieldAddr0 rfl rfl) rfl ?_ | refine Ops.pv (pv_fieldAddr rfl rfl) rfl ?_
      first | refine Ops.pv (pv_load rfl rfl rfl) rfl ?_ | refine Ops.pv (pv_load rfl rfl (by assumption)) rfl ?_
      refine Ops.pv (pv_move rfl) rfl ?_
      refine Ops.pv (pv_indexAddr (i := j) rfl rfl rfl (by omega)) rfl ?_
      first | refine Ops.pv (pv_fieldAddr0 rfl rfl) rfl ?_ | refine Ops.pv (pv_fieldAddr rfl rfl) rfl ?_
      refine Ops.pv (pv_loadK [.int .i64 d.1.1, .int .i64 d.1.2] rfl rfl rfl ⟨q0, q1, trivial⟩) rfl ?_
      refine Ops.ef rfl (ef_callr ((tr_tsame (.bool false) i tb1 b1 F0 Lt _ hT hD (by omega) d.1)) rfl rfl) ?_
      rintro _ _ ⟨rfl, rfl⟩
      first | refine Ops.pv (pv_not_dec rfl) rfl ?_ | refine Ops.pv (pv_not rfl) rfl ?_
      refine Ops.nil ?_
      refine Ends.seq ?_
      refine Wp.cond_false rfl ?_
      refine Wp.skip ?_
      refine Ends.block_normal ?_
      refine Ends.seq ?_
      refine Wp.region ?_
      refine Ops.pv (pv_move rfl) rfl ?_
      first | refine Ops.pv (pv_add rfl rfl (w64 (by omega) (by omega))) rfl ?_ | refine Ops.pv (pv_add rfl rfl rfl) rfl ?_
      refine Ops.pv (pv_assign rfl) rfl ?_
      refine Ops.nil ?_
      refine Ends.goes ?_
      refine Goes.back (hK (j + 1) (by omega) (by omega)) ⟨rfl, rfl, rfl, trivial⟩
    · refine Wp.exit ?_
      refine Ends.then_exit ?_
      refine Ends.then_exit ?_
      refine Ends.block_hit ?_
      refine Ends.seq ?_
      refine Wp.seq ?_
      refine Wp.region ?_
      refine Ops.pv (pv_assign rfl) rfl ?_
      refine Ops.nil ?_
      refine Ends.seq ?_
      refine Wp.ret ?_
      exact Ends.ret (res1 rfl rfl) ⟨rfl, rfl⟩

end Go.Proofs.Ytpoamckpdpkpoaa
