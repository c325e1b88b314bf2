/- MovesDoes. Laid together by pack.py out of the texts in wip. -/
import Derived.Test.YtdodfnjmkpgdbaaGreatPMovesDoes5
set_option linter.unusedVariables false
set_option linter.unusedSimpArgs false
set_option linter.unusedSectionVars false
section
set_option linter.unusedVariables false
set_option linter.unusedSimpArgs false
namespace Go.Proofs.YtdodfnjmkpgdbaaGreat
open Go.SL
set_option maxHeartbeats 4000000 in
theorem tr_dRotate (qb : Nat) (L : Hp) (p : PS) (hH : DcH p qb L) (hok : POk p) (hl : p.F.all.length ≤ 2 ^ 20) (hrg : ∀ s, (dget p.l s).1.Rg) (de vo so : SlotM) : Tr Tryz.prog 46 [.pointer (some ⟨qb, 0, none⟩), slotV de, slotV vo, slotV so] (L) (fun u L' => u = .int .i64 (mRotate p de vo so).1 ∧ DcH (mRotate p de vo so).2 qb L') := by
 have hH0 := hH
 obtain ⟨S0, l0, v0, H0, w0, K0, hR0, hQ0, hs0, ht0, rfl⟩ := hH
 have hsv : (mSource p vo).1.Rg := by unfold mSource; split <;> exact hrg vo
 have hss : (mSource p so).1.Rg := by unfold mSource; split <;> exact hrg so
 refine Tr.enter Tryz.func46 rfl Tryz.ntmps46 rfl (fun W F => ?_)
 refine Wp.app ?_
 refine Wp.seq ?_
 refine Wp.region ?_
 refine Ops.ef rfl (ef_boxK rfl rfl) ?_
 rintro _ _ ⟨b1, rfl, rfl⟩
 refine Ops.ef rfl (ef_boxK rfl rfl) ?_
 rintro _ _ ⟨b2, rfl, rfl⟩
 refine Ops.ef rfl (ef_boxK rfl rfl) ?_
 rintro _ _ ⟨b3, rfl, rfl⟩
 refine Ops.pv (pv_assign rfl) rfl ?_
 refine Ops.nil ?_
 refine Ends.seq ?_
 refine Wp.seq ?_
 refine Wp.seq ?_
 refine Wp.region ?_
 refine Ops.pv (pv_loadK [_, _] rfl rfl rfl ⟨rfl, rfl, trivial⟩) rfl ?_
 refine Ops.pv (pv_loadK [_, _] rfl rfl rfl ⟨rfl, rfl, trivial⟩) rfl ?_
 refine Ops.pv (pv_eql_slot rfl rfl) rfl ?_
 refine Ops.pv (pv_move rfl) rfl ?_
 refine Ops.pvcn rfl rfl (fun hg => pv_loadK [_, _] rfl rfl rfl ⟨rfl, rfl, trivial⟩) rfl ?_
 refine Ops.pvcn rfl rfl (fun hg => Pv.setE (t := 17) rfl (cv_pos hg) (pv_loadK [_, _] rfl rfl rfl ⟨rfl, rfl, trivial⟩)) rfl ?_
 refine Ops.pvcn rfl rfl (fun hg => Pv.setE (t := 17) rfl (cv_pos hg) (Pv.setE (t := 18) rfl (cv_pos hg) (pv_eql_slot rfl rfl))) rfl ?_
 refine Ops.pv (pv_pick_or rfl rfl) rfl ?_
 refine Ops.nil ?_
 refine Ends.seq ?_
 refine Wp.cond_dect rfl (fun h1 => ?_) (fun h1 => ?_)
 ·
  refine Wp.seq ?_
  refine Wp.region ?_
  refine Ops.pv (pv_assign rfl) rfl ?_
  refine Ops.nil ?_
  refine Ends.seq ?_
  refine Wp.ret ?_
  refine Ends.then_ret ?_
  have he : mRotate p de vo so = (10, p) := by unfold mRotate; rw [if_pos (by assumption)]
  rw [he]
  exact Ends.ret (L' := (dcBlk qb v0 w0 :: (H0 ++ (dCaps l0 ++ K0)))) (res1 rfl rfl) ⟨rfl, S0, l0, v0, H0, w0, K0, hR0, hQ0, hs0, ht0, rfl⟩
 refine Wp.skip ?_
 refine Ends.seq ?_
 refine Wp.seq ?_
 refine Wp.region ?_
 refine Ops.pv (pv_move rfl) rfl ?_
 refine Ops.pv (pv_loadK [_, _] rfl rfl rfl ⟨rfl, rfl, trivial⟩) rfl ?_
 refine Ops.ef rfl (ef_callr (tr_dSource qb (dcBlk qb v0 w0 :: (H0 ++ (dCaps l0 ++ K0))) p hH0 vo) rfl rfl) ?_
 rintro _ _ ⟨rfl, rfl⟩
 refine Ops.pv (pv_move rfl) rfl ?_
 refine Ops.pv (pv_extract rfl rfl) rfl ?_
 refine Ops.pv (pv_extract rfl rfl) rfl ?_
 refine Ops.ef rfl (ef_allocK tyZ25 rfl) ?_
 rintro _ _ ⟨b4, rfl, rfl⟩
 refine Ops.ef rfl (ef_storeK rfl rfl rfl rfl) ?_
 rintro _ _ ⟨rfl, rfl⟩
 refine Ops.pv (pv_assign rfl) rfl ?_
 refine Ops.nil ?_
 refine Ends.seq ?_
 refine Wp.seq ?_
 refine Wp.seq ?_
 refine Wp.region ?_
 refine Ops.pv (pv_move rfl) rfl ?_
 refine Ops.pv (pv_neq rfl rfl) rfl ?_
 refine Ops.nil ?_
 refine Ends.seq ?_
 refine Wp.cond_dect rfl (fun h2 => ?_) (fun h2 => ?_)
 ·
  refine Wp.seq ?_
  refine Wp.region ?_
  refine Ops.pv (pv_move rfl) rfl ?_
  refine Ops.pv (pv_assign rfl) rfl ?_
  refine Ops.nil ?_
  refine Ends.seq ?_
  refine Wp.ret ?_
  refine Ends.then_ret ?_
  have he : mRotate p de vo so = ((mSource p vo).2, p) := by unfold mRotate; rw [if_neg (by assumption), if_pos (by assumption)]
  rw [he]
  exact Ends.ret (L' := (dcBlk qb v0 w0 :: (H0 ++ (dCaps l0 ++ K0)))) (res1 rfl rfl) ⟨rfl, S0, l0, v0, H0, w0, K0, hR0, hQ0, hs0, ht0, rfl⟩
 refine Wp.skip ?_
 refine Ends.seq ?_
 refine Wp.seq ?_
 refine Wp.region ?_
 refine Ops.pv (pv_move rfl) rfl ?_
 refine Ops.pv (pv_loadK [_, _] rfl rfl rfl ⟨rfl, rfl, trivial⟩) rfl ?_
 refine Ops.ef rfl (ef_callr (tr_dSource qb (dcBlk qb v0 w0 :: (H0 ++ (dCaps l0 ++ K0))) p hH0 so) rfl rfl) ?_
 rintro _ _ ⟨rfl, rfl⟩
 refine Ops.pv (pv_move rfl) rfl ?_
 refine Ops.pv (pv_extract rfl rfl) rfl ?_
 refine Ops.pv (pv_extract rfl rfl) rfl ?_
 refine Ops.ef rfl (ef_allocK tyZ25 rfl) ?_
 rintro _ _ ⟨b5, rfl, rfl⟩
 refine Ops.ef rfl (ef_storeK rfl rfl rfl rfl) ?_
 rintro _ _ ⟨rfl, rfl⟩
 refine Ops.pv (pv_assign rfl) rfl ?_
 refine Ops.nil ?_
 refine Ends.seq ?_
 refine Wp.seq ?_
 refine Wp.seq ?_
 refine Wp.region ?_
 refine Ops.pv (pv_move rfl) rfl ?_
 refine Ops.pv (pv_eql rfl rfl) rfl ?_
 refine Ops.pv (pv_move rfl) rfl ?_
 refine Ops.pvc rfl rfl (fun hg => pv_loadK [_, _] rfl rfl rfl ⟨rfl, rfl, trivial⟩) rfl ?_
 refine Ops.pvc rfl rfl (fun hg => Pv.setE (t := 39) rfl (cv_pos hg) (pv_loadK [_, _] rfl rfl rfl ⟨rfl, rfl, trivial⟩)) rfl ?_
 refine Ops.pvc rfl rfl (fun hg => Pv.setE (t := 39) rfl (cv_pos hg) (Pv.setE (t := 40) rfl (cv_pos hg) (pv_neq_slot rfl rfl))) rfl ?_
 refine Ops.pv (pv_pick_and rfl rfl) rfl ?_
 refine Ops.nil ?_
 refine Ends.seq ?_
 refine Wp.cond_dect rfl (fun h3 => ?_) (fun h3 => ?_)
 ·
  refine Wp.region ?_
  refine Ops.pv (pv_move rfl) rfl ?_
  refine Ops.pv (pv_loadK [_, _] rfl rfl rfl ⟨rfl, rfl, trivial⟩) rfl ?_
  refine Ops.ef rfl (ef_callr (tr_dPlace qb (dcBlk qb v0 w0 :: (H0 ++ (dCaps l0 ++ K0))) p hH0 de) rfl rfl) ?_
  rintro _ _ ⟨rfl, rfl⟩
  refine Ops.pv (pv_assign rfl) rfl ?_
  refine Ops.nil ?_
  refine Ends.seq ?_
  refine Wp.seq ?_
  refine Wp.seq ?_
  refine Wp.region ?_
  refine Ops.pv (pv_move rfl) rfl ?_
  refine Ops.pv (pv_neq rfl rfl) rfl ?_
  refine Ops.nil ?_
  refine Ends.seq ?_
  refine Wp.cond_dect rfl (fun h4 => ?_) (fun h4 => ?_)
  ·
   refine Wp.seq ?_
   refine Wp.region ?_
   refine Ops.pv (pv_move rfl) rfl ?_
   refine Ops.pv (pv_assign rfl) rfl ?_
   refine Ops.nil ?_
   refine Ends.seq ?_
   refine Wp.ret ?_
   refine Ends.then_ret ?_
   have he0 : mRotE p de so = mPlace p de := by unfold mRotE; rw [if_pos (by assumption)]
   have he : mRotate p de vo so = (mRotE p de so, p) := by unfold mRotate; rw [if_neg (by assumption), if_neg (by assumption), if_pos (by rw [he0]; assumption)]
   rw [he, he0]
   exact Ends.ret (L' := (dcBlk qb v0 w0 :: (H0 ++ (dCaps l0 ++ K0)))) (res1 rfl rfl) ⟨rfl, S0, l0, v0, H0, w0, K0, hR0, hQ0, hs0, ht0, rfl⟩
  have he0 : mRotE p de so = 0 := by unfold mRotE; rw [if_pos (by assumption)]; exact Decidable.not_not.1 (by assumption)
  have hv0 : (mSource p vo).2 = 0 := Decidable.not_not.1 (by assumption)
  have hne : ¬ (vo = de ∨ vo = so) := by assumption
  obtain ⟨kv0, kv, _⟩ := src_ok hv0
  obtain ⟨ks, ks0, hd⟩ := rotE_ok he0
  have hm : mRotate p de vo so = (0, ⟨mRotL p.l de vo so (mSource p vo).1 (mSource p so).1, mRotF p.F de vo so⟩) := by unfold mRotate; rw [if_neg hne, if_neg (fun e => e hv0), if_neg (fun e => e he0)]
  refine Wp.skip ?_
  refine Ends.seq ?_
  refine Wp.seq ?_
  refine Wp.seq ?_
  refine Wp.region ?_
  refine Ops.pv (pv_loadK [_, _] rfl rfl rfl ⟨rfl, rfl, trivial⟩) rfl ?_
  refine Ops.pv (pv_loadK [_, _] rfl rfl rfl ⟨rfl, rfl, trivial⟩) rfl ?_
  refine Ops.pv (pv_neq_slot rfl rfl) rfl ?_
  refine Ops.nil ?_
  refine Ends.seq ?_
  refine Wp.cond_dect rfl (fun h5 => ?_) (fun h5 => ?_)
  ·
   have hd2 := hd.resolve_left (by assumption)
   have hok1 : POk (mCarry p vo de (mSource p vo).1) := by rw [kv0]; exact hok.carry kv hd2.1 hd2.2 (hok.rel.check kv) kv
   have hl1 : (mCarry p vo de (mSource p vo).1).F.all.length ≤ 2 ^ 20 := by rw [carry_len]; exact hl
   refine Wp.seq ?_
   refine Wp.region ?_
   refine Ops.pv (pv_move rfl) rfl ?_
   refine Ops.pv (pv_loadK [_, _] rfl rfl rfl ⟨rfl, rfl, trivial⟩) rfl ?_
   refine Ops.pv (pv_loadK [_, _] rfl rfl rfl ⟨rfl, rfl, trivial⟩) rfl ?_
   refine Ops.pv (pv_loadK [_, _, _, _, _, _] rfl rfl rfl ⟨rfl, rfl, rfl, rfl, rfl, rfl, trivial⟩) rfl ?_
   refine Ops.ef rfl (ef_call (tr_dCarry qb (dcBlk qb v0 w0 :: (H0 ++ (dCaps l0 ++ K0))) p hH0 hok hl vo de (mSource p vo).1 hsv) rfl rfl) ?_
   rintro _ _ ⟨_, Q1, ⟨rfl, hH2⟩, rfl, rfl⟩
   refine Ops.app ?_
   skip
   refine Ops.nil ?_
   refine Ends.seq ?_
   refine Wp.seq ?_
   refine Wp.region ?_
   refine Ops.pv (pv_move rfl) rfl ?_
   refine Ops.pv (pv_loadK [_, _] rfl rfl rfl ⟨rfl, rfl, trivial⟩) rfl ?_
   refine Ops.pv (pv_loadK [_, _] rfl rfl rfl ⟨rfl, rfl, trivial⟩) rfl ?_
   refine Ops.pv (pv_loadK [_, _, _, _, _, _] rfl rfl rfl ⟨rfl, rfl, rfl, rfl, rfl, rfl, trivial⟩) rfl ?_
   refine Ops.ef rfl (ef_call (tr_dCarry qb Q1 (mCarry p vo de (mSource p vo).1) hH2 hok1 hl1 so vo (mSource p so).1 hss) rfl rfl) ?_
   rintro _ _ ⟨_, Q2, ⟨rfl, hH3⟩, rfl, rfl⟩
   refine Ops.app ?_
   skip
   refine Ops.nil ?_
   refine Ends.seq ?_
   refine Wp.seq ?_
   refine Wp.region ?_
   refine Ops.pv (pv_assign rfl) rfl ?_
   refine Ops.nil ?_
   refine Ends.seq ?_
   refine Wp.ret ?_
   refine Ends.then_ret ?_
   have hrd := rot_doc hok kv ks (fun e => hne (.inr e)) (fun e => hne (.inl e)) (by assumption) hd2.1 hd2.2
   rw [← kv0, ← ks0] at hrd
   rw [hrd] at hH3
   rw [hm]
   exact Ends.ret (L' := Q2) (res1 rfl rfl) ⟨rfl, hH3⟩
  refine Wp.skip ?_
  refine Ends.seq ?_
  refine Wp.seq ?_
  refine Wp.region ?_
  refine Ops.pv (pv_build rfl) rfl ?_
  refine Ops.ef rfl (ef_allocK tyZ31 rfl) ?_
  rintro _ _ ⟨b6, rfl, rfl⟩
  refine Ops.ef rfl (ef_storeK rfl rfl rfl rfl) ?_
  rintro _ _ ⟨rfl, rfl⟩
  refine Ops.nil ?_
  refine Ends.seq ?_
  refine Wp.seq ?_
  refine AnyH.start ((b2, .cells [.int .i64 vo.1, .int .i64 vo.2].toArray 31) :: []) 5 rfl ?_
  refine Tk 0 rfl rfl (pv_move rfl) rfl ?_
  refine Tk 1 rfl rfl (pv_nilCheck rfl) rfl ?_
  refine Tk 2 rfl rfl (pv_fieldAddr0 rfl rfl) rfl ?_
  refine Tk 3 rfl rfl (pv_loadK [_, _] rfl rfl rfl ⟨rfl, rfl, trivial⟩) rfl ?_
  refine AnyH.one 4 (by kernel_rfl) ?_
  refine Turn.ef rfl rfl (ef_call (dsf_take (uT := w0) ⟨S0, l0, hR0, hQ0, v0, H0, hs0, rfl⟩ vo) rfl rfl) ?_ ?_
  ·
   rintro _ _ ⟨_, _, ⟨rfl, S1, l1, hR1, hQ1, v1, H1, hs1, rfl⟩, rfl, rfl⟩; infer_instance
  rintro _ _ ⟨_, _, ⟨rfl, S1, l1, hR1, hQ1, v1, H1, hs1, rfl⟩, rfl, rfl⟩
  refine AnyH.app ?_
  refine AnyH.done (by kernel_rfl) ?_
  refine Ends.seq ?_
  refine Wp.seq ?_
  refine AnyH.start ((b3, .cells [.int .i64 so.1, .int .i64 so.2].toArray 31) :: []) 5 rfl ?_
  refine Tk 0 rfl rfl (pv_move rfl) rfl ?_
  refine Tk 1 rfl rfl (pv_nilCheck rfl) rfl ?_
  refine Tk 2 rfl rfl (pv_fieldAddr0 rfl rfl) rfl ?_
  refine Tk 3 rfl rfl (pv_loadK [_, _] rfl rfl rfl ⟨rfl, rfl, trivial⟩) rfl ?_
  refine AnyH.one 4 (by kernel_rfl) ?_
  refine Turn.ef rfl rfl (ef_call (dsf_take (uT := w0) ⟨S1, l1, hR1, hQ1, v1, H1, hs1, rfl⟩ so) rfl rfl) ?_ ?_
  ·
   rintro _ _ ⟨_, _, ⟨rfl, S2, l2, hR2, hQ2, v2, H2, hs2, rfl⟩, rfl, rfl⟩; infer_instance
  rintro _ _ ⟨_, _, ⟨rfl, S2, l2, hR2, hQ2, v2, H2, hs2, rfl⟩, rfl, rfl⟩
  refine AnyH.app ?_
  refine AnyH.done (by kernel_rfl) ?_
  refine Ends.seq ?_
  refine Wp.seq ?_
  refine AnyH.start ((b4, .cells (mSource p vo).1.cells.toArray 25) :: (b1, .cells [.int .i64 de.1, .int .i64 de.2].toArray 31) :: []) 6 rfl ?_
  refine Tk 0 rfl rfl (pv_move rfl) rfl ?_
  refine Tk 1 rfl rfl (pv_nilCheck rfl) rfl ?_
  refine Tk 2 rfl rfl (pv_fieldAddr0 rfl rfl) rfl ?_
  refine Tk 3 rfl rfl (pv_loadK [_, _] rfl rfl rfl ⟨rfl, rfl, trivial⟩) rfl ?_
  refine Tk 4 rfl rfl (pv_loadK [_, _, _, _, _, _] rfl rfl rfl ⟨rfl, rfl, rfl, rfl, rfl, rfl, trivial⟩) rfl ?_
  refine AnyH.one 5 (by kernel_rfl) ?_
  refine Turn.ef rfl rfl (ef_call (dsf_put (uT := w0) ⟨S2, l2, hR2, hQ2, v2, H2, hs2, rfl⟩ de (mSource p vo).1 hsv) rfl rfl) ?_ ?_
  ·
   rintro _ _ ⟨_, _, ⟨rfl, S3, l3, hR3, hQ3, v3, H3, hs3, rfl⟩, rfl, rfl⟩; infer_instance
  rintro _ _ ⟨_, _, ⟨rfl, S3, l3, hR3, hQ3, v3, H3, hs3, rfl⟩, rfl, rfl⟩
  refine AnyH.app ?_
  refine AnyH.done (by kernel_rfl) ?_
  refine Ends.seq ?_
  refine Wp.seq ?_
  refine AnyH.start ((b5, .cells (mSource p so).1.cells.toArray 25) :: (b2, .cells [.int .i64 vo.1, .int .i64 vo.2].toArray 31) :: []) 6 rfl ?_
  refine Tk 0 rfl rfl (pv_move rfl) rfl ?_
  refine Tk 1 rfl rfl (pv_nilCheck rfl) rfl ?_
  refine Tk 2 rfl rfl (pv_fieldAddr0 rfl rfl) rfl ?_
  refine Tk 3 rfl rfl (pv_loadK [_, _] rfl rfl rfl ⟨rfl, rfl, trivial⟩) rfl ?_
  refine Tk 4 rfl rfl (pv_loadK [_, _, _, _, _, _] rfl rfl rfl ⟨rfl, rfl, rfl, rfl, rfl, rfl, trivial⟩) rfl ?_
  refine AnyH.one 5 (by kernel_rfl) ?_
  refine Turn.ef rfl rfl (ef_call (dsf_put (uT := w0) ⟨S3, l3, hR3, hQ3, v3, H3, hs3, rfl⟩ vo (mSource p so).1 hss) rfl rfl) ?_ ?_
  ·
   rintro _ _ ⟨_, _, ⟨rfl, S4, l4, hR4, hQ4, v4, H4, hs4, rfl⟩, rfl, rfl⟩; infer_instance
  rintro _ _ ⟨_, _, ⟨rfl, S4, l4, hR4, hQ4, v4, H4, hs4, rfl⟩, rfl, rfl⟩
  refine AnyH.app ?_
  refine AnyH.done (by kernel_rfl) ?_
  refine Ends.seq ?_
  refine Wp.seq ?_
  refine AnyH.start ((b6, .cells [.int .i64 (-1), .int .i64 0].toArray 31) :: (b2, .cells [.int .i64 vo.1, .int .i64 vo.2].toArray 31) :: []) 6 rfl ?_
  refine Tk 0 rfl rfl (pv_move rfl) rfl ?_
  refine Tk 1 rfl rfl (pv_nilCheck rfl) rfl ?_
  refine Tk 2 rfl rfl (pv_fieldAddr0 rfl rfl) rfl ?_
  refine Tk 3 rfl rfl (pv_loadK [_, _] rfl rfl rfl ⟨rfl, rfl, trivial⟩) rfl ?_
  refine Tk 4 rfl rfl (pv_loadK [_, _] rfl rfl rfl ⟨rfl, rfl, trivial⟩) rfl ?_
  refine AnyH.one 5 (by kernel_rfl) ?_
  refine Turn.ef rfl rfl (ef_call (tr_gMove (uS := v4) (F := p.F) ⟨w0, K0, ht0, rfl⟩ hok.nd hl vo (-1, 0)) rfl rfl) ?_ ?_
  ·
   rintro _ _ ⟨_, _, ⟨rfl, w1, K1, ht1, rfl⟩, rfl, rfl⟩; infer_instance
  rintro _ _ ⟨_, _, ⟨rfl, w1, K1, ht1, rfl⟩, rfl, rfl⟩
  refine AnyH.app ?_
  refine AnyH.done (by kernel_rfl) ?_
  refine Ends.seq ?_
  refine Wp.seq ?_
  refine AnyH.start ((b2, .cells [.int .i64 vo.1, .int .i64 vo.2].toArray 31) :: (b3, .cells [.int .i64 so.1, .int .i64 so.2].toArray 31) :: []) 6 rfl ?_
  refine Tk 0 rfl rfl (pv_move rfl) rfl ?_
  refine Tk 1 rfl rfl (pv_nilCheck rfl) rfl ?_
  refine Tk 2 rfl rfl (pv_fieldAddr0 rfl rfl) rfl ?_
  refine Tk 3 rfl rfl (pv_loadK [_, _] rfl rfl rfl ⟨rfl, rfl, trivial⟩) rfl ?_
  refine Tk 4 rfl rfl (pv_loadK [_, _] rfl rfl rfl ⟨rfl, rfl, trivial⟩) rfl ?_
  refine AnyH.one 5 (by kernel_rfl) ?_
  refine Turn.ef rfl rfl (ef_call (tr_gMove (uS := v4) (F := (ftMove p.F vo (-1, 0)).2) ⟨w1, K1, ht1, rfl⟩ (ftMove_nd hok.nd) (by rw [ftMove_len]; exact hl) so vo) rfl rfl) ?_ ?_
  ·
   rintro _ _ ⟨_, _, ⟨rfl, w2, K2, ht2, rfl⟩, rfl, rfl⟩; infer_instance
  rintro _ _ ⟨_, _, ⟨rfl, w2, K2, ht2, rfl⟩, rfl, rfl⟩
  refine AnyH.app ?_
  refine AnyH.done (by kernel_rfl) ?_
  refine Ends.seq ?_
  refine Wp.seq ?_
  refine AnyH.start ((b6, .cells [.int .i64 (-1), .int .i64 0].toArray 31) :: (b1, .cells [.int .i64 de.1, .int .i64 de.2].toArray 31) :: []) 6 rfl ?_
  refine Tk 0 rfl rfl (pv_move rfl) rfl ?_
  refine Tk 1 rfl rfl (pv_nilCheck rfl) rfl ?_
  refine Tk 2 rfl rfl (pv_fieldAddr0 rfl rfl) rfl ?_
  refine Tk 3 rfl rfl (pv_loadK [_, _] rfl rfl rfl ⟨rfl, rfl, trivial⟩) rfl ?_
  refine Tk 4 rfl rfl (pv_loadK [_, _] rfl rfl rfl ⟨rfl, rfl, trivial⟩) rfl ?_
  refine AnyH.one 5 (by kernel_rfl) ?_
  refine Turn.ef rfl rfl (ef_call (tr_gMove (uS := v4) (F := (ftMove (ftMove p.F vo (-1, 0)).2 so vo).2) ⟨w2, K2, ht2, rfl⟩ (ftMove_nd (ftMove_nd hok.nd)) (by rw [ftMove_len, ftMove_len]; exact hl) (-1, 0) de) rfl rfl) ?_ ?_
  ·
   rintro _ _ ⟨_, _, ⟨rfl, w3, K3, ht3, rfl⟩, rfl, rfl⟩; infer_instance
  rintro _ _ ⟨_, _, ⟨rfl, w3, K3, ht3, rfl⟩, rfl, rfl⟩
  refine AnyH.app ?_
  refine AnyH.done (by kernel_rfl) ?_
  refine Ends.seq ?_
  refine Wp.seq ?_
  refine Wp.region ?_
  refine Ops.pv (pv_assign rfl) rfl ?_
  refine Ops.nil ?_
  refine Ends.seq ?_
  refine Wp.ret ?_
  rw [hm]
  exact Ends.ret (L' := dcBlk qb v4 w3 :: (H4 ++ (dCaps l4 ++ K3))) (res1 rfl rfl) ⟨rfl, S4, l4, v4, H4, w3, K3, hR4, hQ4, hs4, ht3, rfl⟩
 refine Wp.skip ?_
 refine Ends.seq ?_
 refine Wp.seq ?_
 refine Wp.seq ?_
 refine Wp.region ?_
 refine Ops.pv (pv_move rfl) rfl ?_
 refine Ops.pv (pv_neq rfl rfl) rfl ?_
 refine Ops.nil ?_
 refine Ends.seq ?_
 refine Wp.cond_dect rfl (fun h6 => ?_) (fun h6 => ?_)
 ·
  refine Wp.seq ?_
  refine Wp.region ?_
  refine Ops.pv (pv_move rfl) rfl ?_
  refine Ops.pv (pv_assign rfl) rfl ?_
  refine Ops.nil ?_
  refine Ends.seq ?_
  refine Wp.ret ?_
  refine Ends.then_ret ?_
  have he0 : mRotE p de so = (mSource p so).2 := by unfold mRotE; rw [if_neg (by assumption)]
  have he : mRotate p de vo so = (mRotE p de so, p) := by unfold mRotate; rw [if_neg (by assumption), if_neg (by assumption), if_pos (by rw [he0]; assumption)]
  rw [he, he0]
  exact Ends.ret (L' := (dcBlk qb v0 w0 :: (H0 ++ (dCaps l0 ++ K0)))) (res1 rfl rfl) ⟨rfl, S0, l0, v0, H0, w0, K0, hR0, hQ0, hs0, ht0, rfl⟩
 have he0 : mRotE p de so = 0 := by unfold mRotE; rw [if_neg (by assumption)]; exact Decidable.not_not.1 (by assumption)
 have hv0 : (mSource p vo).2 = 0 := Decidable.not_not.1 (by assumption)
 have hne : ¬ (vo = de ∨ vo = so) := by assumption
 obtain ⟨kv0, kv, _⟩ := src_ok hv0
 obtain ⟨ks, ks0, hd⟩ := rotE_ok he0
 have hm : mRotate p de vo so = (0, ⟨mRotL p.l de vo so (mSource p vo).1 (mSource p so).1, mRotF p.F de vo so⟩) := by unfold mRotate; rw [if_neg hne, if_neg (fun e => e hv0), if_neg (fun e => e he0)]
 refine Wp.skip ?_
 refine Ends.seq ?_
 refine Wp.seq ?_
 refine Wp.seq ?_
 refine Wp.region ?_
 refine Ops.pv (pv_loadK [_, _] rfl rfl rfl ⟨rfl, rfl, trivial⟩) rfl ?_
 refine Ops.pv (pv_loadK [_, _] rfl rfl rfl ⟨rfl, rfl, trivial⟩) rfl ?_
 refine Ops.pv (pv_neq_slot rfl rfl) rfl ?_
 refine Ops.nil ?_
 refine Ends.seq ?_
 refine Wp.cond_dect rfl (fun h7 => ?_) (fun h7 => ?_)
 ·
  have hd2 := hd.resolve_left (by assumption)
  have hok1 : POk (mCarry p vo de (mSource p vo).1) := by rw [kv0]; exact hok.carry kv hd2.1 hd2.2 (hok.rel.check kv) kv
  have hl1 : (mCarry p vo de (mSource p vo).1).F.all.length ≤ 2 ^ 20 := by rw [carry_len]; exact hl
  refine Wp.seq ?_
  refine Wp.region ?_
  refine Ops.pv (pv_move rfl) rfl ?_
  refine Ops.pv (pv_loadK [_, _] rfl rfl rfl ⟨rfl, rfl, trivial⟩) rfl ?_
  refine Ops.pv (pv_loadK [_, _] rfl rfl rfl ⟨rfl, rfl, trivial⟩) rfl ?_
  refine Ops.pv (pv_loadK [_, _, _, _, _, _] rfl rfl rfl ⟨rfl, rfl, rfl, rfl, rfl, rfl, trivial⟩) rfl ?_
  refine Ops.ef rfl (ef_call (tr_dCarry qb (dcBlk qb v0 w0 :: (H0 ++ (dCaps l0 ++ K0))) p hH0 hok hl vo de (mSource p vo).1 hsv) rfl rfl) ?_
  rintro _ _ ⟨_, Q3, ⟨rfl, hH2⟩, rfl, rfl⟩
  refine Ops.app ?_
  skip
  refine Ops.nil ?_
  refine Ends.seq ?_
  refine Wp.seq ?_
  refine Wp.region ?_
  refine Ops.pv (pv_move rfl) rfl ?_
  refine Ops.pv (pv_loadK [_, _] rfl rfl rfl ⟨rfl, rfl, trivial⟩) rfl ?_
  refine Ops.pv (pv_loadK [_, _] rfl rfl rfl ⟨rfl, rfl, trivial⟩) rfl ?_
  refine Ops.pv (pv_loadK [_, _, _, _, _, _] rfl rfl rfl ⟨rfl, rfl, rfl, rfl, rfl, rfl, trivial⟩) rfl ?_
  refine Ops.ef rfl (ef_call (tr_dCarry qb Q3 (mCarry p vo de (mSource p vo).1) hH2 hok1 hl1 so vo (mSource p so).1 hss) rfl rfl) ?_
  rintro _ _ ⟨_, Q4, ⟨rfl, hH3⟩, rfl, rfl⟩
  refine Ops.app ?_
  skip
  refine Ops.nil ?_
  refine Ends.seq ?_
  refine Wp.seq ?_
  refine Wp.region ?_
  refine Ops.pv (pv_assign rfl) rfl ?_
  refine Ops.nil ?_
  refine Ends.seq ?_
  refine Wp.ret ?_
  refine Ends.then_ret ?_
  have hrd := rot_doc hok kv ks (fun e => hne (.inr e)) (fun e => hne (.inl e)) (by assumption) hd2.1 hd2.2
  rw [← kv0, ← ks0] at hrd
  rw [hrd] at hH3
  rw [hm]
  exact Ends.ret (L' := Q4) (res1 rfl rfl) ⟨rfl, hH3⟩
 refine Wp.skip ?_
 refine Ends.seq ?_
 refine Wp.seq ?_
 refine Wp.region ?_
 refine Ops.pv (pv_build rfl) rfl ?_
 refine Ops.ef rfl (ef_allocK tyZ31 rfl) ?_
 rintro _ _ ⟨b7, rfl, rfl⟩
 refine Ops.ef rfl (ef_storeK rfl rfl rfl rfl) ?_
 rintro _ _ ⟨rfl, rfl⟩
 refine Ops.nil ?_
 refine Ends.seq ?_
 refine Wp.seq ?_
 refine AnyH.start ((b2, .cells [.int .i64 vo.1, .int .i64 vo.2].toArray 31) :: []) 5 rfl ?_
 refine Tk 0 rfl rfl (pv_move rfl) rfl ?_
 refine Tk 1 rfl rfl (pv_nilCheck rfl) rfl ?_
 refine Tk 2 rfl rfl (pv_fieldAddr0 rfl rfl) rfl ?_
 refine Tk 3 rfl rfl (pv_loadK [_, _] rfl rfl rfl ⟨rfl, rfl, trivial⟩) rfl ?_
 refine AnyH.one 4 (by kernel_rfl) ?_
 refine Turn.ef rfl rfl (ef_call (dsf_take (uT := w0) ⟨S0, l0, hR0, hQ0, v0, H0, hs0, rfl⟩ vo) rfl rfl) ?_ ?_
 ·
  rintro _ _ ⟨_, _, ⟨rfl, S5, l5, hR5, hQ5, v5, H5, hs5, rfl⟩, rfl, rfl⟩; infer_instance
 rintro _ _ ⟨_, _, ⟨rfl, S5, l5, hR5, hQ5, v5, H5, hs5, rfl⟩, rfl, rfl⟩
 refine AnyH.app ?_
 refine AnyH.done (by kernel_rfl) ?_
 refine Ends.seq ?_
 refine Wp.seq ?_
 refine AnyH.start ((b3, .cells [.int .i64 so.1, .int .i64 so.2].toArray 31) :: []) 5 rfl ?_
 refine Tk 0 rfl rfl (pv_move rfl) rfl ?_
 refine Tk 1 rfl rfl (pv_nilCheck rfl) rfl ?_
 refine Tk 2 rfl rfl (pv_fieldAddr0 rfl rfl) rfl ?_
 refine Tk 3 rfl rfl (pv_loadK [_, _] rfl rfl rfl ⟨rfl, rfl, trivial⟩) rfl ?_
 refine AnyH.one 4 (by kernel_rfl) ?_
 refine Turn.ef rfl rfl (ef_call (dsf_take (uT := w0) ⟨S5, l5, hR5, hQ5, v5, H5, hs5, rfl⟩ so) rfl rfl) ?_ ?_
 ·
  rintro _ _ ⟨_, _, ⟨rfl, S6, l6, hR6, hQ6, v6, H6, hs6, rfl⟩, rfl, rfl⟩; infer_instance
 rintro _ _ ⟨_, _, ⟨rfl, S6, l6, hR6, hQ6, v6, H6, hs6, rfl⟩, rfl, rfl⟩
 refine AnyH.app ?_
 refine AnyH.done (by kernel_rfl) ?_
 refine Ends.seq ?_
 refine Wp.seq ?_
 refine AnyH.start ((b4, .cells (mSource p vo).1.cells.toArray 25) :: (b1, .cells [.int .i64 de.1, .int .i64 de.2].toArray 31) :: []) 6 rfl ?_
 refine Tk 0 rfl rfl (pv_move rfl) rfl ?_
 refine Tk 1 rfl rfl (pv_nilCheck rfl) rfl ?_
 refine Tk 2 rfl rfl (pv_fieldAddr0 rfl rfl) rfl ?_
 refine Tk 3 rfl rfl (pv_loadK [_, _] rfl rfl rfl ⟨rfl, rfl, trivial⟩) rfl ?_
 refine Tk 4 rfl rfl (pv_loadK [_, _, _, _, _, _] rfl rfl rfl ⟨rfl, rfl, rfl, rfl, rfl, rfl, trivial⟩) rfl ?_
 refine AnyH.one 5 (by kernel_rfl) ?_
 refine Turn.ef rfl rfl (ef_call (dsf_put (uT := w0) ⟨S6, l6, hR6, hQ6, v6, H6, hs6, rfl⟩ de (mSource p vo).1 hsv) rfl rfl) ?_ ?_
 ·
  rintro _ _ ⟨_, _, ⟨rfl, S7, l7, hR7, hQ7, v7, H7, hs7, rfl⟩, rfl, rfl⟩; infer_instance
 rintro _ _ ⟨_, _, ⟨rfl, S7, l7, hR7, hQ7, v7, H7, hs7, rfl⟩, rfl, rfl⟩
 refine AnyH.app ?_
 refine AnyH.done (by kernel_rfl) ?_
 refine Ends.seq ?_
 refine Wp.seq ?_
 refine AnyH.start ((b5, .cells (mSource p so).1.cells.toArray 25) :: (b2, .cells [.int .i64 vo.1, .int .i64 vo.2].toArray 31) :: []) 6 rfl ?_
 refine Tk 0 rfl rfl (pv_move rfl) rfl ?_
 refine Tk 1 rfl rfl (pv_nilCheck rfl) rfl ?_
 refine Tk 2 rfl rfl (pv_fieldAddr0 rfl rfl) rfl ?_
 refine Tk 3 rfl rfl (pv_loadK [_, _] rfl rfl rfl ⟨rfl, rfl, trivial⟩) rfl ?_
 refine Tk 4 rfl rfl (pv_loadK [_, _, _, _, _, _] rfl rfl rfl ⟨rfl, rfl, rfl, rfl, rfl, rfl, trivial⟩) rfl ?_
 refine AnyH.one 5 (by kernel_rfl) ?_
 refine Turn.ef rfl rfl (ef_call (dsf_put (uT := w0) ⟨S7, l7, hR7, hQ7, v7, H7, hs7, rfl⟩ vo (mSource p so).1 hss) rfl rfl) ?_ ?_
 ·
  rintro _ _ ⟨_, _, ⟨rfl, S8, l8, hR8, hQ8, v8, H8, hs8, rfl⟩, rfl, rfl⟩; infer_instance
 rintro _ _ ⟨_, _, ⟨rfl, S8, l8, hR8, hQ8, v8, H8, hs8, rfl⟩, rfl, rfl⟩
 refine AnyH.app ?_
 refine AnyH.done (by kernel_rfl) ?_
 refine Ends.seq ?_
 refine Wp.seq ?_
 refine AnyH.start ((b7, .cells [.int .i64 (-1), .int .i64 0].toArray 31) :: (b2, .cells [.int .i64 vo.1, .int .i64 vo.2].toArray 31) :: []) 6 rfl ?_
 refine Tk 0 rfl rfl (pv_move rfl) rfl ?_
 refine Tk 1 rfl rfl (pv_nilCheck rfl) rfl ?_
 refine Tk 2 rfl rfl (pv_fieldAddr0 rfl rfl) rfl ?_
 refine Tk 3 rfl rfl (pv_loadK [_, _] rfl rfl rfl ⟨rfl, rfl, trivial⟩) rfl ?_
 refine Tk 4 rfl rfl (pv_loadK [_, _] rfl rfl rfl ⟨rfl, rfl, trivial⟩) rfl ?_
 refine AnyH.one 5 (by kernel_rfl) ?_
 refine Turn.ef rfl rfl (ef_call (tr_gMove (uS := v8) (F := p.F) ⟨w0, K0, ht0, rfl⟩ hok.nd hl vo (-1, 0)) rfl rfl) ?_ ?_
 ·
  rintro _ _ ⟨_, _, ⟨rfl, w4, K4, ht4, rfl⟩, rfl, rfl⟩; infer_instance
 rintro _ _ ⟨_, _, ⟨rfl, w4, K4, ht4, rfl⟩, rfl, rfl⟩
 refine AnyH.app ?_
 refine AnyH.done (by kernel_rfl) ?_
 refine Ends.seq ?_
 refine Wp.seq ?_
 refine AnyH.start ((b2, .cells [.int .i64 vo.1, .int .i64 vo.2].toArray 31) :: (b3, .cells [.int .i64 so.1, .int .i64 so.2].toArray 31) :: []) 6 rfl ?_
 refine Tk 0 rfl rfl (pv_move rfl) rfl ?_
 refine Tk 1 rfl rfl (pv_nilCheck rfl) rfl ?_
 refine Tk 2 rfl rfl (pv_fieldAddr0 rfl rfl) rfl ?_
 refine Tk 3 rfl rfl (pv_loadK [_, _] rfl rfl rfl ⟨rfl, rfl, trivial⟩) rfl ?_
 refine Tk 4 rfl rfl (pv_loadK [_, _] rfl rfl rfl ⟨rfl, rfl, trivial⟩) rfl ?_
 refine AnyH.one 5 (by kernel_rfl) ?_
 refine Turn.ef rfl rfl (ef_call (tr_gMove (uS := v8) (F := (ftMove p.F vo (-1, 0)).2) ⟨w4, K4, ht4, rfl⟩ (ftMove_nd hok.nd) (by rw [ftMove_len]; exact hl) so vo) rfl rfl) ?_ ?_
 ·
  rintro _ _ ⟨_, _, ⟨rfl, w5, K5, ht5, rfl⟩, rfl, rfl⟩; infer_instance
 rintro _ _ ⟨_, _, ⟨rfl, w5, K5, ht5, rfl⟩, rfl, rfl⟩
 refine AnyH.app ?_
 refine AnyH.done (by kernel_rfl) ?_
 refine Ends.seq ?_
 refine Wp.seq ?_
 refine AnyH.start ((b7, .cells [.int .i64 (-1), .int .i64 0].toArray 31) :: (b1, .cells [.int .i64 de.1, .int .i64 de.2].toArray 31) :: []) 6 rfl ?_
 refine Tk 0 rfl rfl (pv_move rfl) rfl ?_
 refine Tk 1 rfl rfl (pv_nilCheck rfl) rfl ?_
 refine Tk 2 rfl rfl (pv_fieldAddr0 rfl rfl) rfl ?_
 refine Tk 3 rfl rfl (pv_loadK [_, _] rfl rfl rfl ⟨rfl, rfl, trivial⟩) rfl ?_
 refine Tk 4 rfl rfl (pv_loadK [_, _] rfl rfl rfl ⟨rfl, rfl, trivial⟩) rfl ?_
 refine AnyH.one 5 (by kernel_rfl) ?_
 refine Turn.ef rfl rfl (ef_call (tr_gMove (uS := v8) (F := (ftMove (ftMove p.F vo (-1, 0)).2 so vo).2) ⟨w5, K5, ht5, rfl⟩ (ftMove_nd (ftMove_nd hok.nd)) (by rw [ftMove_len, ftMove_len]; exact hl) (-1, 0) de) rfl rfl) ?_ ?_
 ·
  rintro _ _ ⟨_, _, ⟨rfl, w6, K6, ht6, rfl⟩, rfl, rfl⟩; infer_instance
 rintro _ _ ⟨_, _, ⟨rfl, w6, K6, ht6, rfl⟩, rfl, rfl⟩
 refine AnyH.app ?_
 refine AnyH.done (by kernel_rfl) ?_
 refine Ends.seq ?_
 refine Wp.seq ?_
 refine Wp.region ?_
 refine Ops.pv (pv_assign rfl) rfl ?_
 refine Ops.nil ?_
 refine Ends.seq ?_
 refine Wp.ret ?_
 rw [hm]
 exact Ends.ret (L' := dcBlk qb v8 w6 :: (H8 ++ (dCaps l8 ++ K6))) (res1 rfl rfl) ⟨rfl, S8, l8, v8, H8, w6, K6, hR8, hQ8, hs8, ht6, rfl⟩
section
variable {l : List DN} {sb : Nat} {L : Hp} (hH : StF l sb L) {S : StoreM} (hR : Rel S l) (root : CapM) (p : Nat) (hp : p < 2 ^ 64)
include hH hR hp
theorem sf_cap : TrR Tryz.prog 62 [stP sb, root.v, .int .u64 p] L (.tuple #[slotV (capM S root p).1, (capM S root p).2.1.v, .int .i64 (capM S root p).2.2]) := by
 obtain ⟨S1, hR1, rfl⟩ := hH
 exact (tr_cap sb S1 root p hR1.wf hp).eq (by rw [cap_congr (S1 := S) (fun s => by rw [rel_get hR1, rel_get hR]) (fun i => by rw [rel_radix hR1, rel_radix hR])])
theorem sf_find (depth : Int) : TrR Tryz.prog 64 [stP sb, root.v, .int .u64 p, .int .i64 depth] L (.tuple #[slotV (findM S root p depth).1, .int .i64 (findM S root p depth).2]) := by
 obtain ⟨S1, hR1, rfl⟩ := hH
 exact (tr_find sb S1 root p depth hR1.wf hp).eq (by rw [find_congr (S1 := S) (fun s => by rw [rel_get hR1, rel_get hR]) (fun i => by rw [rel_radix hR1, rel_radix hR])])
end
theorem tr_mFind (n cb : Nat) (L : Hp) (p : PS) (hH : CapsH n p cb L) (S : StoreM) (hR : Rel S p.l) (root : CapM) (q : Nat) (hq : q < 2 ^ 64) : TrR Tryz.prog 16 [cpP cb, root.v, .int .u64 q] (L) (.tuple #[slotV (capM S root q).1, (capM S root q).2.1.v, .int .i64 (capM S root q).2.2]) := by
 obtain ⟨sb, tb, Ls, Lt, hS, hT, rfl⟩ := hH
 refine Tr.enter Tryz.func16 rfl Tryz.ntmps16 rfl (fun W F => ?_)
 refine Wp.app ?_
 refine Wp.seq ?_
 refine Wp.region ?_
 refine Ops.ef rfl (ef_boxK rfl rfl) ?_
 rintro _ _ ⟨b1, rfl, rfl⟩
 refine Ops.ef rfl (ef_allocK tyZ31 rfl) ?_
 rintro _ _ ⟨b2, rfl, rfl⟩
 refine Ops.ef rfl (ef_allocK tyZ25 rfl) ?_
 rintro _ _ ⟨b3, rfl, rfl⟩
 refine Ops.pv (pv_assign rfl) rfl ?_
 refine Ops.nil ?_
 refine Ends.seq ?_
 refine Wp.seq ?_
 refine AnyH.start ((b1, .cells root.cells.toArray 25) :: cBlk cb sb tb :: []) 14 rfl ?_
 refine Tk 0 rfl rfl (pv_move rfl) rfl ?_
 refine Tk 1 rfl rfl (pv_nilCheck rfl) rfl ?_
 refine Tk 2 rfl rfl (pv_fieldAddr0 rfl rfl) rfl ?_
 refine Tk 3 rfl rfl (pv_fieldAddr0 rfl rfl) rfl ?_
 refine Tk 4 rfl rfl (pv_load rfl rfl rfl) rfl ?_
 refine Tk 5 rfl rfl (pv_loadK [_, _, _, _, _, _] rfl rfl rfl ⟨rfl, rfl, rfl, rfl, rfl, rfl, trivial⟩) rfl ?_
 refine Tk 6 rfl rfl (pv_move rfl) rfl ?_
 refine AnyH.one 7 (by kernel_rfl) ?_
 refine Turn.ef rfl rfl (ef_callr (sf_cap hS hR root q hq) rfl rfl) ?_ ?_
 ·
  rintro _ _ ⟨rfl, rfl⟩; infer_instance
 rintro _ _ ⟨rfl, rfl⟩
 refine Tk 8 rfl rfl (pv_extract rfl rfl) rfl ?_
 refine Tk 9 rfl rfl (pv_extract rfl rfl) rfl ?_
 refine Tk 10 rfl rfl (pv_extract rfl rfl) rfl ?_
 refine AnyH.one 11 (by kernel_rfl) ?_
 refine Turn.ef rfl rfl (ef_storeK rfl rfl rfl rfl) ?_ ?_
 ·
  rintro _ _ ⟨rfl, rfl⟩; infer_instance
 rintro _ _ ⟨rfl, rfl⟩
 refine AnyH.one 12 (by kernel_rfl) ?_
 refine Turn.ef rfl rfl (ef_storeK rfl rfl rfl rfl) ?_ ?_
 ·
  rintro _ _ ⟨rfl, rfl⟩; infer_instance
 rintro _ _ ⟨rfl, rfl⟩
 refine Tk 13 rfl rfl (pv_assign rfl) rfl ?_
 refine AnyH.done (by kernel_rfl) ?_
 refine Ends.seq ?_
 refine Wp.ret ?_
 exact Ends.ret (res_list (rs := [.cell 6 31, .cell 7 25, .tmp 8]) rfl ⟨_, _, rfl, rv_cellK [_, _] rfl rfl rfl ⟨rfl, rfl, trivial⟩, ⟨_, _, rfl, rv_cellK [_, _, _, _, _, _] rfl rfl rfl ⟨rfl, rfl, rfl, rfl, rfl, rfl, trivial⟩, ⟨_, _, rfl, rv_tmp rfl, rfl⟩⟩⟩ rfl) ⟨rfl, rfl⟩
theorem tr_mSlotA (n cb : Nat) (L : Hp) (p : PS) (hH : CapsH n p cb L) (S : StoreM) (hR : Rel S p.l) (root : CapM) (q : Nat) (hq : q < 2 ^ 64) (depth : Int) : TrR Tryz.prog 18 [cpP cb, root.v, .int .u64 q, .int .i64 depth] (L) (.tuple #[slotV (findM S root q depth).1, .int .i64 (findM S root q depth).2]) := by
 obtain ⟨sb, tb, Ls, Lt, hS, hT, rfl⟩ := hH
 refine Tr.enter Tryz.func18 rfl Tryz.ntmps18 rfl (fun W F => ?_)
 refine Wp.app ?_
 refine Wp.seq ?_
 refine Wp.region ?_
 refine Ops.ef rfl (ef_boxK rfl rfl) ?_
 rintro _ _ ⟨b1, rfl, rfl⟩
 refine Ops.ef rfl (ef_allocK tyZ31 rfl) ?_
 rintro _ _ ⟨b2, rfl, rfl⟩
 refine Ops.pv (pv_assign rfl) rfl ?_
 refine Ops.nil ?_
 refine Ends.seq ?_
 refine Wp.seq ?_
 refine AnyH.start ((b1, .cells root.cells.toArray 25) :: cBlk cb sb tb :: []) 13 rfl ?_
 refine Tk 0 rfl rfl (pv_move rfl) rfl ?_
 refine Tk 1 rfl rfl (pv_nilCheck rfl) rfl ?_
 refine Tk 2 rfl rfl (pv_fieldAddr0 rfl rfl) rfl ?_
 refine Tk 3 rfl rfl (pv_fieldAddr0 rfl rfl) rfl ?_
 refine Tk 4 rfl rfl (pv_load rfl rfl rfl) rfl ?_
 refine Tk 5 rfl rfl (pv_loadK [_, _, _, _, _, _] rfl rfl rfl ⟨rfl, rfl, rfl, rfl, rfl, rfl, trivial⟩) rfl ?_
 refine Tk 6 rfl rfl (pv_move rfl) rfl ?_
 refine Tk 7 rfl rfl (pv_move rfl) rfl ?_
 refine AnyH.one 8 (by kernel_rfl) ?_
 refine Turn.ef rfl rfl (ef_callr (sf_find hS hR root q hq depth) rfl rfl) ?_ ?_
 ·
  rintro _ _ ⟨rfl, rfl⟩; infer_instance
 rintro _ _ ⟨rfl, rfl⟩
 refine Tk 9 rfl rfl (pv_extract rfl rfl) rfl ?_
 refine Tk 10 rfl rfl (pv_extract rfl rfl) rfl ?_
 refine AnyH.one 11 (by kernel_rfl) ?_
 refine Turn.ef rfl rfl (ef_storeK rfl rfl rfl rfl) ?_ ?_
 ·
  rintro _ _ ⟨rfl, rfl⟩; infer_instance
 rintro _ _ ⟨rfl, rfl⟩
 refine Tk 12 rfl rfl (pv_assign rfl) rfl ?_
 refine AnyH.done (by kernel_rfl) ?_
 refine Ends.seq ?_
 refine Wp.ret ?_
 exact Ends.ret (res_list (rs := [.cell 8 31, .tmp 9]) rfl ⟨_, _, rfl, rv_cellK [_, _] rfl rfl rfl ⟨rfl, rfl, trivial⟩, ⟨_, _, rfl, rv_tmp rfl, rfl⟩⟩ rfl) ⟨rfl, rfl⟩
set_option maxHeartbeats 8000000 in
theorem tr_zAct (n cb qb : Nat) (Lc Ld : Hp) (p : PS) (hC : CapsH n p cb Lc) (hD : DcH p qb Ld) (h : ROk p) (hn : n ≤ 2 ^ 19) (x : OpC) (hxr : x.Rg) : Tr Tryz.prog 7 [cpP cb, .pointer (some ⟨qb, 0, none⟩), .agg x.cells.toArray] (Lc ++ Ld) (fun u L' => u = .bool true ∧ ∃ Lc' Ld', CapsH (n + 1) (actZ p x) cb Lc' ∧ DcH (actZ p x) qb Ld' ∧ L' = Lc' ++ Ld') := by
 have hok := h.ok
 obtain ⟨sb, tb, Ls, Lt, hS, hT, rfl⟩ := hC
 obtain ⟨S0, l0, v0, H0, w0, K0, hR0, hQ0, hs0, ht0, rfl⟩ := hD
 have hl : p.F.all.length ≤ 2 ^ 20 := by have := hT.len; omega
 rw [List.cons_append, List.append_assoc]
 refine Tr.enter Tryz.func7 rfl Tryz.ntmps7 rfl (fun W F => ?_)
 refine Wp.app ?_
 refine Wp.seq ?_
 refine Wp.region ?_
 refine Ops.ef rfl (ef_boxK rfl rfl) ?_
 rintro _ _ ⟨b1, rfl, rfl⟩
 refine Ops.pv (pv_assign rfl) rfl ?_
 refine Ops.nil ?_
 refine Ends.seq ?_
 refine Wp.seq ?_
 refine Wp.seq ?_
 refine Wp.region ?_
 refine Ops.pv (pv_fieldAddr0 rfl rfl) rfl ?_
 refine Ops.pv (pv_load rfl rfl rfl) rfl ?_
 refine Ops.nil ?_
 refine Ends.seq ?_
 refine Wp.block ?_
 refine Wp.seq ?_
 refine Wp.region ?_
 refine Ops.pv (pv_eql rfl rfl) rfl ?_
 refine Ops.pv (pv_assign rfl) rfl ?_
 refine Ops.nil ?_
 refine Ends.seq ?_
 refine Wp.cond_dect rfl (fun h1 => ?_) (fun h1 => ?_)
 ·
  refine Wp.seq ?_
  refine AnyH.start ((b1, .cells x.cells.toArray 33) :: cBlk cb sb tb :: []) 21 rfl ?_
  refine Tk 0 rfl rfl (pv_move rfl) rfl ?_
  refine Tk 1 rfl rfl (pv_nilCheck rfl) rfl ?_
  refine Tk 2 rfl rfl (pv_fieldAddr0 rfl rfl) rfl ?_
  refine Tk 3 rfl rfl (pv_loadK [_] rfl rfl rfl ⟨rfl, trivial⟩) rfl ?_
  refine Tk 4 rfl rfl (pv_fieldAddr0 rfl rfl) rfl ?_
  refine Tk 5 rfl rfl (pv_fieldAddr rfl rfl) rfl ?_
  refine Tk 6 rfl rfl (pv_load rfl rfl rfl) rfl ?_
  refine Tk 7 rfl rfl (pv_fieldAddr0 rfl rfl) rfl ?_
  refine Tk 8 rfl rfl (pv_load rfl rfl rfl) rfl ?_
  refine Tk 10 rfl rfl (pv_move rfl) rfl ?_
  refine Tk 11 rfl rfl (pv_nilCheck rfl) rfl ?_
  refine Tk 12 rfl rfl (pv_fieldAddr0 rfl rfl) rfl ?_
  refine Tk 13 rfl rfl (pv_fieldAddr0 rfl rfl) rfl ?_
  refine Tk 14 rfl rfl (pv_fieldAddr rfl rfl) rfl ?_
  refine Tk 15 rfl rfl (pv_load rfl rfl rfl) rfl ?_
  refine Tk 16 rfl rfl (pv_fieldAddr0 rfl rfl) rfl ?_
  refine Tk 17 rfl rfl (pv_load rfl rfl rfl) rfl ?_
  refine AnyH.one 9 (by kernel_rfl) ?_
  refine Turn.ef rfl rfl (ef_call (tr_smNode _ sb Ls hS x.a.1 x.n) rfl rfl) ?_ ?_
  ·
   rintro _ _ ⟨_, QC1, ⟨rfl, hS2⟩, rfl, rfl⟩; infer_instance
  rintro _ _ ⟨_, QC1, ⟨rfl, hS2⟩, rfl, rfl⟩
  refine AnyH.app ?_
  skip
  refine AnyH.one 18 (by kernel_rfl) ?_
  refine Turn.ef rfl rfl (ef_call (dsf_add (uT := w0) ⟨S0, l0, hR0, hQ0, v0, H0, hs0, rfl⟩ x.a.1 x.n) rfl rfl) ?_ ?_
  ·
   rintro _ _ ⟨_, _, ⟨rfl, S1, l1, hR1, hQ1, v1, H1, hs1, rfl⟩, rfl, rfl⟩; infer_instance
  rintro _ _ ⟨_, _, ⟨rfl, S1, l1, hR1, hQ1, v1, H1, hs1, rfl⟩, rfl, rfl⟩
  refine AnyH.app ?_
  refine Tk 19 rfl rfl ((pv_eql rfl rfl).tru rfl) rfl ?_
  refine Tk 20 rfl rfl (pv_assign rfl) rfl ?_
  refine AnyH.done (by kernel_rfl) ?_
  refine Ends.seq ?_
  refine Wp.ret ?_
  refine Ends.block_ret ?_
  refine Ends.then_ret ?_
  have ha : actZ p x = (mNode p x.a.1 x.n).2 := by unfold actZ; simp_all
  rw [ha]
  exact Ends.ret (L' := cBlk cb sb tb :: (QC1 ++ (Lt ++ (dcBlk qb v1 w0 :: (H1 ++ (dCaps l1 ++ K0)))))) (res1 rfl rfl) ⟨rfl, _, _, ⟨_, _, _, _, hS2, hT.more (by omega), rfl⟩, ⟨S1, l1, v1, H1, w0, K0, hR1, hQ1, hs1, ht0, rfl⟩, by rw [List.cons_append, List.append_assoc]⟩
 refine Wp.seq ?_
 refine Wp.region ?_
 refine Ops.pv (pv_eql rfl rfl) rfl ?_
 refine Ops.pv (pv_assign rfl) rfl ?_
 refine Ops.nil ?_
 refine Ends.seq ?_
 refine Wp.cond_dect rfl (fun h2 => ?_) (fun h2 => ?_)
 ·
  refine Wp.seq ?_
  refine AnyH.start ((b1, .cells x.cells.toArray 33) :: cBlk cb sb tb :: []) 17 rfl ?_
  refine Tk 0 rfl rfl (pv_move rfl) rfl ?_
  refine Tk 1 rfl rfl (pv_nilCheck rfl) rfl ?_
  refine Tk 2 rfl rfl (pv_fieldAddr0 rfl rfl) rfl ?_
  refine Tk 3 rfl rfl (pv_loadK [_] rfl rfl rfl ⟨rfl, trivial⟩) rfl ?_
  refine Tk 4 rfl rfl (pv_fieldAddr0 rfl rfl) rfl ?_
  refine Tk 5 rfl rfl (pv_fieldAddr rfl rfl) rfl ?_
  refine Tk 6 rfl rfl (pv_load rfl rfl rfl) rfl ?_
  refine Tk 8 rfl rfl (pv_move rfl) rfl ?_
  refine Tk 9 rfl rfl (pv_nilCheck rfl) rfl ?_
  refine Tk 10 rfl rfl (pv_fieldAddr0 rfl rfl) rfl ?_
  refine Tk 11 rfl rfl (pv_fieldAddr0 rfl rfl) rfl ?_
  refine Tk 12 rfl rfl (pv_fieldAddr rfl rfl) rfl ?_
  refine Tk 13 rfl rfl (pv_load rfl rfl rfl) rfl ?_
  refine AnyH.one 7 (by kernel_rfl) ?_
  refine Turn.ef rfl rfl (ef_call (tr_smClear _ sb Ls hS x.a.1) rfl rfl) ?_ ?_
  ·
   rintro _ _ ⟨_, QC2, ⟨rfl, hS2⟩, rfl, rfl⟩; infer_instance
  rintro _ _ ⟨_, QC2, ⟨rfl, hS2⟩, rfl, rfl⟩
  refine AnyH.app ?_
  skip
  refine AnyH.one 14 (by kernel_rfl) ?_
  refine Turn.ef rfl rfl (ef_call (dsf_drop (uT := w0) ⟨S0, l0, hR0, hQ0, v0, H0, hs0, rfl⟩ x.a.1) rfl rfl) ?_ ?_
  ·
   rintro _ _ ⟨_, _, ⟨rfl, S2, l2, hR2, hQ2, v2, H2, hs2, rfl⟩, rfl, rfl⟩; infer_instance
  rintro _ _ ⟨_, _, ⟨rfl, S2, l2, hR2, hQ2, v2, H2, hs2, rfl⟩, rfl, rfl⟩
  refine AnyH.app ?_
  refine Tk 15 rfl rfl ((pv_eql rfl rfl).tru rfl) rfl ?_
  refine Tk 16 rfl rfl (pv_assign rfl) rfl ?_
  refine AnyH.done (by kernel_rfl) ?_
  refine Ends.seq ?_
  refine Wp.ret ?_
  refine Ends.block_ret ?_
  refine Ends.then_ret ?_
  have ha : actZ p x = (mClear p x.a.1).2 := by unfold actZ; simp_all
  rw [ha]
  exact Ends.ret (L' := cBlk cb sb tb :: (QC2 ++ (Lt ++ (dcBlk qb v2 w0 :: (H2 ++ (dCaps l2 ++ K0)))))) (res1 rfl rfl) ⟨rfl, _, _, ⟨_, _, _, _, hS2, hT.more (by omega), rfl⟩, ⟨S2, l2, v2, H2, w0, K0, hR2, hQ2, hs2, ht0, rfl⟩, by rw [List.cons_append, List.append_assoc]⟩
 refine Wp.seq ?_
 refine Wp.region ?_
 refine Ops.pv (pv_eql rfl rfl) rfl ?_
 refine Ops.pv (pv_assign rfl) rfl ?_
 refine Ops.nil ?_
 refine Ends.seq ?_
 refine Wp.cond_dect rfl (fun h3 => ?_) (fun h3 => ?_)
 ·
  refine Wp.seq ?_
  refine AnyH.start ((b1, .cells x.cells.toArray 33) :: []) 14 rfl ?_
  refine Tk 0 rfl rfl (pv_move rfl) rfl ?_
  refine Tk 1 rfl rfl (pv_fieldAddr0 rfl rfl) rfl ?_
  refine Tk 2 rfl rfl (pv_loadK [_, _] rfl rfl rfl ⟨rfl, rfl, trivial⟩) rfl ?_
  refine Tk 3 rfl rfl (pv_fieldAddr0 rfl rfl) rfl ?_
  refine Tk 4 rfl rfl (pv_loadK [_, _, _, _, _, _] rfl rfl rfl ⟨rfl, rfl, rfl, rfl, rfl, rfl, trivial⟩) rfl ?_
  refine Tk 6 rfl rfl (pv_move rfl) rfl ?_
  refine Tk 7 rfl rfl (pv_fieldAddr0 rfl rfl) rfl ?_
  refine Tk 8 rfl rfl (pv_loadK [_, _] rfl rfl rfl ⟨rfl, rfl, trivial⟩) rfl ?_
  refine Tk 9 rfl rfl (pv_fieldAddr0 rfl rfl) rfl ?_
  refine Tk 10 rfl rfl (pv_loadK [_, _, _, _, _, _] rfl rfl rfl ⟨rfl, rfl, rfl, rfl, rfl, rfl, trivial⟩) rfl ?_
  refine AnyH.one 5 (by kernel_rfl) ?_
  refine Turn.ef rfl rfl (ef_call (tr_mPlant _ cb _ p ⟨_, _, _, _, hS, hT, rfl⟩ x.a x.c) rfl rfl) ?_ ?_
  ·
   rintro _ _ ⟨_, QC3, ⟨rfl, hC2⟩, rfl, rfl⟩; infer_instance
  rintro _ _ ⟨_, QC3, ⟨rfl, hC2⟩, rfl, rfl⟩
  refine AnyH.app ?_
  skip
  refine AnyH.one 11 (by kernel_rfl) ?_
  refine Turn.ef rfl rfl (ef_call (tr_dPlant qb _ p ⟨S0, l0, v0, H0, w0, K0, hR0, hQ0, hs0, ht0, rfl⟩ hok hl x.a x.c hxr.c) rfl rfl) ?_ ?_
  ·
   rintro _ _ ⟨_, QD1, ⟨rfl, hD2⟩, rfl, rfl⟩; infer_instance
  rintro _ _ ⟨_, QD1, ⟨rfl, hD2⟩, rfl, rfl⟩
  refine AnyH.app ?_
  skip
  refine Tk 12 rfl rfl ((pv_eql rfl rfl).tru rfl) rfl ?_
  refine Tk 13 rfl rfl (pv_assign rfl) rfl ?_
  refine AnyH.done (by kernel_rfl) ?_
  refine Ends.seq ?_
  refine Wp.ret ?_
  refine Ends.block_ret ?_
  refine Ends.then_ret ?_
  have ha : actZ p x = (mPlant p x.a x.c).2 := by unfold actZ; simp_all
  rw [ha]
  exact Ends.ret (L' := QC3 ++ QD1) (res1 rfl rfl) ⟨rfl, _, _, hC2.more (by omega), hD2, rfl⟩
 refine Wp.seq ?_
 refine Wp.region ?_
 refine Ops.pv (pv_eql rfl rfl) rfl ?_
 refine Ops.pv (pv_assign rfl) rfl ?_
 refine Ops.nil ?_
 refine Ends.seq ?_
 refine Wp.cond_dect rfl (fun h4 => ?_) (fun h4 => ?_)
 ·
  refine Wp.seq ?_
  refine AnyH.start ((b1, .cells x.cells.toArray 33) :: []) 18 rfl ?_
  refine Tk 0 rfl rfl (pv_move rfl) rfl ?_
  refine Tk 1 rfl rfl (pv_fieldAddr0 rfl rfl) rfl ?_
  refine Tk 2 rfl rfl (pv_loadK [_, _] rfl rfl rfl ⟨rfl, rfl, trivial⟩) rfl ?_
  refine Tk 3 rfl rfl (pv_fieldAddr0 rfl rfl) rfl ?_
  refine Tk 4 rfl rfl (pv_loadK [_, _] rfl rfl rfl ⟨rfl, rfl, trivial⟩) rfl ?_
  refine Tk 5 rfl rfl (pv_fieldAddr0 rfl rfl) rfl ?_
  refine Tk 6 rfl rfl (pv_loadK [_, _, _, _, _, _] rfl rfl rfl ⟨rfl, rfl, rfl, rfl, rfl, rfl, trivial⟩) rfl ?_
  refine Tk 8 rfl rfl (pv_move rfl) rfl ?_
  refine Tk 9 rfl rfl (pv_fieldAddr0 rfl rfl) rfl ?_
  refine Tk 10 rfl rfl (pv_loadK [_, _] rfl rfl rfl ⟨rfl, rfl, trivial⟩) rfl ?_
  refine Tk 11 rfl rfl (pv_fieldAddr0 rfl rfl) rfl ?_
  refine Tk 12 rfl rfl (pv_loadK [_, _] rfl rfl rfl ⟨rfl, rfl, trivial⟩) rfl ?_
  refine Tk 13 rfl rfl (pv_fieldAddr0 rfl rfl) rfl ?_
  refine Tk 14 rfl rfl (pv_loadK [_, _, _, _, _, _] rfl rfl rfl ⟨rfl, rfl, rfl, rfl, rfl, rfl, trivial⟩) rfl ?_
  refine AnyH.one 7 (by kernel_rfl) ?_
  refine Turn.ef rfl rfl (ef_call (tr_mChild _ cb _ p ⟨_, _, _, _, hS, hT, rfl⟩ (by omega) x.a x.b x.c) rfl rfl) ?_ ?_
  ·
   rintro _ _ ⟨_, QC4, ⟨rfl, hC2⟩, rfl, rfl⟩; infer_instance
  rintro _ _ ⟨_, QC4, ⟨rfl, hC2⟩, rfl, rfl⟩
  refine AnyH.app ?_
  skip
  refine AnyH.one 15 (by kernel_rfl) ?_
  refine Turn.ef rfl rfl (ef_call (tr_dChild qb _ p ⟨S0, l0, v0, H0, w0, K0, hR0, hQ0, hs0, ht0, rfl⟩ hok hl x.a x.b x.c hxr.c) rfl rfl) ?_ ?_
  ·
   rintro _ _ ⟨_, QD2, ⟨rfl, hD2⟩, rfl, rfl⟩; infer_instance
  rintro _ _ ⟨_, QD2, ⟨rfl, hD2⟩, rfl, rfl⟩
  refine AnyH.app ?_
  skip
  refine Tk 16 rfl rfl ((pv_eql rfl rfl).tru rfl) rfl ?_
  refine Tk 17 rfl rfl (pv_assign rfl) rfl ?_
  refine AnyH.done (by kernel_rfl) ?_
  refine Ends.seq ?_
  refine Wp.ret ?_
  refine Ends.block_ret ?_
  refine Ends.then_ret ?_
  have ha : actZ p x = (mChild p x.a x.b x.c).2 := by unfold actZ; simp_all
  rw [ha]
  exact Ends.ret (L' := QC4 ++ QD2) (res1 rfl rfl) ⟨rfl, _, _, hC2.more (by omega), hD2, rfl⟩
 refine Wp.seq ?_
 refine Wp.region ?_
 refine Ops.pv (pv_eql rfl rfl) rfl ?_
 refine Ops.pv (pv_assign rfl) rfl ?_
 refine Ops.nil ?_
 refine Ends.seq ?_
 refine Wp.cond_dect rfl (fun h5 => ?_) (fun h5 => ?_)
 ·
  refine Wp.seq ?_
  refine AnyH.start ((b1, .cells x.cells.toArray 33) :: []) 18 rfl ?_
  refine Tk 0 rfl rfl (pv_move rfl) rfl ?_
  refine Tk 1 rfl rfl (pv_fieldAddr0 rfl rfl) rfl ?_
  refine Tk 2 rfl rfl (pv_loadK [_, _] rfl rfl rfl ⟨rfl, rfl, trivial⟩) rfl ?_
  refine Tk 3 rfl rfl (pv_fieldAddr0 rfl rfl) rfl ?_
  refine Tk 4 rfl rfl (pv_loadK [_, _] rfl rfl rfl ⟨rfl, rfl, trivial⟩) rfl ?_
  refine Tk 5 rfl rfl (pv_fieldAddr0 rfl rfl) rfl ?_
  refine Tk 6 rfl rfl (pv_load rfl rfl rfl) rfl ?_
  refine Tk 8 rfl rfl (pv_move rfl) rfl ?_
  refine Tk 9 rfl rfl (pv_fieldAddr0 rfl rfl) rfl ?_
  refine Tk 10 rfl rfl (pv_loadK [_, _] rfl rfl rfl ⟨rfl, rfl, trivial⟩) rfl ?_
  refine Tk 11 rfl rfl (pv_fieldAddr0 rfl rfl) rfl ?_
  refine Tk 12 rfl rfl (pv_loadK [_, _] rfl rfl rfl ⟨rfl, rfl, trivial⟩) rfl ?_
  refine Tk 13 rfl rfl (pv_fieldAddr0 rfl rfl) rfl ?_
  refine Tk 14 rfl rfl (pv_load rfl rfl rfl) rfl ?_
  refine AnyH.one 7 (by kernel_rfl) ?_
  refine Turn.ef rfl rfl (ef_call (tr_mCopy _ cb _ p ⟨_, _, _, _, hS, hT, rfl⟩ (by omega) x.a x.b x.rights) rfl rfl) ?_ ?_
  ·
   rintro _ _ ⟨_, QC5, ⟨rfl, hC2⟩, rfl, rfl⟩; infer_instance
  rintro _ _ ⟨_, QC5, ⟨rfl, hC2⟩, rfl, rfl⟩
  refine AnyH.app ?_
  skip
  refine AnyH.one 15 (by kernel_rfl) ?_
  refine Turn.ef rfl rfl (ef_call (tr_dCopy qb _ p ⟨S0, l0, v0, H0, w0, K0, hR0, hQ0, hs0, ht0, rfl⟩ hok hl h.rg x.a x.b x.rights hxr.rights) rfl rfl) ?_ ?_
  ·
   rintro _ _ ⟨_, QD3, ⟨rfl, hD2⟩, rfl, rfl⟩; infer_instance
  rintro _ _ ⟨_, QD3, ⟨rfl, hD2⟩, rfl, rfl⟩
  refine AnyH.app ?_
  skip
  refine Tk 16 rfl rfl ((pv_eql rfl rfl).tru rfl) rfl ?_
  refine Tk 17 rfl rfl (pv_assign rfl) rfl ?_
  refine AnyH.done (by kernel_rfl) ?_
  refine Ends.seq ?_
  refine Wp.ret ?_
  refine Ends.block_ret ?_
  refine Ends.then_ret ?_
  have ha : actZ p x = (mCopy p x.a x.b x.rights).2 := by unfold actZ; simp_all
  rw [ha]
  exact Ends.ret (L' := QC5 ++ QD3) (res1 rfl rfl) ⟨rfl, _, _, hC2.more (by omega), hD2, rfl⟩
 refine Wp.seq ?_
 refine Wp.region ?_
 refine Ops.pv (pv_eql rfl rfl) rfl ?_
 refine Ops.pv (pv_assign rfl) rfl ?_
 refine Ops.nil ?_
 refine Ends.seq ?_
 refine Wp.cond_dect rfl (fun h6 => ?_) (fun h6 => ?_)
 ·
  refine Wp.seq ?_
  refine AnyH.start ((b1, .cells x.cells.toArray 33) :: []) 30 rfl ?_
  refine Tk 0 rfl rfl (pv_move rfl) rfl ?_
  refine Tk 1 rfl rfl (pv_fieldAddr0 rfl rfl) rfl ?_
  refine Tk 2 rfl rfl (pv_loadK [_, _] rfl rfl rfl ⟨rfl, rfl, trivial⟩) rfl ?_
  refine Tk 3 rfl rfl (pv_fieldAddr0 rfl rfl) rfl ?_
  refine Tk 4 rfl rfl (pv_loadK [_, _] rfl rfl rfl ⟨rfl, rfl, trivial⟩) rfl ?_
  refine Tk 5 rfl rfl (pv_fieldAddr0 rfl rfl) rfl ?_
  refine Tk 6 rfl rfl (pv_load rfl rfl rfl) rfl ?_
  refine Tk 7 rfl rfl (pv_fieldAddr0 rfl rfl) rfl ?_
  refine Tk 8 rfl rfl (pv_load rfl rfl rfl) rfl ?_
  refine Tk 9 rfl rfl (pv_fieldAddr0 rfl rfl) rfl ?_
  refine Tk 10 rfl rfl (pv_load rfl rfl rfl) rfl ?_
  refine Tk 11 rfl rfl (pv_fieldAddr0 rfl rfl) rfl ?_
  refine Tk 12 rfl rfl (pv_load rfl rfl rfl) rfl ?_
  refine Tk 14 rfl rfl (pv_move rfl) rfl ?_
  refine Tk 15 rfl rfl (pv_fieldAddr0 rfl rfl) rfl ?_
  refine Tk 16 rfl rfl (pv_loadK [_, _] rfl rfl rfl ⟨rfl, rfl, trivial⟩) rfl ?_
  refine Tk 17 rfl rfl (pv_fieldAddr0 rfl rfl) rfl ?_
  refine Tk 18 rfl rfl (pv_loadK [_, _] rfl rfl rfl ⟨rfl, rfl, trivial⟩) rfl ?_
  refine Tk 19 rfl rfl (pv_fieldAddr0 rfl rfl) rfl ?_
  refine Tk 20 rfl rfl (pv_load rfl rfl rfl) rfl ?_
  refine Tk 21 rfl rfl (pv_fieldAddr0 rfl rfl) rfl ?_
  refine Tk 22 rfl rfl (pv_load rfl rfl rfl) rfl ?_
  refine Tk 23 rfl rfl (pv_fieldAddr0 rfl rfl) rfl ?_
  refine Tk 24 rfl rfl (pv_load rfl rfl rfl) rfl ?_
  refine Tk 25 rfl rfl (pv_fieldAddr0 rfl rfl) rfl ?_
  refine Tk 26 rfl rfl (pv_load rfl rfl rfl) rfl ?_
  refine AnyH.one 13 (by kernel_rfl) ?_
  refine Turn.ef rfl rfl (ef_call (tr_mMint _ cb _ p ⟨_, _, _, _, hS, hT, rfl⟩ (by omega) x.a x.b x.rights x.badge x.guard x.bits) rfl rfl) ?_ ?_
  ·
   rintro _ _ ⟨_, QC6, ⟨rfl, hC2⟩, rfl, rfl⟩; infer_instance
  rintro _ _ ⟨_, QC6, ⟨rfl, hC2⟩, rfl, rfl⟩
  refine AnyH.app ?_
  skip
  refine AnyH.one 27 (by kernel_rfl) ?_
  refine Turn.ef rfl rfl (ef_call (tr_dMint qb _ p ⟨S0, l0, v0, H0, w0, K0, hR0, hQ0, hs0, ht0, rfl⟩ hok hl h.rg x.a x.b x.rights x.badge x.guard x.bits hxr.rights hxr.badge hxr.guard) rfl rfl) ?_ ?_
  ·
   rintro _ _ ⟨_, QD4, ⟨rfl, hD2⟩, rfl, rfl⟩; infer_instance
  rintro _ _ ⟨_, QD4, ⟨rfl, hD2⟩, rfl, rfl⟩
  refine AnyH.app ?_
  skip
  refine Tk 28 rfl rfl ((pv_eql rfl rfl).tru rfl) rfl ?_
  refine Tk 29 rfl rfl (pv_assign rfl) rfl ?_
  refine AnyH.done (by kernel_rfl) ?_
  refine Ends.seq ?_
  refine Wp.ret ?_
  refine Ends.block_ret ?_
  refine Ends.then_ret ?_
  have ha : actZ p x = (mMint p x.a x.b x.rights x.badge x.guard x.bits).2 := by unfold actZ; simp_all
  rw [ha]
  exact Ends.ret (L' := QC6 ++ QD4) (res1 rfl rfl) ⟨rfl, _, _, hC2.more (by omega), hD2, rfl⟩
 refine Wp.seq ?_
 refine Wp.region ?_
 refine Ops.pv (pv_eql rfl rfl) rfl ?_
 refine Ops.pv (pv_assign rfl) rfl ?_
 refine Ops.nil ?_
 refine Ends.seq ?_
 refine Wp.cond_dect rfl (fun h7 => ?_) (fun h7 => ?_)
 ·
  refine Wp.seq ?_
  refine AnyH.start ((b1, .cells x.cells.toArray 33) :: []) 14 rfl ?_
  refine Tk 0 rfl rfl (pv_move rfl) rfl ?_
  refine Tk 1 rfl rfl (pv_fieldAddr0 rfl rfl) rfl ?_
  refine Tk 2 rfl rfl (pv_loadK [_, _] rfl rfl rfl ⟨rfl, rfl, trivial⟩) rfl ?_
  refine Tk 3 rfl rfl (pv_fieldAddr0 rfl rfl) rfl ?_
  refine Tk 4 rfl rfl (pv_loadK [_, _] rfl rfl rfl ⟨rfl, rfl, trivial⟩) rfl ?_
  refine Tk 6 rfl rfl (pv_move rfl) rfl ?_
  refine Tk 7 rfl rfl (pv_fieldAddr0 rfl rfl) rfl ?_
  refine Tk 8 rfl rfl (pv_loadK [_, _] rfl rfl rfl ⟨rfl, rfl, trivial⟩) rfl ?_
  refine Tk 9 rfl rfl (pv_fieldAddr0 rfl rfl) rfl ?_
  refine Tk 10 rfl rfl (pv_loadK [_, _] rfl rfl rfl ⟨rfl, rfl, trivial⟩) rfl ?_
  refine AnyH.one 5 (by kernel_rfl) ?_
  refine Turn.ef rfl rfl (ef_call (tr_mMove _ cb _ p ⟨_, _, _, _, hS, hT, rfl⟩ x.a x.b) rfl rfl) ?_ ?_
  ·
   rintro _ _ ⟨_, QC7, ⟨rfl, hC2⟩, rfl, rfl⟩; infer_instance
  rintro _ _ ⟨_, QC7, ⟨rfl, hC2⟩, rfl, rfl⟩
  refine AnyH.app ?_
  skip
  refine AnyH.one 11 (by kernel_rfl) ?_
  refine Turn.ef rfl rfl (ef_call (tr_dMove qb _ p ⟨S0, l0, v0, H0, w0, K0, hR0, hQ0, hs0, ht0, rfl⟩ hok hl h.rg x.a x.b) rfl rfl) ?_ ?_
  ·
   rintro _ _ ⟨_, QD5, ⟨rfl, hD2⟩, rfl, rfl⟩; infer_instance
  rintro _ _ ⟨_, QD5, ⟨rfl, hD2⟩, rfl, rfl⟩
  refine AnyH.app ?_
  skip
  refine Tk 12 rfl rfl ((pv_eql rfl rfl).tru rfl) rfl ?_
  refine Tk 13 rfl rfl (pv_assign rfl) rfl ?_
  refine AnyH.done (by kernel_rfl) ?_
  refine Ends.seq ?_
  refine Wp.ret ?_
  refine Ends.block_ret ?_
  refine Ends.then_ret ?_
  have ha : actZ p x = (mMove p x.a x.b).2 := by unfold actZ; simp_all
  rw [ha]
  exact Ends.ret (L' := QC7 ++ QD5) (res1 rfl rfl) ⟨rfl, _, _, hC2.more (by omega), hD2, rfl⟩
 refine Wp.seq ?_
 refine Wp.region ?_
 refine Ops.pv (pv_eql rfl rfl) rfl ?_
 refine Ops.pv (pv_assign rfl) rfl ?_
 refine Ops.nil ?_
 refine Ends.seq ?_
 refine Wp.cond_dect rfl (fun h8 => ?_) (fun h8 => ?_)
 ·
  refine Wp.seq ?_
  refine AnyH.start ((b1, .cells x.cells.toArray 33) :: []) 22 rfl ?_
  refine Tk 0 rfl rfl (pv_move rfl) rfl ?_
  refine Tk 1 rfl rfl (pv_fieldAddr0 rfl rfl) rfl ?_
  refine Tk 2 rfl rfl (pv_loadK [_, _] rfl rfl rfl ⟨rfl, rfl, trivial⟩) rfl ?_
  refine Tk 3 rfl rfl (pv_fieldAddr0 rfl rfl) rfl ?_
  refine Tk 4 rfl rfl (pv_loadK [_, _] rfl rfl rfl ⟨rfl, rfl, trivial⟩) rfl ?_
  refine Tk 5 rfl rfl (pv_fieldAddr0 rfl rfl) rfl ?_
  refine Tk 6 rfl rfl (pv_load rfl rfl rfl) rfl ?_
  refine Tk 7 rfl rfl (pv_fieldAddr0 rfl rfl) rfl ?_
  refine Tk 8 rfl rfl (pv_load rfl rfl rfl) rfl ?_
  refine Tk 10 rfl rfl (pv_move rfl) rfl ?_
  refine Tk 11 rfl rfl (pv_fieldAddr0 rfl rfl) rfl ?_
  refine Tk 12 rfl rfl (pv_loadK [_, _] rfl rfl rfl ⟨rfl, rfl, trivial⟩) rfl ?_
  refine Tk 13 rfl rfl (pv_fieldAddr0 rfl rfl) rfl ?_
  refine Tk 14 rfl rfl (pv_loadK [_, _] rfl rfl rfl ⟨rfl, rfl, trivial⟩) rfl ?_
  refine Tk 15 rfl rfl (pv_fieldAddr0 rfl rfl) rfl ?_
  refine Tk 16 rfl rfl (pv_load rfl rfl rfl) rfl ?_
  refine Tk 17 rfl rfl (pv_fieldAddr0 rfl rfl) rfl ?_
  refine Tk 18 rfl rfl (pv_load rfl rfl rfl) rfl ?_
  refine AnyH.one 9 (by kernel_rfl) ?_
  refine Turn.ef rfl rfl (ef_call (tr_mMutate _ cb _ p ⟨_, _, _, _, hS, hT, rfl⟩ x.a x.b x.guard x.bits) rfl rfl) ?_ ?_
  ·
   rintro _ _ ⟨_, QC8, ⟨rfl, hC2⟩, rfl, rfl⟩; infer_instance
  rintro _ _ ⟨_, QC8, ⟨rfl, hC2⟩, rfl, rfl⟩
  refine AnyH.app ?_
  skip
  refine AnyH.one 19 (by kernel_rfl) ?_
  refine Turn.ef rfl rfl (ef_call (tr_dMutate qb _ p ⟨S0, l0, v0, H0, w0, K0, hR0, hQ0, hs0, ht0, rfl⟩ hok hl h.rg x.a x.b x.guard x.bits hxr.guard) rfl rfl) ?_ ?_
  ·
   rintro _ _ ⟨_, QD6, ⟨rfl, hD2⟩, rfl, rfl⟩; infer_instance
  rintro _ _ ⟨_, QD6, ⟨rfl, hD2⟩, rfl, rfl⟩
  refine AnyH.app ?_
  skip
  refine Tk 20 rfl rfl ((pv_eql rfl rfl).tru rfl) rfl ?_
  refine Tk 21 rfl rfl (pv_assign rfl) rfl ?_
  refine AnyH.done (by kernel_rfl) ?_
  refine Ends.seq ?_
  refine Wp.ret ?_
  refine Ends.block_ret ?_
  refine Ends.then_ret ?_
  have ha : actZ p x = (mMutate p x.a x.b x.guard x.bits).2 := by unfold actZ; simp_all
  rw [ha]
  exact Ends.ret (L' := QC8 ++ QD6) (res1 rfl rfl) ⟨rfl, _, _, hC2.more (by omega), hD2, rfl⟩
 refine Wp.seq ?_
 refine Wp.region ?_
 refine Ops.pv (pv_eql rfl rfl) rfl ?_
 refine Ops.pv (pv_assign rfl) rfl ?_
 refine Ops.nil ?_
 refine Ends.seq ?_
 refine Wp.cond_dect rfl (fun h9 => ?_) (fun h9 => ?_)
 ·
  refine Wp.seq ?_
  refine AnyH.start ((b1, .cells x.cells.toArray 33) :: []) 18 rfl ?_
  refine Tk 0 rfl rfl (pv_move rfl) rfl ?_
  refine Tk 1 rfl rfl (pv_fieldAddr0 rfl rfl) rfl ?_
  refine Tk 2 rfl rfl (pv_loadK [_, _] rfl rfl rfl ⟨rfl, rfl, trivial⟩) rfl ?_
  refine Tk 3 rfl rfl (pv_fieldAddr0 rfl rfl) rfl ?_
  refine Tk 4 rfl rfl (pv_loadK [_, _] rfl rfl rfl ⟨rfl, rfl, trivial⟩) rfl ?_
  refine Tk 5 rfl rfl (pv_fieldAddr0 rfl rfl) rfl ?_
  refine Tk 6 rfl rfl (pv_loadK [_, _] rfl rfl rfl ⟨rfl, rfl, trivial⟩) rfl ?_
  refine Tk 8 rfl rfl (pv_move rfl) rfl ?_
  refine Tk 9 rfl rfl (pv_fieldAddr0 rfl rfl) rfl ?_
  refine Tk 10 rfl rfl (pv_loadK [_, _] rfl rfl rfl ⟨rfl, rfl, trivial⟩) rfl ?_
  refine Tk 11 rfl rfl (pv_fieldAddr0 rfl rfl) rfl ?_
  refine Tk 12 rfl rfl (pv_loadK [_, _] rfl rfl rfl ⟨rfl, rfl, trivial⟩) rfl ?_
  refine Tk 13 rfl rfl (pv_fieldAddr0 rfl rfl) rfl ?_
  refine Tk 14 rfl rfl (pv_loadK [_, _] rfl rfl rfl ⟨rfl, rfl, trivial⟩) rfl ?_
  refine AnyH.one 7 (by kernel_rfl) ?_
  refine Turn.ef rfl rfl (ef_call (tr_mRotate _ cb _ p ⟨_, _, _, _, hS, hT, rfl⟩ x.a x.b x.d) rfl rfl) ?_ ?_
  ·
   rintro _ _ ⟨_, QC9, ⟨rfl, hC2⟩, rfl, rfl⟩; infer_instance
  rintro _ _ ⟨_, QC9, ⟨rfl, hC2⟩, rfl, rfl⟩
  refine AnyH.app ?_
  skip
  refine AnyH.one 15 (by kernel_rfl) ?_
  refine Turn.ef rfl rfl (ef_call (tr_dRotate qb _ p ⟨S0, l0, v0, H0, w0, K0, hR0, hQ0, hs0, ht0, rfl⟩ hok hl h.rg x.a x.b x.d) rfl rfl) ?_ ?_
  ·
   rintro _ _ ⟨_, QD7, ⟨rfl, hD2⟩, rfl, rfl⟩; infer_instance
  rintro _ _ ⟨_, QD7, ⟨rfl, hD2⟩, rfl, rfl⟩
  refine AnyH.app ?_
  skip
  refine Tk 16 rfl rfl ((pv_eql rfl rfl).tru rfl) rfl ?_
  refine Tk 17 rfl rfl (pv_assign rfl) rfl ?_
  refine AnyH.done (by kernel_rfl) ?_
  refine Ends.seq ?_
  refine Wp.ret ?_
  refine Ends.block_ret ?_
  refine Ends.then_ret ?_
  have ha : actZ p x = (mRotate p x.a x.b x.d).2 := by unfold actZ; simp_all
  rw [ha]
  exact Ends.ret (L' := QC9 ++ QD7) (res1 rfl rfl) ⟨rfl, _, _, hC2.more (by omega), hD2, rfl⟩
 refine Wp.seq ?_
 refine Wp.region ?_
 refine Ops.pv (pv_eql rfl rfl) rfl ?_
 refine Ops.pv (pv_assign rfl) rfl ?_
 refine Ops.nil ?_
 refine Ends.seq ?_
 refine Wp.cond_dect rfl (fun h10 => ?_) (fun h10 => ?_)
 ·
  refine Wp.seq ?_
  refine Wp.region ?_
  refine Ops.pv (pv_move rfl) rfl ?_
  refine Ops.pv (pv_fieldAddr0 rfl rfl) rfl ?_
  refine Ops.pv (pv_loadK [_, _] rfl rfl rfl ⟨rfl, rfl, trivial⟩) rfl ?_
  refine Ops.ef rfl (ef_call (tr_mTake _ cb _ p ⟨_, _, _, _, hS, hT, rfl⟩ (by omega) x.a) rfl rfl) ?_
  rintro _ _ ⟨_, QC10, ⟨rfl, hC2⟩, rfl, rfl⟩
  refine Ops.app ?_
  skip
  refine Ops.pv (pv_move rfl) rfl ?_
  refine Ops.pv (pv_extract rfl rfl) rfl ?_
  refine Ops.pv (pv_extract rfl rfl) rfl ?_
  refine Ops.ef rfl (ef_allocK tyZ25 rfl) ?_
  rintro _ _ ⟨b2, rfl, rfl⟩
  refine Ops.ef rfl (ef_storeK rfl rfl rfl rfl) ?_
  rintro _ _ ⟨rfl, rfl⟩
  refine Ops.pv (pv_assign rfl) rfl ?_
  refine Ops.nil ?_
  refine Ends.seq ?_
  refine Wp.seq ?_
  refine Wp.region ?_
  refine Ops.pv (pv_move rfl) rfl ?_
  refine Ops.pv (pv_fieldAddr0 rfl rfl) rfl ?_
  refine Ops.pv (pv_loadK [_, _] rfl rfl rfl ⟨rfl, rfl, trivial⟩) rfl ?_
  refine Ops.ef rfl (ef_call (tr_dTake qb _ p ⟨S0, l0, v0, H0, w0, K0, hR0, hQ0, hs0, ht0, rfl⟩ hok hl x.a) rfl rfl) ?_
  rintro _ _ ⟨_, QD8, ⟨rfl, hD2⟩, rfl, rfl⟩
  refine Ops.app ?_
  skip
  refine Ops.pv (pv_move rfl) rfl ?_
  refine Ops.pv (pv_extract rfl rfl) rfl ?_
  refine Ops.pv (pv_extract rfl rfl) rfl ?_
  refine Ops.ef rfl (ef_allocK tyZ25 rfl) ?_
  rintro _ _ ⟨b3, rfl, rfl⟩
  refine Ops.ef rfl (ef_storeK rfl rfl rfl rfl) ?_
  rintro _ _ ⟨rfl, rfl⟩
  refine Ops.pv (pv_assign rfl) rfl ?_
  refine Ops.nil ?_
  refine Ends.seq ?_
  refine Wp.seq ?_
  refine Wp.region ?_
  refine Ops.pv (pv_loadK [_, _, _, _, _, _] rfl rfl rfl ⟨rfl, rfl, rfl, rfl, rfl, rfl, trivial⟩) rfl ?_
  refine Ops.pv (pv_loadK [_, _, _, _, _, _] rfl rfl rfl ⟨rfl, rfl, rfl, rfl, rfl, rfl, trivial⟩) rfl ?_
  refine Ops.pv ((pv_eql_cap (a := (mTake p x.a).1) (b := (mTake p x.a).1) rfl rfl).tru rfl) rfl ?_
  refine Ops.pv (pv_move rfl) rfl ?_
  refine Ops.pvg ⟨_, _, rfl, rfl, rfl⟩ (pv_move rfl) rfl ?_
  refine Ops.pvg ⟨_, _, rfl, rfl, rfl⟩ (pv_move rfl) rfl ?_
  refine Ops.pvg ⟨_, _, rfl, rfl, rfl⟩ ((pv_eql rfl rfl).tru rfl) rfl ?_
  refine Ops.pv (pv_pick_true rfl rfl) rfl ?_
  refine Ops.pv (pv_assign rfl) rfl ?_
  refine Ops.nil ?_
  refine Ends.seq ?_
  refine Wp.ret ?_
  refine Ends.block_ret ?_
  refine Ends.then_ret ?_
  have ha : actZ p x = (mTake p x.a).2.2 := by unfold actZ; simp_all
  rw [ha]
  exact Ends.ret (L' := QC10 ++ QD8) (res1 rfl rfl) ⟨rfl, _, _, hC2.more (by omega), hD2, rfl⟩
 refine Wp.skip ?_
 refine Ends.block_normal ?_
 refine Ends.seq ?_
 refine Wp.seq ?_
 refine Wp.region ?_
 refine Ops.pv (pv_assign rfl) rfl ?_
 refine Ops.nil ?_
 refine Ends.seq ?_
 refine Wp.ret ?_
 have ha : actZ p x = p := by unfold actZ; simp_all
 rw [ha]
 exact Ends.ret (L' := cBlk cb sb tb :: (Ls ++ (Lt ++ (dcBlk qb v0 w0 :: (H0 ++ (dCaps l0 ++ K0)))))) (res1 rfl rfl) ⟨rfl, _, _, ⟨_, _, _, _, hS, hT.more (by omega), rfl⟩, ⟨S0, l0, v0, H0, w0, K0, hR0, hQ0, hs0, ht0, rfl⟩, by rw [List.cons_append, List.append_assoc]⟩
set_option maxHeartbeats 16000000 in
theorem tr_zSame (n cb qb : Nat) (Lc Ld : Hp) (p : PS) (hC : CapsH n p cb Lc) (hD : DcH p qb Ld) (h : ROk p) (hn : n ≤ 2 ^ 19) : TrR Tryz.prog 8 [cpP cb, .pointer (some ⟨qb, 0, none⟩)] (Lc ++ Ld) (.bool true) := by
 have hok := h.ok
 obtain ⟨sb, tb, Ls, Lt, hS, hT, rfl⟩ := hC
 obtain ⟨S0, l0, v0, H0, w0, K0, hR0, hQ0, hs0, ht0, rfl⟩ := hD
 have hl : p.F.all.length ≤ 2 ^ 20 := by have := hT.len; omega
 rw [List.cons_append, List.append_assoc]
 have hfl := hS.full_len
 refine Tr.enter Tryz.func8 rfl Tryz.ntmps8 rfl (fun W F => ?_)
 refine Wp.app ?_
 refine Wp.seq ?_
 refine Wp.region ?_
 refine Ops.pv (pv_assign rfl) rfl ?_
 refine Ops.nil ?_
 refine Ends.seq ?_
 refine Wp.seq ?_
 refine Wp.region ?_
 refine Ops.pv (pv_move rfl) rfl ?_
 refine Ops.pv (pv_nilCheck rfl) rfl ?_
 refine Ops.pv (pv_fieldAddr0 rfl rfl) rfl ?_
 refine Ops.ef rfl (ef_call (dsf_full (uT := w0) ⟨S0, l0, hR0, hQ0, v0, H0, hs0, rfl⟩) rfl rfl) ?_
 rintro _ _ ⟨_, _, ⟨E1, hE1, rfl⟩, rfl, rfl⟩
 refine Ops.app ?_
 obtain ⟨pp1, qq1, rfl⟩ := hE1.form
 refine Ops.pv (pv_assign rfl) rfl ?_
 refine Ops.nil ?_
 refine Ends.seq ?_
 refine Wp.seq ?_
 refine Wp.seq ?_
 refine Wp.region ?_
 refine Ops.pv (pv_move rfl) rfl ?_
 refine Ops.pv (pv_nilCheck rfl) rfl ?_
 refine Ops.pv (pv_fieldAddr0 rfl rfl) rfl ?_
 refine Ops.pv (pv_fieldAddr0 rfl rfl) rfl ?_
 refine Ops.pv (pv_load rfl rfl rfl) rfl ?_
 refine Ops.ef rfl (ef_call (sf_full hS) rfl rfl) ?_
 rintro _ _ ⟨_, _, ⟨C1, hC1, rfl⟩, rfl, rfl⟩
 refine Ops.app ?_
 obtain ⟨pp2, qq2, rfl⟩ := hC1.form
 refine Ops.pv (pv_move rfl) rfl ?_
 refine Ops.ef rfl (ef_callr ((tr_sameSlots (C1 ++ E1) _ _ _ _ (dfull p.l) (dfull p.l) (hC1.view.mono (by intro p hp; simp [hp])) (hE1.view.mono (by intro p hp; simp [hp])) hfl).eq (r' := .bool true) (by rw [decide_eq_true rfl])) rfl rfl) ?_
 rintro _ _ ⟨rfl, rfl⟩
 refine Ops.pv (pv_not rfl) rfl ?_
 refine Ops.nil ?_
 refine Ends.seq ?_
 refine Wp.cond_false rfl ?_
 refine Wp.skip ?_
 refine Ends.seq ?_
 refine Wp.seq ?_
 refine Wp.seq ?_
 refine Wp.region ?_
 refine Ops.pv (pv_assign rfl) rfl ?_
 refine Ops.nil ?_
 refine Ends.seq ?_
 refine Wp.block ?_
 refine Wp.loopK (σ := Nat) [(0, _), (1, _), (5, _)] (fun s => [(6, .int .i64 s)]) (fun s => E1 ++ (cBlk cb sb tb :: (Ls ++ (Lt ++ (dcBlk qb v0 w0 :: (H0 ++ (dCaps l0 ++ (K0 ++ F)))))))) (fun s => s ≤ (dfull p.l).length) (fun s => (dfull p.l).length - s) 0 (Nat.zero_le _) ⟨rfl, rfl, rfl, trivial⟩ ⟨rfl, trivial⟩ (by intro w ho; (try dsimp only [List.nil_append, List.cons_append]); exact Drop.own ho) ?_
 rintro i KK hi9 hK
 dsimp only [List.cons_append, List.nil_append] at hK ⊢
 refine Wp.seq ?_
 refine Wp.seq ?_
 refine Wp.region ?_
 refine Ops.pv (pv_move rfl) rfl ?_
 refine Ops.pv (pv_move rfl) rfl ?_
 refine Ops.pv (pv_len_slice (T := 53) rfl rfl) rfl ?_
 refine Ops.pv (pv_lss rfl rfl) rfl ?_
 refine Ops.nil ?_
 refine Ends.seq ?_
 refine Wp.cond_dect rfl (fun h1 => ?_) (fun h1 => ?_)
 ·
  obtain ⟨bf, of, cap, cc, T0, f, hv1, hbv, hr⟩ := hE1.view.open (by omega)
  cases hv1
  obtain ⟨sl, hsl⟩ : ∃ s, (dfull p.l)[i]? = some s := ⟨_, List.getElem?_eq_getElem (by omega)⟩
  have hre := hr.sub (i := i * 2) (l := 2)
  rw [slots_reads hsl] at hre
  refine Wp.skip ?_
  refine Ends.seq ?_
  refine Wp.seq ?_
  refine Wp.block ?_
  refine Wp.cutK (σ := Nat) [(0, _), (1, _), (5, _), (6, _)] (fun s => [(7, .pointer (some ⟨s, 0, none⟩)), (8, .int .i64 (dget p.l sl).2)]) (fun s => (s, .cells (dget p.l sl).1.cells.toArray 25) :: (E1 ++ (cBlk cb sb tb :: (Ls ++ (Lt ++ (dcBlk qb v0 w0 :: (H0 ++ (dCaps l0 ++ (K0 ++ F))))))))) (fun s => True) ⟨rfl, rfl, rfl, rfl, trivial⟩ (fun _ KK hC0 => ?_) ?_
  ·
   dsimp only [List.cons_append, List.nil_append] at hC0
   refine AnyH.start (cBlk cb sb tb :: E1) 16 rfl ?_
   refine Tk 0 rfl rfl (pv_move rfl) rfl ?_
   refine Tk 1 rfl rfl (pv_nilCheck rfl) rfl ?_
   refine Tk 2 rfl rfl (pv_fieldAddr0 rfl rfl) rfl ?_
   refine Tk 3 rfl rfl (pv_fieldAddr0 rfl rfl) rfl ?_
   refine Tk 4 rfl rfl (pv_load rfl rfl rfl) rfl ?_
   refine Tk 5 rfl rfl (pv_move rfl) rfl ?_
   refine Tk 6 rfl rfl (pv_move rfl) rfl ?_
   refine Tk 7 rfl rfl (pv_indexAddr (i := i) rfl rfl rfl (by omega)) rfl ?_
   refine Tk 8 rfl rfl (pv_loadK [.int .i64 sl.1, .int .i64 sl.2] rfl rfl rfl hre) rfl ?_
   refine AnyH.two 9 13 (by kernel_rfl) ?_ ?_
   ·
    refine Turn.ef rfl rfl (ef_callr (sf_get hS sl) rfl rfl) ?_ ?_
    ·
     rintro _ _ ⟨rfl, rfl⟩; infer_instance
    rintro _ _ ⟨rfl, rfl⟩
    refine Tk 10 rfl rfl (pv_move rfl) rfl ?_
    refine Tk 11 rfl rfl (pv_extract rfl rfl) rfl ?_
    refine Tk 12 rfl rfl (pv_extract rfl rfl) rfl ?_
    refine AnyH.one 13 (by kernel_rfl) ?_
    refine Turn.ef rfl rfl (ef_allocK tyZ25 rfl) ?_ ?_
    ·
     rintro _ _ ⟨b1, rfl, rfl⟩; infer_instance
    rintro _ _ ⟨b1, rfl, rfl⟩
    refine AnyH.one 14 (by kernel_rfl) ?_
    refine Turn.ef rfl rfl (ef_storeK rfl rfl rfl rfl) ?_ ?_
    ·
     rintro _ _ ⟨rfl, rfl⟩; infer_instance
    rintro _ _ ⟨rfl, rfl⟩
    refine Tk 15 rfl rfl (pv_assign rfl) rfl ?_
    refine AnyH.done (by kernel_rfl) ?_
    refine Ends.goes ?_
    refine Goes.back (hC0 b1 trivial) ⟨rfl, rfl, rfl, rfl, rfl, rfl, trivial⟩
   refine Turn.ef rfl rfl (ef_allocK tyZ25 rfl) ?_ ?_
   ·
    rintro _ _ ⟨b2, rfl, rfl⟩; infer_instance
   rintro _ _ ⟨b2, rfl, rfl⟩
   refine AnyH.one 9 (by kernel_rfl) ?_
   refine Turn.ef rfl rfl (ef_callr (sf_get hS sl) rfl rfl) ?_ ?_
   ·
    rintro _ _ ⟨rfl, rfl⟩; infer_instance
   rintro _ _ ⟨rfl, rfl⟩
   refine Tk 10 rfl rfl (pv_move rfl) rfl ?_
   refine Tk 11 rfl rfl (pv_extract rfl rfl) rfl ?_
   refine Tk 12 rfl rfl (pv_extract rfl rfl) rfl ?_
   refine AnyH.one 14 (by kernel_rfl) ?_
   refine Turn.ef rfl rfl (ef_storeK rfl rfl rfl rfl) ?_ ?_
   ·
    rintro _ _ ⟨rfl, rfl⟩; infer_instance
   rintro _ _ ⟨rfl, rfl⟩
   refine Tk 15 rfl rfl (pv_assign rfl) rfl ?_
   refine AnyH.done (by kernel_rfl) ?_
   refine Ends.goes ?_
   refine Goes.back (hC0 b2 trivial) ⟨rfl, rfl, rfl, rfl, rfl, rfl, trivial⟩
  rintro va _
  dsimp only [List.cons_append, List.nil_append] at ⊢
  refine Wp.cutK (σ := Nat) [(0, _), (1, _), (5, _), (6, _), (7, _), (8, _)] (fun s => [(9, .pointer (some ⟨s, 0, none⟩)), (10, .int .i64 (dget p.l sl).2)]) (fun s => (s, .cells (dget p.l sl).1.cells.toArray 25) :: ((va, .cells (dget p.l sl).1.cells.toArray 25) :: (E1 ++ (cBlk cb sb tb :: (Ls ++ (Lt ++ (dcBlk qb v0 w0 :: (H0 ++ (dCaps l0 ++ (K0 ++ F)))))))))) (fun s => True) ⟨rfl, rfl, rfl, rfl, rfl, rfl, trivial⟩ (fun _ KK hC0 => ?_) ?_
  ·
   dsimp only [List.cons_append, List.nil_append] at hC0
   refine AnyH.start E1 14 rfl ?_
   refine Tk 0 rfl rfl (pv_move rfl) rfl ?_
   refine Tk 1 rfl rfl (pv_nilCheck rfl) rfl ?_
   refine Tk 2 rfl rfl (pv_fieldAddr0 rfl rfl) rfl ?_
   refine Tk 3 rfl rfl (pv_move rfl) rfl ?_
   refine Tk 4 rfl rfl (pv_move rfl) rfl ?_
   refine Tk 5 rfl rfl (pv_indexAddr (i := i) rfl rfl rfl (by omega)) rfl ?_
   refine Tk 6 rfl rfl (pv_loadK [.int .i64 sl.1, .int .i64 sl.2] rfl rfl rfl hre) rfl ?_
   refine AnyH.two 7 11 (by kernel_rfl) ?_ ?_
   ·
    refine Turn.ef rfl rfl (ef_callr (dsf_get (uT := w0) ⟨S0, l0, hR0, hQ0, v0, H0, hs0, rfl⟩ sl) rfl rfl) ?_ ?_
    ·
     rintro _ _ ⟨rfl, rfl⟩; infer_instance
    rintro _ _ ⟨rfl, rfl⟩
    refine Tk 8 rfl rfl (pv_move rfl) rfl ?_
    refine Tk 9 rfl rfl (pv_extract rfl rfl) rfl ?_
    refine Tk 10 rfl rfl (pv_extract rfl rfl) rfl ?_
    refine AnyH.one 11 (by kernel_rfl) ?_
    refine Turn.ef rfl rfl (ef_allocK tyZ25 rfl) ?_ ?_
    ·
     rintro _ _ ⟨b3, rfl, rfl⟩; infer_instance
    rintro _ _ ⟨b3, rfl, rfl⟩
    refine AnyH.one 12 (by kernel_rfl) ?_
    refine Turn.ef rfl rfl (ef_storeK rfl rfl rfl rfl) ?_ ?_
    ·
     rintro _ _ ⟨rfl, rfl⟩; infer_instance
    rintro _ _ ⟨rfl, rfl⟩
    refine Tk 13 rfl rfl (pv_assign rfl) rfl ?_
    refine AnyH.done (by kernel_rfl) ?_
    refine Ends.goes ?_
    refine Goes.back (hC0 b3 trivial) ⟨rfl, rfl, rfl, rfl, rfl, rfl, rfl, rfl, trivial⟩
   refine Turn.ef rfl rfl (ef_allocK tyZ25 rfl) ?_ ?_
   ·
    rintro _ _ ⟨b4, rfl, rfl⟩; infer_instance
   rintro _ _ ⟨b4, rfl, rfl⟩
   refine AnyH.one 7 (by kernel_rfl) ?_
   refine Turn.ef rfl rfl (ef_callr (dsf_get (uT := w0) ⟨S0, l0, hR0, hQ0, v0, H0, hs0, rfl⟩ sl) rfl rfl) ?_ ?_
   ·
    rintro _ _ ⟨rfl, rfl⟩; infer_instance
   rintro _ _ ⟨rfl, rfl⟩
   refine Tk 8 rfl rfl (pv_move rfl) rfl ?_
   refine Tk 9 rfl rfl (pv_extract rfl rfl) rfl ?_
   refine Tk 10 rfl rfl (pv_extract rfl rfl) rfl ?_
   refine AnyH.one 12 (by kernel_rfl) ?_
   refine Turn.ef rfl rfl (ef_storeK rfl rfl rfl rfl) ?_ ?_
   ·
    rintro _ _ ⟨rfl, rfl⟩; infer_instance
   rintro _ _ ⟨rfl, rfl⟩
   refine Tk 13 rfl rfl (pv_assign rfl) rfl ?_
   refine AnyH.done (by kernel_rfl) ?_
   refine Ends.goes ?_
   refine Goes.back (hC0 b4 trivial) ⟨rfl, rfl, rfl, rfl, rfl, rfl, rfl, rfl, trivial⟩
  rintro vb _
  dsimp only [List.cons_append, List.nil_append] at ⊢
  refine Wp.seq ?_
  refine Wp.region ?_
  refine Ops.pv (pv_move rfl) rfl ?_
  refine Ops.pv (pv_move rfl) rfl ?_
  refine Ops.pv (pv_move rfl) rfl ?_
  refine Ops.pv (pv_indexAddr (i := i) rfl rfl rfl (by omega)) rfl ?_
  refine Ops.pv (pv_loadK [.int .i64 sl.1, .int .i64 sl.2] rfl rfl rfl hre) rfl ?_
  refine Ops.ef rfl (ef_callr (tr_mPar _ cb _ p ⟨_, _, _, _, hS, hT, rfl⟩ sl) rfl rfl) ?_
  rintro _ _ ⟨rfl, rfl⟩
  refine Ops.pv (pv_move rfl) rfl ?_
  refine Ops.pv (pv_extract rfl rfl) rfl ?_
  refine Ops.pv (pv_extract rfl rfl) rfl ?_
  refine Ops.ef rfl (ef_allocK tyZ31 rfl) ?_
  rintro _ _ ⟨b5, rfl, rfl⟩
  refine Ops.ef rfl (ef_storeK rfl rfl rfl rfl) ?_
  rintro _ _ ⟨rfl, rfl⟩
  refine Ops.pv (pv_assign rfl) rfl ?_
  refine Ops.nil ?_
  refine Ends.seq ?_
  refine Wp.cutK (σ := Nat) [(0, _), (1, _), (5, _), (6, _), (7, _), (8, _), (9, _), (10, _), (11, _), (12, _)] (fun s => [(13, .pointer (some ⟨s, 0, none⟩)), (14, .bool (ftParB p.F sl))]) (fun s => (s, .cells [.int .i64 (ftPar p.F sl).1, .int .i64 (ftPar p.F sl).2].toArray 31) :: (b5, .cells [.int .i64 (ftPar p.F sl).1, .int .i64 (ftPar p.F sl).2].toArray 31) :: ((vb, .cells (dget p.l sl).1.cells.toArray 25) :: ((va, .cells (dget p.l sl).1.cells.toArray 25) :: (E1 ++ (cBlk cb sb tb :: (Ls ++ (Lt ++ (dcBlk qb v0 w0 :: (H0 ++ (dCaps l0 ++ (K0 ++ F))))))))))) (fun s => True) ⟨rfl, rfl, rfl, rfl, rfl, rfl, rfl, rfl, rfl, rfl, trivial⟩ (fun _ KK hC0 => ?_) ?_
  ·
   dsimp only [List.cons_append, List.nil_append] at hC0
   refine AnyH.start E1 14 rfl ?_
   refine Tk 0 rfl rfl (pv_move rfl) rfl ?_
   refine Tk 1 rfl rfl (pv_nilCheck rfl) rfl ?_
   refine Tk 2 rfl rfl (pv_fieldAddr0 rfl rfl) rfl ?_
   refine Tk 3 rfl rfl (pv_move rfl) rfl ?_
   refine Tk 4 rfl rfl (pv_move rfl) rfl ?_
   refine Tk 5 rfl rfl (pv_indexAddr (i := i) rfl rfl rfl (by omega)) rfl ?_
   refine Tk 6 rfl rfl (pv_loadK [.int .i64 sl.1, .int .i64 sl.2] rfl rfl rfl hre) rfl ?_
   refine AnyH.two 7 11 (by kernel_rfl) ?_ ?_
   ·
    refine Turn.ef rfl rfl (ef_callr (tr_gPar (uS := v0) (F := p.F) ⟨w0, K0, ht0, rfl⟩ hok.nd hl sl) rfl rfl) ?_ ?_
    ·
     rintro _ _ ⟨rfl, rfl⟩; infer_instance
    rintro _ _ ⟨rfl, rfl⟩
    refine Tk 8 rfl rfl (pv_move rfl) rfl ?_
    refine Tk 9 rfl rfl (pv_extract rfl rfl) rfl ?_
    refine Tk 10 rfl rfl (pv_extract rfl rfl) rfl ?_
    refine AnyH.one 11 (by kernel_rfl) ?_
    refine Turn.ef rfl rfl (ef_allocK tyZ31 rfl) ?_ ?_
    ·
     rintro _ _ ⟨b6, rfl, rfl⟩; infer_instance
    rintro _ _ ⟨b6, rfl, rfl⟩
    refine AnyH.one 12 (by kernel_rfl) ?_
    refine Turn.ef rfl rfl (ef_storeK rfl rfl rfl rfl) ?_ ?_
    ·
     rintro _ _ ⟨rfl, rfl⟩; infer_instance
    rintro _ _ ⟨rfl, rfl⟩
    refine Tk 13 rfl rfl (pv_assign rfl) rfl ?_
    refine AnyH.done (by kernel_rfl) ?_
    refine Ends.goes ?_
    refine Goes.back (hC0 b6 trivial) ⟨rfl, rfl, rfl, rfl, rfl, rfl, rfl, rfl, rfl, rfl, rfl, rfl, trivial⟩
   refine Turn.ef rfl rfl (ef_allocK tyZ31 rfl) ?_ ?_
   ·
    rintro _ _ ⟨b7, rfl, rfl⟩; infer_instance
   rintro _ _ ⟨b7, rfl, rfl⟩
   refine AnyH.one 7 (by kernel_rfl) ?_
   refine Turn.ef rfl rfl (ef_callr (tr_gPar (uS := v0) (F := p.F) ⟨w0, K0, ht0, rfl⟩ hok.nd hl sl) rfl rfl) ?_ ?_
   ·
    rintro _ _ ⟨rfl, rfl⟩; infer_instance
   rintro _ _ ⟨rfl, rfl⟩
   refine Tk 8 rfl rfl (pv_move rfl) rfl ?_
   refine Tk 9 rfl rfl (pv_extract rfl rfl) rfl ?_
   refine Tk 10 rfl rfl (pv_extract rfl rfl) rfl ?_
   refine AnyH.one 12 (by kernel_rfl) ?_
   refine Turn.ef rfl rfl (ef_storeK rfl rfl rfl rfl) ?_ ?_
   ·
    rintro _ _ ⟨rfl, rfl⟩; infer_instance
   rintro _ _ ⟨rfl, rfl⟩
   refine Tk 13 rfl rfl (pv_assign rfl) rfl ?_
   refine AnyH.done (by kernel_rfl) ?_
   refine Ends.goes ?_
   refine Goes.back (hC0 b7 trivial) ⟨rfl, rfl, rfl, rfl, rfl, rfl, rfl, rfl, rfl, rfl, rfl, rfl, trivial⟩
  rintro vd _
  dsimp only [List.cons_append, List.nil_append] at ⊢
  refine Wp.seq ?_
  refine AnyH.start ((vb, .cells (dget p.l sl).1.cells.toArray 25) :: (va, .cells (dget p.l sl).1.cells.toArray 25) :: (b5, .cells [.int .i64 (ftPar p.F sl).1, .int .i64 (ftPar p.F sl).2].toArray 31) :: (vd, .cells [.int .i64 (ftPar p.F sl).1, .int .i64 (ftPar p.F sl).2].toArray 31) :: E1) 36 rfl ?_
  refine Tk 0 rfl rfl (pv_loadK [_, _, _, _, _, _] rfl rfl rfl ⟨rfl, rfl, rfl, rfl, rfl, rfl, trivial⟩) rfl ?_
  refine Tk 1 rfl rfl (pv_loadK [_, _, _, _, _, _] rfl rfl rfl ⟨rfl, rfl, rfl, rfl, rfl, rfl, trivial⟩) rfl ?_
  refine Tk 2 rfl rfl ((pv_neq_cap (a := (dget p.l sl).1) (b := (dget p.l sl).1) rfl rfl).fls (fun h => h rfl)) rfl ?_
  refine Tk 3 rfl rfl (pv_move rfl) rfl ?_
  refine Tk 4 rfl ⟨_, _, rfl, rfl, rfl⟩ (pv_move rfl) rfl ?_
  refine Tk 5 rfl ⟨_, _, rfl, rfl, rfl⟩ (pv_move rfl) rfl ?_
  refine Tk 6 rfl ⟨_, _, rfl, rfl, rfl⟩ ((pv_neq rfl rfl).fls (by first | exact fun h => h rfl | decide | omega | assumption)) rfl ?_
  refine Tk 7 rfl rfl (pv_pick_false rfl rfl) rfl ?_
  refine Tk 8 rfl rfl (pv_move rfl) rfl ?_
  refine Tk 9 rfl ⟨_, _, rfl, rfl, rfl⟩ (pv_loadK [_, _] rfl rfl rfl ⟨rfl, rfl, trivial⟩) rfl ?_
  refine Tk 10 rfl ⟨_, _, rfl, rfl, rfl⟩ (pv_loadK [_, _] rfl rfl rfl ⟨rfl, rfl, trivial⟩) rfl ?_
  refine Tk 11 rfl ⟨_, _, rfl, rfl, rfl⟩ ((pv_neq_slot rfl rfl).fls (by first | exact fun h => h rfl | decide | omega | assumption)) rfl ?_
  refine Tk 12 rfl rfl (pv_pick_false rfl rfl) rfl ?_
  refine Tk 13 rfl rfl (pv_move rfl) rfl ?_
  refine Tk 14 rfl ⟨_, _, rfl, rfl, rfl⟩ (pv_move rfl) rfl ?_
  refine Tk 15 rfl ⟨_, _, rfl, rfl, rfl⟩ (pv_move rfl) rfl ?_
  refine Tk 16 rfl ⟨_, _, rfl, rfl, rfl⟩ ((pv_neq_bool rfl rfl).is (u := .bool false) (by first | rfl | (simp; done) | simp_all)) rfl ?_
  refine Tk 17 rfl rfl (pv_pick_false rfl rfl) rfl ?_
  refine Tk 18 rfl rfl (pv_move rfl) rfl ?_
  refine Tk 19 rfl ⟨_, _, rfl, rfl, rfl⟩ (pv_move rfl) rfl ?_
  refine Tk 20 rfl ⟨_, _, rfl, rfl, rfl⟩ (pv_move rfl) rfl ?_
  refine Tk 21 rfl ⟨_, _, rfl, rfl, rfl⟩ (pv_move rfl) rfl ?_
  refine Tk 22 rfl ⟨_, _, rfl, rfl, rfl⟩ (pv_indexAddr (i := i) rfl rfl rfl (by omega)) rfl ?_
  refine Tk 23 rfl ⟨_, _, rfl, rfl, rfl⟩ (pv_loadK [.int .i64 sl.1, .int .i64 sl.2] rfl rfl rfl hre) rfl ?_
  refine Tk 25 rfl ⟨_, _, rfl, rfl, rfl⟩ (pv_move rfl) rfl ?_
  refine Tk 26 rfl ⟨_, _, rfl, rfl, rfl⟩ (pv_nilCheck rfl) rfl ?_
  refine Tk 27 rfl ⟨_, _, rfl, rfl, rfl⟩ (pv_fieldAddr0 rfl rfl) rfl ?_
  refine Tk 28 rfl ⟨_, _, rfl, rfl, rfl⟩ (pv_move rfl) rfl ?_
  refine Tk 29 rfl ⟨_, _, rfl, rfl, rfl⟩ (pv_move rfl) rfl ?_
  refine Tk 30 rfl ⟨_, _, rfl, rfl, rfl⟩ (pv_indexAddr (i := i) rfl rfl rfl (by omega)) rfl ?_
  refine Tk 31 rfl ⟨_, _, rfl, rfl, rfl⟩ (pv_loadK [.int .i64 sl.1, .int .i64 sl.2] rfl rfl rfl hre) rfl ?_
  refine AnyH.one 24 (by kernel_rfl) ?_
  refine Turn.ef rfl ⟨_, _, rfl, rfl, rfl⟩ (ef_call (tr_mKids _ cb _ p ⟨_, _, _, _, hS, hT, rfl⟩ (by omega) sl) rfl rfl) ?_ ?_
  ·
   rintro _ _ ⟨_, _, ⟨C2, hC2, rfl⟩, rfl, rfl⟩; infer_instance
  rintro _ _ ⟨_, _, ⟨C2, hC2, rfl⟩, rfl, rfl⟩
  refine AnyH.app ?_
  obtain ⟨pp3, qq3, rfl⟩ := hC2.form
  refine AnyH.one 32 (by kernel_rfl) ?_
  refine Turn.ef rfl ⟨_, _, rfl, rfl, rfl⟩ (ef_call (tr_gKids (uS := v0) (F := p.F) ⟨w0, K0, ht0, rfl⟩ hok.nd hl sl) rfl rfl) ?_ ?_
  ·
   rintro _ _ ⟨_, _, ⟨D1, hD1, rfl⟩, rfl, rfl⟩; infer_instance
  rintro _ _ ⟨_, _, ⟨D1, hD1, rfl⟩, rfl, rfl⟩
  refine AnyH.app ?_
  obtain ⟨pp4, qq4, rfl⟩ := hD1.form
  refine AnyH.one 33 (by kernel_rfl) ?_
  refine Turn.ef rfl ⟨_, _, rfl, rfl, rfl⟩ (ef_callr ((tr_sameSlots (C2 ++ D1) _ _ _ _ (ftKids p.F sl) (ftKids p.F sl) (hC2.view.mono (by intro p hp; simp [hp])) (hD1.view.mono (by intro p hp; simp [hp])) (by have := ftKids_len p.F sl; omega)).eq (r' := .bool true) (by rw [decide_eq_true rfl])) rfl rfl) ?_ ?_
  ·
   rintro _ _ ⟨rfl, rfl⟩; infer_instance
  rintro _ _ ⟨rfl, rfl⟩
  refine Tk 34 rfl ⟨_, _, rfl, rfl, rfl⟩ (pv_not rfl) rfl ?_
  refine Tk 35 rfl rfl (pv_pick_false rfl rfl) rfl ?_
  refine AnyH.done (by kernel_rfl) ?_
  refine Ends.seq ?_
  refine Wp.cond_false rfl ?_
  refine Wp.skip ?_
  refine Ends.block_normal ?_
  refine Ends.seq ?_
  refine Wp.region ?_
  refine Ops.pv (pv_move rfl) rfl ?_
  refine Ops.pv (pv_add rfl rfl (w64 (by omega) (by omega))) rfl ?_
  refine Ops.pv (pv_assign rfl) rfl ?_
  refine Ops.nil ?_
  refine Ends.goes ?_
  refine Goes.back (hK (i + 1) (by omega) (by omega)) ⟨rfl, rfl, rfl, rfl, trivial⟩
 refine Wp.exit ?_
 refine Ends.then_exit ?_
 refine Ends.then_exit ?_
 refine Ends.block_hit ?_
 refine Ends.seq ?_
 refine Wp.seq ?_
 refine Wp.region ?_
 refine Ops.pv (pv_assign rfl) rfl ?_
 refine Ops.nil ?_
 refine Ends.seq ?_
 refine Wp.ret ?_
 exact Ends.ret (res1 rfl rfl) ⟨rfl, rfl⟩
end Go.Proofs.YtdodfnjmkpgdbaaGreat
end
section
set_option linter.unusedVariables false
set_option linter.unusedSimpArgs false
namespace Go.Proofs.YtdodfnjmkpgdbaaGreat
open Go.SL
instance (priority := 1260) Part.consApp {x : Nat × Obj} {L A T R : Hp} [h : Part L (x :: (A ++ T)) R] : Part L ((x :: A) ++ T) R := ⟨h.perm⟩
set_option maxHeartbeats 16000000 in
theorem tr_movesDoes (G : Hp) (a : Option Addr) (c : Nat) (l : List OpC) (ha : ArgS G 18 a (l.map OpC.cells)) (hrg : ∀ o, o ∈ l → OpC.Rg o) (hl : l.length ≤ maxLen) (root : CapM) (q : Nat) (hq64 : q < 2 ^ 64) (depth : Int) : TrR Tryz.prog 3 [.slice a l.length c, root.v, .int .u64 q, .int .i64 depth] (G) (.bool true) := by
 refine Tr.enter Tryz.func3 rfl Tryz.ntmps3 rfl (fun W F => ?_)
 refine Wp.app ?_
 refine Wp.seq ?_
 refine Wp.region ?_
 refine Ops.ef rfl (ef_boxK rfl rfl) ?_
 rintro _ _ ⟨b1, rfl, rfl⟩
 refine Ops.pv (pv_assign rfl) rfl ?_
 refine Ops.nil ?_
 refine Ends.seq ?_
 refine Wp.seq ?_
 refine Wp.region ?_
 refine Ops.ef rfl (ef_call (tr_mNew) rfl rfl) ?_
 rintro _ _ ⟨_, Q1, ⟨cb1, rfl, hC1⟩, rfl, rfl⟩
 refine Ops.app ?_
 skip
 refine Ops.ef rfl (ef_call (tr_dcNew) rfl rfl) ?_
 rintro _ _ ⟨_, Q2, ⟨qb1, rfl, hD1⟩, rfl, rfl⟩
 refine Ops.app ?_
 skip
 refine Ops.pv (pv_assign rfl) rfl ?_
 refine Ops.pv (pv_assign rfl) rfl ?_
 refine Ops.nil ?_
 refine Ends.seq ?_
 refine Wp.seq ?_
 refine Wp.seq ?_
 refine Wp.region ?_
 refine Ops.pv (pv_move rfl) rfl ?_
 refine Ops.pv (pv_eql_nil rfl rfl) rfl ?_
 refine Ops.nil ?_
 refine Ends.seq ?_
 refine Wp.cond_false rfl ?_
 refine Wp.skip ?_
 refine Ends.seq ?_
 refine Wp.seq ?_
 refine Wp.seq ?_
 refine Wp.region ?_
 refine Ops.pv (pv_assign rfl) rfl ?_
 refine Ops.nil ?_
 refine Ends.seq ?_
 refine Wp.block ?_
 refine Wp.loopK (σ := Nat × PS × Hp × Hp) [(0, _), (2, _), (3, _), (5, _), (9, _), (10, _)] (fun s => [(11, .int .i64 s.1)]) (fun s => (b1, .cells root.cells.toArray 25) :: (s.2.2.1 ++ (s.2.2.2 ++ (G ++ F)))) (fun s => s.1 ≤ l.length ∧ s.1 ≤ 60 ∧ CapsH s.1 s.2.1 cb1 s.2.2.1 ∧ DcH s.2.1 qb1 s.2.2.2 ∧ ROk s.2.1) (fun s => l.length - s.1) (0, PS.new, Q1, Q2) ⟨Nat.zero_le _, Nat.zero_le _, hC1, hD1, ROk.new⟩ ⟨rfl, rfl, rfl, rfl, rfl, rfl, trivial⟩ ⟨rfl, trivial⟩ (by intro w ho; (try dsimp only [List.nil_append, List.cons_append]); exact Drop.own ho) ?_
 rintro ⟨i, p, Lc, Ld⟩ KK ⟨hi, hi2, hC, hD, hp⟩ hK
 dsimp only [List.cons_append, List.nil_append] at hK ⊢
 dsimp only at hi hi2 hC hD hp ⊢
 refine Wp.seq ?_
 refine Wp.seq ?_
 refine Wp.region ?_
 refine Ops.pv (pv_move rfl) rfl ?_
 refine Ops.pv (pv_move rfl) rfl ?_
 refine Ops.pv (pv_len_slice (T := 22) rfl rfl) rfl ?_
 refine Ops.pv (pv_lss rfl rfl) rfl ?_
 refine Ops.pv (pv_move rfl) rfl ?_
 refine Ops.pvc rfl rfl (fun hg => pv_move rfl) rfl ?_
 refine Ops.pvc rfl rfl (fun hg => Pv.setE (t := 32) rfl (cv_pos hg) (pv_lss rfl rfl)) rfl ?_
 refine Ops.pv (pv_pick_and rfl rfl) rfl ?_
 refine Ops.nil ?_
 refine Ends.seq ?_
 refine Wp.cond_dect rfl (fun h1 => ?_) (fun h1 => ?_)
 ·
  obtain ⟨x, hq⟩ : ∃ x, l[i]? = some x := ⟨_, List.getElem?_eq_getElem (by omega)⟩
  obtain ⟨_, b, o, cc, T, f, rfl, hmm, hr⟩ := ha i x.cells (by rw [List.getElem?_map, hq]; rfl)
  have hbg : Blk G b (.cells cc.toArray T f) := ⟨hmm⟩
  have hxr := hrg x (List.mem_of_getElem? hq)
  refine Wp.skip ?_
  refine Ends.seq ?_
  refine Wp.seq ?_
  refine Wp.block ?_
  refine Wp.seq ?_
  refine Wp.region ?_
  refine Ops.pv (pv_move rfl) rfl ?_
  refine Ops.pv (pv_move rfl) rfl ?_
  refine Ops.pv (pv_indexAddr (i := i) rfl rfl rfl (by omega)) rfl ?_
  refine Ops.pv (pv_loadK x.cells rfl rfl rfl ⟨hr.1, hr.2.1, hr.2.2.1, hr.2.2.2.1, hr.2.2.2.2.1, hr.2.2.2.2.2.1, hr.2.2.2.2.2.2.1, hr.2.2.2.2.2.2.2.1, hr.2.2.2.2.2.2.2.2.1, hr.2.2.2.2.2.2.2.2.2.1, hr.2.2.2.2.2.2.2.2.2.2.1, hr.2.2.2.2.2.2.2.2.2.2.2.1, hr.2.2.2.2.2.2.2.2.2.2.2.2.1, hr.2.2.2.2.2.2.2.2.2.2.2.2.2.1, hr.2.2.2.2.2.2.2.2.2.2.2.2.2.2.1, hr.2.2.2.2.2.2.2.2.2.2.2.2.2.2.2.1, hr.2.2.2.2.2.2.2.2.2.2.2.2.2.2.2.2.1, hr.2.2.2.2.2.2.2.2.2.2.2.2.2.2.2.2.2.1, trivial⟩) rfl ?_
  refine Ops.ef rfl (ef_allocK tyZ33 rfl) ?_
  rintro _ _ ⟨b2, rfl, rfl⟩
  refine Ops.ef rfl (ef_storeK rfl rfl rfl rfl) ?_
  rintro _ _ ⟨rfl, rfl⟩
  refine Ops.nil ?_
  refine Ends.seq ?_
  refine Wp.seq ?_
  refine AnyH.start ((b2, .cells x.cells.toArray 33) :: []) 69 rfl ?_
  refine Tk 0 rfl rfl (pv_move rfl) rfl ?_
  refine Tk 1 rfl rfl (pv_move rfl) rfl ?_
  refine Tk 2 rfl rfl (pv_loadK [_, _, _, _, _, _, _, _, _, _, _, _, _, _, _, _, _, _] rfl rfl rfl ⟨rfl, rfl, rfl, rfl, rfl, rfl, rfl, rfl, rfl, rfl, rfl, rfl, rfl, rfl, rfl, rfl, rfl, rfl, trivial⟩) rfl ?_
  refine AnyH.one 3 (by kernel_rfl) ?_
  refine Turn.ef rfl rfl (ef_call (tr_zAct i cb1 qb1 Lc Ld p hC hD hp (by omega) x hxr) rfl rfl) ?_ ?_
  ·
   rintro _ _ ⟨_, Q3, ⟨rfl, _, _, ⟨sb2, tb2, Ls2, Lt2, hS2, hT2, rfl⟩, ⟨S2, l2, v2, H2, w2, K2, hR2, hQ2, hs2, ht2, rfl⟩, rfl⟩, rfl, rfl⟩; infer_instance
  rintro _ _ ⟨_, Q3, ⟨rfl, _, _, ⟨sb2, tb2, Ls2, Lt2, hS2, hT2, rfl⟩, ⟨S2, l2, v2, H2, w2, K2, hR2, hQ2, hs2, ht2, rfl⟩, rfl⟩, rfl, rfl⟩
  refine AnyH.app ?_
  have hp2 := actZ_ok hp hxr
  have hl2 : (actZ p x).F.all.length ≤ 2 ^ 20 := by have := hT2.len; omega
  rw [List.cons_append, List.append_assoc]
  refine Tk 4 rfl rfl (pv_not rfl) rfl ?_
  refine Tk 5 rfl rfl (pv_move rfl) rfl ?_
  refine Tk 6 rfl ⟨_, _, rfl, rfl, rfl⟩ (pv_move rfl) rfl ?_
  refine Tk 7 rfl ⟨_, _, rfl, rfl, rfl⟩ (pv_move rfl) rfl ?_
  refine AnyH.one 8 (by kernel_rfl) ?_
  refine Turn.ef rfl ⟨_, _, rfl, rfl, rfl⟩ (ef_callr (tr_zSame (i + 1) cb1 qb1 _ _ (actZ p x) ⟨_, _, _, _, hS2, hT2, rfl⟩ ⟨S2, l2, v2, H2, w2, K2, hR2, hQ2, hs2, ht2, rfl⟩ hp2 (by omega)) rfl rfl) ?_ ?_
  ·
   rintro _ _ ⟨rfl, rfl⟩; infer_instance
  rintro _ _ ⟨rfl, rfl⟩
  refine Tk 9 rfl ⟨_, _, rfl, rfl, rfl⟩ (pv_not rfl) rfl ?_
  refine Tk 10 rfl rfl (pv_pick_false rfl rfl) rfl ?_
  refine Tk 11 rfl rfl (pv_move rfl) rfl ?_
  refine Tk 12 rfl ⟨_, _, rfl, rfl, rfl⟩ (pv_move rfl) rfl ?_
  refine Tk 13 rfl ⟨_, _, rfl, rfl, rfl⟩ (pv_nilCheck rfl) rfl ?_
  refine Tk 14 rfl ⟨_, _, rfl, rfl, rfl⟩ (pv_fieldAddr0 rfl rfl) rfl ?_
  refine Tk 15 rfl ⟨_, _, rfl, rfl, rfl⟩ (pv_fieldAddr0 rfl rfl) rfl ?_
  refine Tk 17 rfl ⟨_, _, rfl, rfl, rfl⟩ (pv_fieldAddr0 rfl rfl) rfl ?_
  refine Tk 18 rfl ⟨_, _, rfl, rfl, rfl⟩ (pv_fieldAddr rfl rfl) rfl ?_
  refine Tk 19 rfl ⟨_, _, rfl, rfl, rfl⟩ (pv_load rfl rfl rfl) rfl ?_
  refine Tk 21 rfl ⟨_, _, rfl, rfl, rfl⟩ (pv_move rfl) rfl ?_
  refine Tk 22 rfl ⟨_, _, rfl, rfl, rfl⟩ (pv_nilCheck rfl) rfl ?_
  refine Tk 23 rfl ⟨_, _, rfl, rfl, rfl⟩ (pv_fieldAddr0 rfl rfl) rfl ?_
  refine Tk 24 rfl ⟨_, _, rfl, rfl, rfl⟩ (pv_fieldAddr0 rfl rfl) rfl ?_
  refine Tk 25 rfl ⟨_, _, rfl, rfl, rfl⟩ (pv_fieldAddr rfl rfl) rfl ?_
  refine Tk 26 rfl ⟨_, _, rfl, rfl, rfl⟩ (pv_load rfl rfl rfl) rfl ?_
  refine AnyH.one 16 (by kernel_rfl) ?_
  refine Turn.ef rfl ⟨_, _, rfl, rfl, rfl⟩ (ef_pv (pv_load rfl rfl rfl) rfl) ?_ ?_
  ·
   rintro _ _ ⟨rfl, rfl⟩; infer_instance
  rintro _ _ ⟨rfl, rfl⟩
  refine AnyH.one 20 (by kernel_rfl) ?_
  refine Turn.ef rfl ⟨_, _, rfl, rfl, rfl⟩ (ef_callr (sf_radix hS2 x.a.1) rfl rfl) ?_ ?_
  ·
   rintro _ _ ⟨rfl, rfl⟩; infer_instance
  rintro _ _ ⟨rfl, rfl⟩
  refine AnyH.one 27 (by kernel_rfl) ?_
  refine Turn.ef rfl ⟨_, _, rfl, rfl, rfl⟩ (ef_callr (dsf_radix (uT := w2) ⟨S2, l2, hR2, hQ2, v2, H2, hs2, rfl⟩ x.a.1) rfl rfl) ?_ ?_
  ·
   rintro _ _ ⟨rfl, rfl⟩; infer_instance
  rintro _ _ ⟨rfl, rfl⟩
  refine Tk 28 rfl ⟨_, _, rfl, rfl, rfl⟩ ((pv_neq rfl rfl).fls (fun h => h rfl)) rfl ?_
  refine Tk 29 rfl rfl (pv_pick_false rfl rfl) rfl ?_
  refine Tk 30 rfl rfl (pv_move rfl) rfl ?_
  refine Tk 31 rfl ⟨_, _, rfl, rfl, rfl⟩ (pv_move rfl) rfl ?_
  refine Tk 32 rfl ⟨_, _, rfl, rfl, rfl⟩ (pv_nilCheck rfl) rfl ?_
  refine Tk 33 rfl ⟨_, _, rfl, rfl, rfl⟩ (pv_fieldAddr0 rfl rfl) rfl ?_
  refine Tk 34 rfl ⟨_, _, rfl, rfl, rfl⟩ (pv_fieldAddr0 rfl rfl) rfl ?_
  refine Tk 36 rfl ⟨_, _, rfl, rfl, rfl⟩ (pv_fieldAddr0 rfl rfl) rfl ?_
  refine Tk 37 rfl ⟨_, _, rfl, rfl, rfl⟩ (pv_fieldAddr rfl rfl) rfl ?_
  refine Tk 38 rfl ⟨_, _, rfl, rfl, rfl⟩ (pv_load rfl rfl rfl) rfl ?_
  refine Tk 39 rfl ⟨_, _, rfl, rfl, rfl⟩ (pv_fieldAddr0 rfl rfl) rfl ?_
  refine Tk 40 rfl ⟨_, _, rfl, rfl, rfl⟩ (pv_fieldAddr rfl rfl) rfl ?_
  refine Tk 41 rfl ⟨_, _, rfl, rfl, rfl⟩ (pv_load rfl rfl rfl) rfl ?_
  refine Tk 43 rfl ⟨_, _, rfl, rfl, rfl⟩ (pv_move rfl) rfl ?_
  refine Tk 44 rfl ⟨_, _, rfl, rfl, rfl⟩ (pv_nilCheck rfl) rfl ?_
  refine Tk 45 rfl ⟨_, _, rfl, rfl, rfl⟩ (pv_fieldAddr0 rfl rfl) rfl ?_
  refine Tk 46 rfl ⟨_, _, rfl, rfl, rfl⟩ (pv_fieldAddr0 rfl rfl) rfl ?_
  refine Tk 47 rfl ⟨_, _, rfl, rfl, rfl⟩ (pv_fieldAddr rfl rfl) rfl ?_
  refine Tk 48 rfl ⟨_, _, rfl, rfl, rfl⟩ (pv_load rfl rfl rfl) rfl ?_
  refine Tk 49 rfl ⟨_, _, rfl, rfl, rfl⟩ (pv_fieldAddr0 rfl rfl) rfl ?_
  refine Tk 50 rfl ⟨_, _, rfl, rfl, rfl⟩ (pv_fieldAddr rfl rfl) rfl ?_
  refine Tk 51 rfl ⟨_, _, rfl, rfl, rfl⟩ (pv_load rfl rfl rfl) rfl ?_
  refine AnyH.one 35 (by kernel_rfl) ?_
  refine Turn.ef rfl ⟨_, _, rfl, rfl, rfl⟩ (ef_pv (pv_load rfl rfl rfl) rfl) ?_ ?_
  ·
   rintro _ _ ⟨rfl, rfl⟩; infer_instance
  rintro _ _ ⟨rfl, rfl⟩
  refine AnyH.one 42 (by kernel_rfl) ?_
  refine Turn.ef rfl ⟨_, _, rfl, rfl, rfl⟩ (ef_callr (sf_count hS2 x.c.kind x.c.object) rfl rfl) ?_ ?_
  ·
   rintro _ _ ⟨rfl, rfl⟩; infer_instance
  rintro _ _ ⟨rfl, rfl⟩
  refine AnyH.one 52 (by kernel_rfl) ?_
  refine Turn.ef rfl ⟨_, _, rfl, rfl, rfl⟩ (ef_callr (dsf_count (uT := w2) ⟨S2, l2, hR2, hQ2, v2, H2, hs2, rfl⟩ x.c.kind x.c.object) rfl rfl) ?_ ?_
  ·
   rintro _ _ ⟨rfl, rfl⟩; infer_instance
  rintro _ _ ⟨rfl, rfl⟩
  refine Tk 53 rfl ⟨_, _, rfl, rfl, rfl⟩ ((pv_neq rfl rfl).fls (fun h => h rfl)) rfl ?_
  refine Tk 54 rfl rfl (pv_pick_false rfl rfl) rfl ?_
  refine Tk 55 rfl rfl (pv_move rfl) rfl ?_
  refine Tk 56 rfl ⟨_, _, rfl, rfl, rfl⟩ (pv_move rfl) rfl ?_
  refine Tk 57 rfl ⟨_, _, rfl, rfl, rfl⟩ (pv_fieldAddr0 rfl rfl) rfl ?_
  refine Tk 58 rfl ⟨_, _, rfl, rfl, rfl⟩ (pv_loadK [_, _] rfl rfl rfl ⟨rfl, rfl, trivial⟩) rfl ?_
  refine Tk 60 rfl ⟨_, _, rfl, rfl, rfl⟩ (pv_move rfl) rfl ?_
  refine Tk 61 rfl ⟨_, _, rfl, rfl, rfl⟩ (pv_nilCheck rfl) rfl ?_
  refine Tk 62 rfl ⟨_, _, rfl, rfl, rfl⟩ (pv_fieldAddr0 rfl rfl) rfl ?_
  refine Tk 63 rfl ⟨_, _, rfl, rfl, rfl⟩ (pv_fieldAddr0 rfl rfl) rfl ?_
  refine Tk 64 rfl ⟨_, _, rfl, rfl, rfl⟩ (pv_loadK [_, _] rfl rfl rfl ⟨rfl, rfl, trivial⟩) rfl ?_
  refine AnyH.one 59 (by kernel_rfl) ?_
  refine Turn.ef rfl ⟨_, _, rfl, rfl, rfl⟩ (ef_call (tr_mKin _ cb1 _ (actZ p x) ⟨_, _, _, _, hS2, hT2, rfl⟩ (by omega) x.a) rfl rfl) ?_ ?_
  ·
   rintro _ _ ⟨_, _, ⟨C1, hC2, rfl⟩, rfl, rfl⟩; infer_instance
  rintro _ _ ⟨_, _, ⟨C1, hC2, rfl⟩, rfl, rfl⟩
  refine AnyH.app ?_
  obtain ⟨pp1, qq1, rfl⟩ := hC2.form
  refine AnyH.one 65 (by kernel_rfl) ?_
  refine Turn.ef rfl ⟨_, _, rfl, rfl, rfl⟩ (ef_call (tr_gKin (uS := v2) (F := (actZ p x).F) ⟨w2, K2, ht2, rfl⟩ hp2.ok.nd hl2 x.a) rfl rfl) ?_ ?_
  ·
   rintro _ _ ⟨_, _, ⟨D1, hD2, rfl⟩, rfl, rfl⟩; infer_instance
  rintro _ _ ⟨_, _, ⟨D1, hD2, rfl⟩, rfl, rfl⟩
  refine AnyH.app ?_
  obtain ⟨pp2, qq2, rfl⟩ := hD2.form
  refine AnyH.one 66 (by kernel_rfl) ?_
  refine Turn.ef rfl ⟨_, _, rfl, rfl, rfl⟩ (ef_callr ((tr_sameSlots (C1 ++ D1) _ _ _ _ (ftKin (actZ p x).F x.a) (ftKin (actZ p x).F x.a) (hC2.view.mono (by intro p hp; simp [hp])) (hD2.view.mono (by intro p hp; simp [hp])) (by have := ftKin_len (actZ p x).F x.a; omega)).eq (r' := .bool true) (by rw [decide_eq_true rfl])) rfl rfl) ?_ ?_
  ·
   rintro _ _ ⟨rfl, rfl⟩; infer_instance
  rintro _ _ ⟨rfl, rfl⟩
  refine Tk 67 rfl ⟨_, _, rfl, rfl, rfl⟩ (pv_not rfl) rfl ?_
  refine Tk 68 rfl rfl (pv_pick_false rfl rfl) rfl ?_
  refine AnyH.done (by kernel_rfl) ?_
  refine Ends.seq ?_
  refine Wp.cond_false rfl ?_
  refine Wp.skip ?_
  refine Ends.block_normal ?_
  refine Ends.seq ?_
  refine Wp.region ?_
  refine Ops.pv (pv_move rfl) rfl ?_
  refine Ops.pv (pv_add rfl rfl (w64 (by omega) (by omega))) rfl ?_
  refine Ops.pv (pv_assign rfl) rfl ?_
  refine Ops.nil ?_
  refine Ends.goes ?_
  refine Goes.back (hK (i + 1, actZ p x, cBlk cb1 sb2 tb2 :: (Ls2 ++ Lt2), dcBlk qb1 v2 w2 :: (H2 ++ (dCaps l2 ++ K2))) ⟨by dsimp only; omega, by dsimp only; omega, ⟨_, _, _, _, hS2, hT2, rfl⟩, ⟨S2, l2, v2, H2, w2, K2, hR2, hQ2, hs2, ht2, rfl⟩, hp2⟩ (by dsimp only; omega)) ⟨rfl, rfl, rfl, rfl, rfl, rfl, rfl, trivial⟩
 obtain ⟨S0, l0, v0, H0, w0, K0, hR0, hQ0, hs0, ht0, rfl⟩ := hD
 rw [List.cons_append, List.append_assoc, List.append_assoc]
 refine Wp.exit ?_
 refine Ends.then_exit ?_
 refine Ends.then_exit ?_
 refine Ends.block_hit ?_
 refine Ends.seq ?_
 refine Wp.seq ?_
 refine Wp.region ?_
 refine Ops.pv (pv_move rfl) rfl ?_
 refine Ops.pv (pv_loadK [_, _, _, _, _, _] rfl rfl rfl ⟨rfl, rfl, rfl, rfl, rfl, rfl, trivial⟩) rfl ?_
 refine Ops.pv (pv_move rfl) rfl ?_
 refine Ops.ef rfl (ef_callr (tr_mFind i cb1 Lc p hC S0 hR0 root q hq64) rfl rfl) ?_
 rintro _ _ ⟨rfl, rfl⟩
 refine Ops.pv (pv_move rfl) rfl ?_
 refine Ops.pv (pv_extract rfl rfl) rfl ?_
 refine Ops.pv (pv_extract rfl rfl) rfl ?_
 refine Ops.pv (pv_extract rfl rfl) rfl ?_
 refine Ops.ef rfl (ef_allocK tyZ31 rfl) ?_
 rintro _ _ ⟨b3, rfl, rfl⟩
 refine Ops.ef rfl (ef_allocK tyZ25 rfl) ?_
 rintro _ _ ⟨b4, rfl, rfl⟩
 refine Ops.ef rfl (ef_storeK rfl rfl rfl rfl) ?_
 rintro _ _ ⟨rfl, rfl⟩
 refine Ops.ef rfl (ef_storeK rfl rfl rfl rfl) ?_
 rintro _ _ ⟨rfl, rfl⟩
 refine Ops.pv (pv_assign rfl) rfl ?_
 refine Ops.nil ?_
 refine Ends.seq ?_
 refine Wp.seq ?_
 refine AnyH.start ((b1, .cells root.cells.toArray 25) :: []) 15 rfl ?_
 refine Tk 0 rfl rfl (pv_move rfl) rfl ?_
 refine Tk 1 rfl rfl (pv_nilCheck rfl) rfl ?_
 refine Tk 2 rfl rfl (pv_fieldAddr0 rfl rfl) rfl ?_
 refine Tk 3 rfl rfl (pv_loadK [_, _, _, _, _, _] rfl rfl rfl ⟨rfl, rfl, rfl, rfl, rfl, rfl, trivial⟩) rfl ?_
 refine Tk 4 rfl rfl (pv_move rfl) rfl ?_
 refine AnyH.three 5 10 11 (by kernel_rfl) ?_ ?_ ?_
 ·
  refine Turn.ef rfl rfl (ef_callr (tr_dcap w0 qb1 _ S0 l0 hQ0 ⟨v0, H0, hs0, rfl⟩ root q) rfl rfl) ?_ ?_
  ·
   rintro _ _ ⟨rfl, rfl⟩; infer_instance
  rintro _ _ ⟨rfl, rfl⟩
  refine Tk 6 rfl rfl (pv_move rfl) rfl ?_
  refine Tk 7 rfl rfl (pv_extract rfl rfl) rfl ?_
  refine Tk 8 rfl rfl (pv_extract rfl rfl) rfl ?_
  refine Tk 9 rfl rfl (pv_extract rfl rfl) rfl ?_
  refine AnyH.two 10 11 (by kernel_rfl) ?_ ?_
  ·
   refine Turn.ef rfl rfl (ef_allocK tyZ31 rfl) ?_ ?_
   ·
    rintro _ _ ⟨b5, rfl, rfl⟩; infer_instance
   rintro _ _ ⟨b5, rfl, rfl⟩
   refine AnyH.one 11 (by kernel_rfl) ?_
   refine Turn.ef rfl rfl (ef_allocK tyZ25 rfl) ?_ ?_
   ·
    rintro _ _ ⟨b6, rfl, rfl⟩; infer_instance
   rintro _ _ ⟨b6, rfl, rfl⟩
   refine AnyH.one 12 (by kernel_rfl) ?_
   refine Turn.ef rfl rfl (ef_storeK rfl rfl rfl rfl) ?_ ?_
   ·
    rintro _ _ ⟨rfl, rfl⟩; infer_instance
   rintro _ _ ⟨rfl, rfl⟩
   refine AnyH.one 13 (by kernel_rfl) ?_
   refine Turn.ef rfl rfl (ef_storeK rfl rfl rfl rfl) ?_ ?_
   ·
    rintro _ _ ⟨rfl, rfl⟩; infer_instance
   rintro _ _ ⟨rfl, rfl⟩
   refine Tk 14 rfl rfl (pv_assign rfl) rfl ?_
   refine AnyH.done (by kernel_rfl) ?_
   refine Ends.seq ?_
   refine Wp.seq ?_
   refine Wp.region ?_
   refine Ops.pv (pv_move rfl) rfl ?_
   refine Ops.pv (pv_loadK [_, _, _, _, _, _] rfl rfl rfl ⟨rfl, rfl, rfl, rfl, rfl, rfl, trivial⟩) rfl ?_
   refine Ops.pv (pv_move rfl) rfl ?_
   refine Ops.pv (pv_move rfl) rfl ?_
   refine Ops.ef rfl (ef_callr (tr_mSlotA i cb1 Lc p hC S0 hR0 root q hq64 depth) rfl rfl) ?_
   rintro _ _ ⟨rfl, rfl⟩
   refine Ops.pv (pv_move rfl) rfl ?_
   refine Ops.pv (pv_extract rfl rfl) rfl ?_
   refine Ops.pv (pv_extract rfl rfl) rfl ?_
   refine Ops.ef rfl (ef_allocK tyZ31 rfl) ?_
   rintro _ _ ⟨b7, rfl, rfl⟩
   refine Ops.ef rfl (ef_storeK rfl rfl rfl rfl) ?_
   rintro _ _ ⟨rfl, rfl⟩
   refine Ops.pv (pv_assign rfl) rfl ?_
   refine Ops.nil ?_
   refine Ends.seq ?_
   refine Wp.seq ?_
   refine AnyH.start ((b1, .cells root.cells.toArray 25) :: []) 13 rfl ?_
   refine Tk 0 rfl rfl (pv_move rfl) rfl ?_
   refine Tk 1 rfl rfl (pv_nilCheck rfl) rfl ?_
   refine Tk 2 rfl rfl (pv_fieldAddr0 rfl rfl) rfl ?_
   refine Tk 3 rfl rfl (pv_loadK [_, _, _, _, _, _] rfl rfl rfl ⟨rfl, rfl, rfl, rfl, rfl, rfl, trivial⟩) rfl ?_
   refine Tk 4 rfl rfl (pv_move rfl) rfl ?_
   refine Tk 5 rfl rfl (pv_move rfl) rfl ?_
   refine AnyH.two 6 10 (by kernel_rfl) ?_ ?_
   ·
    refine Turn.ef rfl rfl (ef_callr (tr_dfindA w0 qb1 _ S0 l0 hQ0 ⟨v0, H0, hs0, rfl⟩ root q depth) rfl rfl) ?_ ?_
    ·
     rintro _ _ ⟨rfl, rfl⟩; infer_instance
    rintro _ _ ⟨rfl, rfl⟩
    refine Tk 7 rfl rfl (pv_move rfl) rfl ?_
    refine Tk 8 rfl rfl (pv_extract rfl rfl) rfl ?_
    refine Tk 9 rfl rfl (pv_extract rfl rfl) rfl ?_
    refine AnyH.one 10 (by kernel_rfl) ?_
    refine Turn.ef rfl rfl (ef_allocK tyZ31 rfl) ?_ ?_
    ·
     rintro _ _ ⟨b8, rfl, rfl⟩; infer_instance
    rintro _ _ ⟨b8, rfl, rfl⟩
    refine AnyH.one 11 (by kernel_rfl) ?_
    refine Turn.ef rfl rfl (ef_storeK rfl rfl rfl rfl) ?_ ?_
    ·
     rintro _ _ ⟨rfl, rfl⟩; infer_instance
    rintro _ _ ⟨rfl, rfl⟩
    refine Tk 12 rfl rfl (pv_assign rfl) rfl ?_
    refine AnyH.done (by kernel_rfl) ?_
    refine Ends.seq ?_
    refine Wp.seq ?_
    refine Wp.region ?_
    refine Ops.pv (pv_loadK [_, _] rfl rfl rfl ⟨rfl, rfl, trivial⟩) rfl ?_
    refine Ops.pv (pv_loadK [_, _] rfl rfl rfl ⟨rfl, rfl, trivial⟩) rfl ?_
    refine Ops.pv ((pv_eql_slot (a := (capM S0 root q).1) (b := (capM S0 root q).1) rfl rfl).tru rfl) rfl ?_
    refine Ops.pv (pv_move rfl) rfl ?_
    refine Ops.pvg ⟨_, _, rfl, rfl, rfl⟩ (pv_loadK [_, _, _, _, _, _] rfl rfl rfl ⟨rfl, rfl, rfl, rfl, rfl, rfl, trivial⟩) rfl ?_
    refine Ops.pvg ⟨_, _, rfl, rfl, rfl⟩ (pv_loadK [_, _, _, _, _, _] rfl rfl rfl ⟨rfl, rfl, rfl, rfl, rfl, rfl, trivial⟩) rfl ?_
    refine Ops.pvg ⟨_, _, rfl, rfl, rfl⟩ ((pv_eql_cap (a := (capM S0 root q).2.1) (b := (capM S0 root q).2.1) rfl rfl).tru rfl) rfl ?_
    refine Ops.pv (pv_pick_true rfl rfl) rfl ?_
    refine Ops.pv (pv_move rfl) rfl ?_
    refine Ops.pvg ⟨_, _, rfl, rfl, rfl⟩ (pv_move rfl) rfl ?_
    refine Ops.pvg ⟨_, _, rfl, rfl, rfl⟩ (pv_move rfl) rfl ?_
    refine Ops.pvg ⟨_, _, rfl, rfl, rfl⟩ ((pv_eql rfl rfl).tru rfl) rfl ?_
    refine Ops.pv (pv_pick_true rfl rfl) rfl ?_
    refine Ops.pv (pv_move rfl) rfl ?_
    refine Ops.pvg ⟨_, _, rfl, rfl, rfl⟩ (pv_loadK [_, _] rfl rfl rfl ⟨rfl, rfl, trivial⟩) rfl ?_
    refine Ops.pvg ⟨_, _, rfl, rfl, rfl⟩ (pv_loadK [_, _] rfl rfl rfl ⟨rfl, rfl, trivial⟩) rfl ?_
    refine Ops.pvg ⟨_, _, rfl, rfl, rfl⟩ ((pv_eql_slot (a := (findM S0 root q depth).1) (b := (findM S0 root q depth).1) rfl rfl).tru rfl) rfl ?_
    refine Ops.pv (pv_pick_true rfl rfl) rfl ?_
    refine Ops.pv (pv_move rfl) rfl ?_
    refine Ops.pvg ⟨_, _, rfl, rfl, rfl⟩ (pv_move rfl) rfl ?_
    refine Ops.pvg ⟨_, _, rfl, rfl, rfl⟩ (pv_move rfl) rfl ?_
    refine Ops.pvg ⟨_, _, rfl, rfl, rfl⟩ ((pv_eql rfl rfl).tru rfl) rfl ?_
    refine Ops.pv (pv_pick_true rfl rfl) rfl ?_
    refine Ops.pv (pv_assign rfl) rfl ?_
    refine Ops.nil ?_
    refine Ends.seq ?_
    refine Wp.ret ?_
    exact Ends.ret (res1 rfl rfl) ⟨rfl, rfl⟩
   refine Turn.ef rfl rfl (ef_allocK tyZ31 rfl) ?_ ?_
   ·
    rintro _ _ ⟨b9, rfl, rfl⟩; infer_instance
   rintro _ _ ⟨b9, rfl, rfl⟩
   refine AnyH.one 6 (by kernel_rfl) ?_
   refine Turn.ef rfl rfl (ef_callr (tr_dfindA w0 qb1 _ S0 l0 hQ0 ⟨v0, H0, hs0, rfl⟩ root q depth) rfl rfl) ?_ ?_
   ·
    rintro _ _ ⟨rfl, rfl⟩; infer_instance
   rintro _ _ ⟨rfl, rfl⟩
   refine Tk 7 rfl rfl (pv_move rfl) rfl ?_
   refine Tk 8 rfl rfl (pv_extract rfl rfl) rfl ?_
   refine Tk 9 rfl rfl (pv_extract rfl rfl) rfl ?_
   refine AnyH.one 11 (by kernel_rfl) ?_
   refine Turn.ef rfl rfl (ef_storeK rfl rfl rfl rfl) ?_ ?_
   ·
    rintro _ _ ⟨rfl, rfl⟩; infer_instance
   rintro _ _ ⟨rfl, rfl⟩
   refine Tk 12 rfl rfl (pv_assign rfl) rfl ?_
   refine AnyH.done (by kernel_rfl) ?_
   refine Ends.seq ?_
   refine Wp.seq ?_
   refine Wp.region ?_
   refine Ops.pv (pv_loadK [_, _] rfl rfl rfl ⟨rfl, rfl, trivial⟩) rfl ?_
   refine Ops.pv (pv_loadK [_, _] rfl rfl rfl ⟨rfl, rfl, trivial⟩) rfl ?_
   refine Ops.pv ((pv_eql_slot (a := (capM S0 root q).1) (b := (capM S0 root q).1) rfl rfl).tru rfl) rfl ?_
   refine Ops.pv (pv_move rfl) rfl ?_
   refine Ops.pvg ⟨_, _, rfl, rfl, rfl⟩ (pv_loadK [_, _, _, _, _, _] rfl rfl rfl ⟨rfl, rfl, rfl, rfl, rfl, rfl, trivial⟩) rfl ?_
   refine Ops.pvg ⟨_, _, rfl, rfl, rfl⟩ (pv_loadK [_, _, _, _, _, _] rfl rfl rfl ⟨rfl, rfl, rfl, rfl, rfl, rfl, trivial⟩) rfl ?_
   refine Ops.pvg ⟨_, _, rfl, rfl, rfl⟩ ((pv_eql_cap (a := (capM S0 root q).2.1) (b := (capM S0 root q).2.1) rfl rfl).tru rfl) rfl ?_
   refine Ops.pv (pv_pick_true rfl rfl) rfl ?_
   refine Ops.pv (pv_move rfl) rfl ?_
   refine Ops.pvg ⟨_, _, rfl, rfl, rfl⟩ (pv_move rfl) rfl ?_
   refine Ops.pvg ⟨_, _, rfl, rfl, rfl⟩ (pv_move rfl) rfl ?_
   refine Ops.pvg ⟨_, _, rfl, rfl, rfl⟩ ((pv_eql rfl rfl).tru rfl) rfl ?_
   refine Ops.pv (pv_pick_true rfl rfl) rfl ?_
   refine Ops.pv (pv_move rfl) rfl ?_
   refine Ops.pvg ⟨_, _, rfl, rfl, rfl⟩ (pv_loadK [_, _] rfl rfl rfl ⟨rfl, rfl, trivial⟩) rfl ?_
   refine Ops.pvg ⟨_, _, rfl, rfl, rfl⟩ (pv_loadK [_, _] rfl rfl rfl ⟨rfl, rfl, trivial⟩) rfl ?_
   refine Ops.pvg ⟨_, _, rfl, rfl, rfl⟩ ((pv_eql_slot (a := (findM S0 root q depth).1) (b := (findM S0 root q depth).1) rfl rfl).tru rfl) rfl ?_
   refine Ops.pv (pv_pick_true rfl rfl) rfl ?_
   refine Ops.pv (pv_move rfl) rfl ?_
   refine Ops.pvg ⟨_, _, rfl, rfl, rfl⟩ (pv_move rfl) rfl ?_
   refine Ops.pvg ⟨_, _, rfl, rfl, rfl⟩ (pv_move rfl) rfl ?_
   refine Ops.pvg ⟨_, _, rfl, rfl, rfl⟩ ((pv_eql rfl rfl).tru rfl) rfl ?_
   refine Ops.pv (pv_pick_true rfl rfl) rfl ?_
   refine Ops.pv (pv_assign rfl) rfl ?_
   refine Ops.nil ?_
   refine Ends.seq ?_
   refine Wp.ret ?_
   exact Ends.ret (res1 rfl rfl) ⟨rfl, rfl⟩
  refine Turn.ef rfl rfl (ef_allocK tyZ25 rfl) ?_ ?_
  ·
   rintro _ _ ⟨b10, rfl, rfl⟩; infer_instance
  rintro _ _ ⟨b10, rfl, rfl⟩
  refine AnyH.one 10 (by kernel_rfl) ?_
  refine Turn.ef rfl rfl (ef_allocK tyZ31 rfl) ?_ ?_
  ·
   rintro _ _ ⟨b11, rfl, rfl⟩; infer_instance
  rintro _ _ ⟨b11, rfl, rfl⟩
  refine AnyH.one 12 (by kernel_rfl) ?_
  refine Turn.ef rfl rfl (ef_storeK rfl rfl rfl rfl) ?_ ?_
  ·
   rintro _ _ ⟨rfl, rfl⟩; infer_instance
  rintro _ _ ⟨rfl, rfl⟩
  refine AnyH.one 13 (by kernel_rfl) ?_
  refine Turn.ef rfl rfl (ef_storeK rfl rfl rfl rfl) ?_ ?_
  ·
   rintro _ _ ⟨rfl, rfl⟩; infer_instance
  rintro _ _ ⟨rfl, rfl⟩
  refine Tk 14 rfl rfl (pv_assign rfl) rfl ?_
  refine AnyH.done (by kernel_rfl) ?_
  refine Ends.seq ?_
  refine Wp.seq ?_
  refine Wp.region ?_
  refine Ops.pv (pv_move rfl) rfl ?_
  refine Ops.pv (pv_loadK [_, _, _, _, _, _] rfl rfl rfl ⟨rfl, rfl, rfl, rfl, rfl, rfl, trivial⟩) rfl ?_
  refine Ops.pv (pv_move rfl) rfl ?_
  refine Ops.pv (pv_move rfl) rfl ?_
  refine Ops.ef rfl (ef_callr (tr_mSlotA i cb1 Lc p hC S0 hR0 root q hq64 depth) rfl rfl) ?_
  rintro _ _ ⟨rfl, rfl⟩
  refine Ops.pv (pv_move rfl) rfl ?_
  refine Ops.pv (pv_extract rfl rfl) rfl ?_
  refine Ops.pv (pv_extract rfl rfl) rfl ?_
  refine Ops.ef rfl (ef_allocK tyZ31 rfl) ?_
  rintro _ _ ⟨b12, rfl, rfl⟩
  refine Ops.ef rfl (ef_storeK rfl rfl rfl rfl) ?_
  rintro _ _ ⟨rfl, rfl⟩
  refine Ops.pv (pv_assign rfl) rfl ?_
  refine Ops.nil ?_
  refine Ends.seq ?_
  refine Wp.seq ?_
  refine AnyH.start ((b1, .cells root.cells.toArray 25) :: []) 13 rfl ?_
  refine Tk 0 rfl rfl (pv_move rfl) rfl ?_
  refine Tk 1 rfl rfl (pv_nilCheck rfl) rfl ?_
  refine Tk 2 rfl rfl (pv_fieldAddr0 rfl rfl) rfl ?_
  refine Tk 3 rfl rfl (pv_loadK [_, _, _, _, _, _] rfl rfl rfl ⟨rfl, rfl, rfl, rfl, rfl, rfl, trivial⟩) rfl ?_
  refine Tk 4 rfl rfl (pv_move rfl) rfl ?_
  refine Tk 5 rfl rfl (pv_move rfl) rfl ?_
  refine AnyH.two 6 10 (by kernel_rfl) ?_ ?_
  ·
   refine Turn.ef rfl rfl (ef_callr (tr_dfindA w0 qb1 _ S0 l0 hQ0 ⟨v0, H0, hs0, rfl⟩ root q depth) rfl rfl) ?_ ?_
   ·
    rintro _ _ ⟨rfl, rfl⟩; infer_instance
   rintro _ _ ⟨rfl, rfl⟩
   refine Tk 7 rfl rfl (pv_move rfl) rfl ?_
   refine Tk 8 rfl rfl (pv_extract rfl rfl) rfl ?_
   refine Tk 9 rfl rfl (pv_extract rfl rfl) rfl ?_
   refine AnyH.one 10 (by kernel_rfl) ?_
   refine Turn.ef rfl rfl (ef_allocK tyZ31 rfl) ?_ ?_
   ·
    rintro _ _ ⟨b13, rfl, rfl⟩; infer_instance
   rintro _ _ ⟨b13, rfl, rfl⟩
   refine AnyH.one 11 (by kernel_rfl) ?_
   refine Turn.ef rfl rfl (ef_storeK rfl rfl rfl rfl) ?_ ?_
   ·
    rintro _ _ ⟨rfl, rfl⟩; infer_instance
   rintro _ _ ⟨rfl, rfl⟩
   refine Tk 12 rfl rfl (pv_assign rfl) rfl ?_
   refine AnyH.done (by kernel_rfl) ?_
   refine Ends.seq ?_
   refine Wp.seq ?_
   refine Wp.region ?_
   refine Ops.pv (pv_loadK [_, _] rfl rfl rfl ⟨rfl, rfl, trivial⟩) rfl ?_
   refine Ops.pv (pv_loadK [_, _] rfl rfl rfl ⟨rfl, rfl, trivial⟩) rfl ?_
   refine Ops.pv ((pv_eql_slot (a := (capM S0 root q).1) (b := (capM S0 root q).1) rfl rfl).tru rfl) rfl ?_
   refine Ops.pv (pv_move rfl) rfl ?_
   refine Ops.pvg ⟨_, _, rfl, rfl, rfl⟩ (pv_loadK [_, _, _, _, _, _] rfl rfl rfl ⟨rfl, rfl, rfl, rfl, rfl, rfl, trivial⟩) rfl ?_
   refine Ops.pvg ⟨_, _, rfl, rfl, rfl⟩ (pv_loadK [_, _, _, _, _, _] rfl rfl rfl ⟨rfl, rfl, rfl, rfl, rfl, rfl, trivial⟩) rfl ?_
   refine Ops.pvg ⟨_, _, rfl, rfl, rfl⟩ ((pv_eql_cap (a := (capM S0 root q).2.1) (b := (capM S0 root q).2.1) rfl rfl).tru rfl) rfl ?_
   refine Ops.pv (pv_pick_true rfl rfl) rfl ?_
   refine Ops.pv (pv_move rfl) rfl ?_
   refine Ops.pvg ⟨_, _, rfl, rfl, rfl⟩ (pv_move rfl) rfl ?_
   refine Ops.pvg ⟨_, _, rfl, rfl, rfl⟩ (pv_move rfl) rfl ?_
   refine Ops.pvg ⟨_, _, rfl, rfl, rfl⟩ ((pv_eql rfl rfl).tru rfl) rfl ?_
   refine Ops.pv (pv_pick_true rfl rfl) rfl ?_
   refine Ops.pv (pv_move rfl) rfl ?_
   refine Ops.pvg ⟨_, _, rfl, rfl, rfl⟩ (pv_loadK [_, _] rfl rfl rfl ⟨rfl, rfl, trivial⟩) rfl ?_
   refine Ops.pvg ⟨_, _, rfl, rfl, rfl⟩ (pv_loadK [_, _] rfl rfl rfl ⟨rfl, rfl, trivial⟩) rfl ?_
   refine Ops.pvg ⟨_, _, rfl, rfl, rfl⟩ ((pv_eql_slot (a := (findM S0 root q depth).1) (b := (findM S0 root q depth).1) rfl rfl).tru rfl) rfl ?_
   refine Ops.pv (pv_pick_true rfl rfl) rfl ?_
   refine Ops.pv (pv_move rfl) rfl ?_
   refine Ops.pvg ⟨_, _, rfl, rfl, rfl⟩ (pv_move rfl) rfl ?_
   refine Ops.pvg ⟨_, _, rfl, rfl, rfl⟩ (pv_move rfl) rfl ?_
   refine Ops.pvg ⟨_, _, rfl, rfl, rfl⟩ ((pv_eql rfl rfl).tru rfl) rfl ?_
   refine Ops.pv (pv_pick_true rfl rfl) rfl ?_
   refine Ops.pv (pv_assign rfl) rfl ?_
   refine Ops.nil ?_
   refine Ends.seq ?_
   refine Wp.ret ?_
   exact Ends.ret (res1 rfl rfl) ⟨rfl, rfl⟩
  refine Turn.ef rfl rfl (ef_allocK tyZ31 rfl) ?_ ?_
  ·
   rintro _ _ ⟨b14, rfl, rfl⟩; infer_instance
  rintro _ _ ⟨b14, rfl, rfl⟩
  refine AnyH.one 6 (by kernel_rfl) ?_
  refine Turn.ef rfl rfl (ef_callr (tr_dfindA w0 qb1 _ S0 l0 hQ0 ⟨v0, H0, hs0, rfl⟩ root q depth) rfl rfl) ?_ ?_
  ·
   rintro _ _ ⟨rfl, rfl⟩; infer_instance
  rintro _ _ ⟨rfl, rfl⟩
  refine Tk 7 rfl rfl (pv_move rfl) rfl ?_
  refine Tk 8 rfl rfl (pv_extract rfl rfl) rfl ?_
  refine Tk 9 rfl rfl (pv_extract rfl rfl) rfl ?_
  refine AnyH.one 11 (by kernel_rfl) ?_
  refine Turn.ef rfl rfl (ef_storeK rfl rfl rfl rfl) ?_ ?_
  ·
   rintro _ _ ⟨rfl, rfl⟩; infer_instance
  rintro _ _ ⟨rfl, rfl⟩
  refine Tk 12 rfl rfl (pv_assign rfl) rfl ?_
  refine AnyH.done (by kernel_rfl) ?_
  refine Ends.seq ?_
  refine Wp.seq ?_
  refine Wp.region ?_
  refine Ops.pv (pv_loadK [_, _] rfl rfl rfl ⟨rfl, rfl, trivial⟩) rfl ?_
  refine Ops.pv (pv_loadK [_, _] rfl rfl rfl ⟨rfl, rfl, trivial⟩) rfl ?_
  refine Ops.pv ((pv_eql_slot (a := (capM S0 root q).1) (b := (capM S0 root q).1) rfl rfl).tru rfl) rfl ?_
  refine Ops.pv (pv_move rfl) rfl ?_
  refine Ops.pvg ⟨_, _, rfl, rfl, rfl⟩ (pv_loadK [_, _, _, _, _, _] rfl rfl rfl ⟨rfl, rfl, rfl, rfl, rfl, rfl, trivial⟩) rfl ?_
  refine Ops.pvg ⟨_, _, rfl, rfl, rfl⟩ (pv_loadK [_, _, _, _, _, _] rfl rfl rfl ⟨rfl, rfl, rfl, rfl, rfl, rfl, trivial⟩) rfl ?_
  refine Ops.pvg ⟨_, _, rfl, rfl, rfl⟩ ((pv_eql_cap (a := (capM S0 root q).2.1) (b := (capM S0 root q).2.1) rfl rfl).tru rfl) rfl ?_
  refine Ops.pv (pv_pick_true rfl rfl) rfl ?_
  refine Ops.pv (pv_move rfl) rfl ?_
  refine Ops.pvg ⟨_, _, rfl, rfl, rfl⟩ (pv_move rfl) rfl ?_
  refine Ops.pvg ⟨_, _, rfl, rfl, rfl⟩ (pv_move rfl) rfl ?_
  refine Ops.pvg ⟨_, _, rfl, rfl, rfl⟩ ((pv_eql rfl rfl).tru rfl) rfl ?_
  refine Ops.pv (pv_pick_true rfl rfl) rfl ?_
  refine Ops.pv (pv_move rfl) rfl ?_
  refine Ops.pvg ⟨_, _, rfl, rfl, rfl⟩ (pv_loadK [_, _] rfl rfl rfl ⟨rfl, rfl, trivial⟩) rfl ?_
  refine Ops.pvg ⟨_, _, rfl, rfl, rfl⟩ (pv_loadK [_, _] rfl rfl rfl ⟨rfl, rfl, trivial⟩) rfl ?_
  refine Ops.pvg ⟨_, _, rfl, rfl, rfl⟩ ((pv_eql_slot (a := (findM S0 root q depth).1) (b := (findM S0 root q depth).1) rfl rfl).tru rfl) rfl ?_
  refine Ops.pv (pv_pick_true rfl rfl) rfl ?_
  refine Ops.pv (pv_move rfl) rfl ?_
  refine Ops.pvg ⟨_, _, rfl, rfl, rfl⟩ (pv_move rfl) rfl ?_
  refine Ops.pvg ⟨_, _, rfl, rfl, rfl⟩ (pv_move rfl) rfl ?_
  refine Ops.pvg ⟨_, _, rfl, rfl, rfl⟩ ((pv_eql rfl rfl).tru rfl) rfl ?_
  refine Ops.pv (pv_pick_true rfl rfl) rfl ?_
  refine Ops.pv (pv_assign rfl) rfl ?_
  refine Ops.nil ?_
  refine Ends.seq ?_
  refine Wp.ret ?_
  exact Ends.ret (res1 rfl rfl) ⟨rfl, rfl⟩
 ·
  refine Turn.ef rfl rfl (ef_allocK tyZ31 rfl) ?_ ?_
  ·
   rintro _ _ ⟨b15, rfl, rfl⟩; infer_instance
  rintro _ _ ⟨b15, rfl, rfl⟩
  refine AnyH.two 5 11 (by kernel_rfl) ?_ ?_
  ·
   refine Turn.ef rfl rfl (ef_callr (tr_dcap w0 qb1 _ S0 l0 hQ0 ⟨v0, H0, hs0, rfl⟩ root q) rfl rfl) ?_ ?_
   ·
    rintro _ _ ⟨rfl, rfl⟩; infer_instance
   rintro _ _ ⟨rfl, rfl⟩
   refine Tk 6 rfl rfl (pv_move rfl) rfl ?_
   refine Tk 7 rfl rfl (pv_extract rfl rfl) rfl ?_
   refine Tk 8 rfl rfl (pv_extract rfl rfl) rfl ?_
   refine Tk 9 rfl rfl (pv_extract rfl rfl) rfl ?_
   refine AnyH.one 11 (by kernel_rfl) ?_
   refine Turn.ef rfl rfl (ef_allocK tyZ25 rfl) ?_ ?_
   ·
    rintro _ _ ⟨b16, rfl, rfl⟩; infer_instance
   rintro _ _ ⟨b16, rfl, rfl⟩
   refine AnyH.one 12 (by kernel_rfl) ?_
   refine Turn.ef rfl rfl (ef_storeK rfl rfl rfl rfl) ?_ ?_
   ·
    rintro _ _ ⟨rfl, rfl⟩; infer_instance
   rintro _ _ ⟨rfl, rfl⟩
   refine AnyH.one 13 (by kernel_rfl) ?_
   refine Turn.ef rfl rfl (ef_storeK rfl rfl rfl rfl) ?_ ?_
   ·
    rintro _ _ ⟨rfl, rfl⟩; infer_instance
   rintro _ _ ⟨rfl, rfl⟩
   refine Tk 14 rfl rfl (pv_assign rfl) rfl ?_
   refine AnyH.done (by kernel_rfl) ?_
   refine Ends.seq ?_
   refine Wp.seq ?_
   refine Wp.region ?_
   refine Ops.pv (pv_move rfl) rfl ?_
   refine Ops.pv (pv_loadK [_, _, _, _, _, _] rfl rfl rfl ⟨rfl, rfl, rfl, rfl, rfl, rfl, trivial⟩) rfl ?_
   refine Ops.pv (pv_move rfl) rfl ?_
   refine Ops.pv (pv_move rfl) rfl ?_
   refine Ops.ef rfl (ef_callr (tr_mSlotA i cb1 Lc p hC S0 hR0 root q hq64 depth) rfl rfl) ?_
   rintro _ _ ⟨rfl, rfl⟩
   refine Ops.pv (pv_move rfl) rfl ?_
   refine Ops.pv (pv_extract rfl rfl) rfl ?_
   refine Ops.pv (pv_extract rfl rfl) rfl ?_
   refine Ops.ef rfl (ef_allocK tyZ31 rfl) ?_
   rintro _ _ ⟨b17, rfl, rfl⟩
   refine Ops.ef rfl (ef_storeK rfl rfl rfl rfl) ?_
   rintro _ _ ⟨rfl, rfl⟩
   refine Ops.pv (pv_assign rfl) rfl ?_
   refine Ops.nil ?_
   refine Ends.seq ?_
   refine Wp.seq ?_
   refine AnyH.start ((b1, .cells root.cells.toArray 25) :: []) 13 rfl ?_
   refine Tk 0 rfl rfl (pv_move rfl) rfl ?_
   refine Tk 1 rfl rfl (pv_nilCheck rfl) rfl ?_
   refine Tk 2 rfl rfl (pv_fieldAddr0 rfl rfl) rfl ?_
   refine Tk 3 rfl rfl (pv_loadK [_, _, _, _, _, _] rfl rfl rfl ⟨rfl, rfl, rfl, rfl, rfl, rfl, trivial⟩) rfl ?_
   refine Tk 4 rfl rfl (pv_move rfl) rfl ?_
   refine Tk 5 rfl rfl (pv_move rfl) rfl ?_
   refine AnyH.two 6 10 (by kernel_rfl) ?_ ?_
   ·
    refine Turn.ef rfl rfl (ef_callr (tr_dfindA w0 qb1 _ S0 l0 hQ0 ⟨v0, H0, hs0, rfl⟩ root q depth) rfl rfl) ?_ ?_
    ·
     rintro _ _ ⟨rfl, rfl⟩; infer_instance
    rintro _ _ ⟨rfl, rfl⟩
    refine Tk 7 rfl rfl (pv_move rfl) rfl ?_
    refine Tk 8 rfl rfl (pv_extract rfl rfl) rfl ?_
    refine Tk 9 rfl rfl (pv_extract rfl rfl) rfl ?_
    refine AnyH.one 10 (by kernel_rfl) ?_
    refine Turn.ef rfl rfl (ef_allocK tyZ31 rfl) ?_ ?_
    ·
     rintro _ _ ⟨b18, rfl, rfl⟩; infer_instance
    rintro _ _ ⟨b18, rfl, rfl⟩
    refine AnyH.one 11 (by kernel_rfl) ?_
    refine Turn.ef rfl rfl (ef_storeK rfl rfl rfl rfl) ?_ ?_
    ·
     rintro _ _ ⟨rfl, rfl⟩; infer_instance
    rintro _ _ ⟨rfl, rfl⟩
    refine Tk 12 rfl rfl (pv_assign rfl) rfl ?_
    refine AnyH.done (by kernel_rfl) ?_
    refine Ends.seq ?_
    refine Wp.seq ?_
    refine Wp.region ?_
    refine Ops.pv (pv_loadK [_, _] rfl rfl rfl ⟨rfl, rfl, trivial⟩) rfl ?_
    refine Ops.pv (pv_loadK [_, _] rfl rfl rfl ⟨rfl, rfl, trivial⟩) rfl ?_
    refine Ops.pv ((pv_eql_slot (a := (capM S0 root q).1) (b := (capM S0 root q).1) rfl rfl).tru rfl) rfl ?_
    refine Ops.pv (pv_move rfl) rfl ?_
    refine Ops.pvg ⟨_, _, rfl, rfl, rfl⟩ (pv_loadK [_, _, _, _, _, _] rfl rfl rfl ⟨rfl, rfl, rfl, rfl, rfl, rfl, trivial⟩) rfl ?_
    refine Ops.pvg ⟨_, _, rfl, rfl, rfl⟩ (pv_loadK [_, _, _, _, _, _] rfl rfl rfl ⟨rfl, rfl, rfl, rfl, rfl, rfl, trivial⟩) rfl ?_
    refine Ops.pvg ⟨_, _, rfl, rfl, rfl⟩ ((pv_eql_cap (a := (capM S0 root q).2.1) (b := (capM S0 root q).2.1) rfl rfl).tru rfl) rfl ?_
    refine Ops.pv (pv_pick_true rfl rfl) rfl ?_
    refine Ops.pv (pv_move rfl) rfl ?_
    refine Ops.pvg ⟨_, _, rfl, rfl, rfl⟩ (pv_move rfl) rfl ?_
    refine Ops.pvg ⟨_, _, rfl, rfl, rfl⟩ (pv_move rfl) rfl ?_
    refine Ops.pvg ⟨_, _, rfl, rfl, rfl⟩ ((pv_eql rfl rfl).tru rfl) rfl ?_
    refine Ops.pv (pv_pick_true rfl rfl) rfl ?_
    refine Ops.pv (pv_move rfl) rfl ?_
    refine Ops.pvg ⟨_, _, rfl, rfl, rfl⟩ (pv_loadK [_, _] rfl rfl rfl ⟨rfl, rfl, trivial⟩) rfl ?_
    refine Ops.pvg ⟨_, _, rfl, rfl, rfl⟩ (pv_loadK [_, _] rfl rfl rfl ⟨rfl, rfl, trivial⟩) rfl ?_
    refine Ops.pvg ⟨_, _, rfl, rfl, rfl⟩ ((pv_eql_slot (a := (findM S0 root q depth).1) (b := (findM S0 root q depth).1) rfl rfl).tru rfl) rfl ?_
    refine Ops.pv (pv_pick_true rfl rfl) rfl ?_
    refine Ops.pv (pv_move rfl) rfl ?_
    refine Ops.pvg ⟨_, _, rfl, rfl, rfl⟩ (pv_move rfl) rfl ?_
    refine Ops.pvg ⟨_, _, rfl, rfl, rfl⟩ (pv_move rfl) rfl ?_
    refine Ops.pvg ⟨_, _, rfl, rfl, rfl⟩ ((pv_eql rfl rfl).tru rfl) rfl ?_
    refine Ops.pv (pv_pick_true rfl rfl) rfl ?_
    refine Ops.pv (pv_assign rfl) rfl ?_
    refine Ops.nil ?_
    refine Ends.seq ?_
    refine Wp.ret ?_
    exact Ends.ret (res1 rfl rfl) ⟨rfl, rfl⟩
   refine Turn.ef rfl rfl (ef_allocK tyZ31 rfl) ?_ ?_
   ·
    rintro _ _ ⟨b19, rfl, rfl⟩; infer_instance
   rintro _ _ ⟨b19, rfl, rfl⟩
   refine AnyH.one 6 (by kernel_rfl) ?_
   refine Turn.ef rfl rfl (ef_callr (tr_dfindA w0 qb1 _ S0 l0 hQ0 ⟨v0, H0, hs0, rfl⟩ root q depth) rfl rfl) ?_ ?_
   ·
    rintro _ _ ⟨rfl, rfl⟩; infer_instance
   rintro _ _ ⟨rfl, rfl⟩
   refine Tk 7 rfl rfl (pv_move rfl) rfl ?_
   refine Tk 8 rfl rfl (pv_extract rfl rfl) rfl ?_
   refine Tk 9 rfl rfl (pv_extract rfl rfl) rfl ?_
   refine AnyH.one 11 (by kernel_rfl) ?_
   refine Turn.ef rfl rfl (ef_storeK rfl rfl rfl rfl) ?_ ?_
   ·
    rintro _ _ ⟨rfl, rfl⟩; infer_instance
   rintro _ _ ⟨rfl, rfl⟩
   refine Tk 12 rfl rfl (pv_assign rfl) rfl ?_
   refine AnyH.done (by kernel_rfl) ?_
   refine Ends.seq ?_
   refine Wp.seq ?_
   refine Wp.region ?_
   refine Ops.pv (pv_loadK [_, _] rfl rfl rfl ⟨rfl, rfl, trivial⟩) rfl ?_
   refine Ops.pv (pv_loadK [_, _] rfl rfl rfl ⟨rfl, rfl, trivial⟩) rfl ?_
   refine Ops.pv ((pv_eql_slot (a := (capM S0 root q).1) (b := (capM S0 root q).1) rfl rfl).tru rfl) rfl ?_
   refine Ops.pv (pv_move rfl) rfl ?_
   refine Ops.pvg ⟨_, _, rfl, rfl, rfl⟩ (pv_loadK [_, _, _, _, _, _] rfl rfl rfl ⟨rfl, rfl, rfl, rfl, rfl, rfl, trivial⟩) rfl ?_
   refine Ops.pvg ⟨_, _, rfl, rfl, rfl⟩ (pv_loadK [_, _, _, _, _, _] rfl rfl rfl ⟨rfl, rfl, rfl, rfl, rfl, rfl, trivial⟩) rfl ?_
   refine Ops.pvg ⟨_, _, rfl, rfl, rfl⟩ ((pv_eql_cap (a := (capM S0 root q).2.1) (b := (capM S0 root q).2.1) rfl rfl).tru rfl) rfl ?_
   refine Ops.pv (pv_pick_true rfl rfl) rfl ?_
   refine Ops.pv (pv_move rfl) rfl ?_
   refine Ops.pvg ⟨_, _, rfl, rfl, rfl⟩ (pv_move rfl) rfl ?_
   refine Ops.pvg ⟨_, _, rfl, rfl, rfl⟩ (pv_move rfl) rfl ?_
   refine Ops.pvg ⟨_, _, rfl, rfl, rfl⟩ ((pv_eql rfl rfl).tru rfl) rfl ?_
   refine Ops.pv (pv_pick_true rfl rfl) rfl ?_
   refine Ops.pv (pv_move rfl) rfl ?_
   refine Ops.pvg ⟨_, _, rfl, rfl, rfl⟩ (pv_loadK [_, _] rfl rfl rfl ⟨rfl, rfl, trivial⟩) rfl ?_
   refine Ops.pvg ⟨_, _, rfl, rfl, rfl⟩ (pv_loadK [_, _] rfl rfl rfl ⟨rfl, rfl, trivial⟩) rfl ?_
   refine Ops.pvg ⟨_, _, rfl, rfl, rfl⟩ ((pv_eql_slot (a := (findM S0 root q depth).1) (b := (findM S0 root q depth).1) rfl rfl).tru rfl) rfl ?_
   refine Ops.pv (pv_pick_true rfl rfl) rfl ?_
   refine Ops.pv (pv_move rfl) rfl ?_
   refine Ops.pvg ⟨_, _, rfl, rfl, rfl⟩ (pv_move rfl) rfl ?_
   refine Ops.pvg ⟨_, _, rfl, rfl, rfl⟩ (pv_move rfl) rfl ?_
   refine Ops.pvg ⟨_, _, rfl, rfl, rfl⟩ ((pv_eql rfl rfl).tru rfl) rfl ?_
   refine Ops.pv (pv_pick_true rfl rfl) rfl ?_
   refine Ops.pv (pv_assign rfl) rfl ?_
   refine Ops.nil ?_
   refine Ends.seq ?_
   refine Wp.ret ?_
   exact Ends.ret (res1 rfl rfl) ⟨rfl, rfl⟩
  refine Turn.ef rfl rfl (ef_allocK tyZ25 rfl) ?_ ?_
  ·
   rintro _ _ ⟨b20, rfl, rfl⟩; infer_instance
  rintro _ _ ⟨b20, rfl, rfl⟩
  refine AnyH.one 5 (by kernel_rfl) ?_
  refine Turn.ef rfl rfl (ef_callr (tr_dcap w0 qb1 _ S0 l0 hQ0 ⟨v0, H0, hs0, rfl⟩ root q) rfl rfl) ?_ ?_
  ·
   rintro _ _ ⟨rfl, rfl⟩; infer_instance
  rintro _ _ ⟨rfl, rfl⟩
  refine Tk 6 rfl rfl (pv_move rfl) rfl ?_
  refine Tk 7 rfl rfl (pv_extract rfl rfl) rfl ?_
  refine Tk 8 rfl rfl (pv_extract rfl rfl) rfl ?_
  refine Tk 9 rfl rfl (pv_extract rfl rfl) rfl ?_
  refine AnyH.one 12 (by kernel_rfl) ?_
  refine Turn.ef rfl rfl (ef_storeK rfl rfl rfl rfl) ?_ ?_
  ·
   rintro _ _ ⟨rfl, rfl⟩; infer_instance
  rintro _ _ ⟨rfl, rfl⟩
  refine AnyH.one 13 (by kernel_rfl) ?_
  refine Turn.ef rfl rfl (ef_storeK rfl rfl rfl rfl) ?_ ?_
  ·
   rintro _ _ ⟨rfl, rfl⟩; infer_instance
  rintro _ _ ⟨rfl, rfl⟩
  refine Tk 14 rfl rfl (pv_assign rfl) rfl ?_
  refine AnyH.done (by kernel_rfl) ?_
  refine Ends.seq ?_
  refine Wp.seq ?_
  refine Wp.region ?_
  refine Ops.pv (pv_move rfl) rfl ?_
  refine Ops.pv (pv_loadK [_, _, _, _, _, _] rfl rfl rfl ⟨rfl, rfl, rfl, rfl, rfl, rfl, trivial⟩) rfl ?_
  refine Ops.pv (pv_move rfl) rfl ?_
  refine Ops.pv (pv_move rfl) rfl ?_
  refine Ops.ef rfl (ef_callr (tr_mSlotA i cb1 Lc p hC S0 hR0 root q hq64 depth) rfl rfl) ?_
  rintro _ _ ⟨rfl, rfl⟩
  refine Ops.pv (pv_move rfl) rfl ?_
  refine Ops.pv (pv_extract rfl rfl) rfl ?_
  refine Ops.pv (pv_extract rfl rfl) rfl ?_
  refine Ops.ef rfl (ef_allocK tyZ31 rfl) ?_
  rintro _ _ ⟨b21, rfl, rfl⟩
  refine Ops.ef rfl (ef_storeK rfl rfl rfl rfl) ?_
  rintro _ _ ⟨rfl, rfl⟩
  refine Ops.pv (pv_assign rfl) rfl ?_
  refine Ops.nil ?_
  refine Ends.seq ?_
  refine Wp.seq ?_
  refine AnyH.start ((b1, .cells root.cells.toArray 25) :: []) 13 rfl ?_
  refine Tk 0 rfl rfl (pv_move rfl) rfl ?_
  refine Tk 1 rfl rfl (pv_nilCheck rfl) rfl ?_
  refine Tk 2 rfl rfl (pv_fieldAddr0 rfl rfl) rfl ?_
  refine Tk 3 rfl rfl (pv_loadK [_, _, _, _, _, _] rfl rfl rfl ⟨rfl, rfl, rfl, rfl, rfl, rfl, trivial⟩) rfl ?_
  refine Tk 4 rfl rfl (pv_move rfl) rfl ?_
  refine Tk 5 rfl rfl (pv_move rfl) rfl ?_
  refine AnyH.two 6 10 (by kernel_rfl) ?_ ?_
  ·
   refine Turn.ef rfl rfl (ef_callr (tr_dfindA w0 qb1 _ S0 l0 hQ0 ⟨v0, H0, hs0, rfl⟩ root q depth) rfl rfl) ?_ ?_
   ·
    rintro _ _ ⟨rfl, rfl⟩; infer_instance
   rintro _ _ ⟨rfl, rfl⟩
   refine Tk 7 rfl rfl (pv_move rfl) rfl ?_
   refine Tk 8 rfl rfl (pv_extract rfl rfl) rfl ?_
   refine Tk 9 rfl rfl (pv_extract rfl rfl) rfl ?_
   refine AnyH.one 10 (by kernel_rfl) ?_
   refine Turn.ef rfl rfl (ef_allocK tyZ31 rfl) ?_ ?_
   ·
    rintro _ _ ⟨b22, rfl, rfl⟩; infer_instance
   rintro _ _ ⟨b22, rfl, rfl⟩
   refine AnyH.one 11 (by kernel_rfl) ?_
   refine Turn.ef rfl rfl (ef_storeK rfl rfl rfl rfl) ?_ ?_
   ·
    rintro _ _ ⟨rfl, rfl⟩; infer_instance
   rintro _ _ ⟨rfl, rfl⟩
   refine Tk 12 rfl rfl (pv_assign rfl) rfl ?_
   refine AnyH.done (by kernel_rfl) ?_
   refine Ends.seq ?_
   refine Wp.seq ?_
   refine Wp.region ?_
   refine Ops.pv (pv_loadK [_, _] rfl rfl rfl ⟨rfl, rfl, trivial⟩) rfl ?_
   refine Ops.pv (pv_loadK [_, _] rfl rfl rfl ⟨rfl, rfl, trivial⟩) rfl ?_
   refine Ops.pv ((pv_eql_slot (a := (capM S0 root q).1) (b := (capM S0 root q).1) rfl rfl).tru rfl) rfl ?_
   refine Ops.pv (pv_move rfl) rfl ?_
   refine Ops.pvg ⟨_, _, rfl, rfl, rfl⟩ (pv_loadK [_, _, _, _, _, _] rfl rfl rfl ⟨rfl, rfl, rfl, rfl, rfl, rfl, trivial⟩) rfl ?_
   refine Ops.pvg ⟨_, _, rfl, rfl, rfl⟩ (pv_loadK [_, _, _, _, _, _] rfl rfl rfl ⟨rfl, rfl, rfl, rfl, rfl, rfl, trivial⟩) rfl ?_
   refine Ops.pvg ⟨_, _, rfl, rfl, rfl⟩ ((pv_eql_cap (a := (capM S0 root q).2.1) (b := (capM S0 root q).2.1) rfl rfl).tru rfl) rfl ?_
   refine Ops.pv (pv_pick_true rfl rfl) rfl ?_
   refine Ops.pv (pv_move rfl) rfl ?_
   refine Ops.pvg ⟨_, _, rfl, rfl, rfl⟩ (pv_move rfl) rfl ?_
   refine Ops.pvg ⟨_, _, rfl, rfl, rfl⟩ (pv_move rfl) rfl ?_
   refine Ops.pvg ⟨_, _, rfl, rfl, rfl⟩ ((pv_eql rfl rfl).tru rfl) rfl ?_
   refine Ops.pv (pv_pick_true rfl rfl) rfl ?_
   refine Ops.pv (pv_move rfl) rfl ?_
   refine Ops.pvg ⟨_, _, rfl, rfl, rfl⟩ (pv_loadK [_, _] rfl rfl rfl ⟨rfl, rfl, trivial⟩) rfl ?_
   refine Ops.pvg ⟨_, _, rfl, rfl, rfl⟩ (pv_loadK [_, _] rfl rfl rfl ⟨rfl, rfl, trivial⟩) rfl ?_
   refine Ops.pvg ⟨_, _, rfl, rfl, rfl⟩ ((pv_eql_slot (a := (findM S0 root q depth).1) (b := (findM S0 root q depth).1) rfl rfl).tru rfl) rfl ?_
   refine Ops.pv (pv_pick_true rfl rfl) rfl ?_
   refine Ops.pv (pv_move rfl) rfl ?_
   refine Ops.pvg ⟨_, _, rfl, rfl, rfl⟩ (pv_move rfl) rfl ?_
   refine Ops.pvg ⟨_, _, rfl, rfl, rfl⟩ (pv_move rfl) rfl ?_
   refine Ops.pvg ⟨_, _, rfl, rfl, rfl⟩ ((pv_eql rfl rfl).tru rfl) rfl ?_
   refine Ops.pv (pv_pick_true rfl rfl) rfl ?_
   refine Ops.pv (pv_assign rfl) rfl ?_
   refine Ops.nil ?_
   refine Ends.seq ?_
   refine Wp.ret ?_
   exact Ends.ret (res1 rfl rfl) ⟨rfl, rfl⟩
  refine Turn.ef rfl rfl (ef_allocK tyZ31 rfl) ?_ ?_
  ·
   rintro _ _ ⟨b23, rfl, rfl⟩; infer_instance
  rintro _ _ ⟨b23, rfl, rfl⟩
  refine AnyH.one 6 (by kernel_rfl) ?_
  refine Turn.ef rfl rfl (ef_callr (tr_dfindA w0 qb1 _ S0 l0 hQ0 ⟨v0, H0, hs0, rfl⟩ root q depth) rfl rfl) ?_ ?_
  ·
   rintro _ _ ⟨rfl, rfl⟩; infer_instance
  rintro _ _ ⟨rfl, rfl⟩
  refine Tk 7 rfl rfl (pv_move rfl) rfl ?_
  refine Tk 8 rfl rfl (pv_extract rfl rfl) rfl ?_
  refine Tk 9 rfl rfl (pv_extract rfl rfl) rfl ?_
  refine AnyH.one 11 (by kernel_rfl) ?_
  refine Turn.ef rfl rfl (ef_storeK rfl rfl rfl rfl) ?_ ?_
  ·
   rintro _ _ ⟨rfl, rfl⟩; infer_instance
  rintro _ _ ⟨rfl, rfl⟩
  refine Tk 12 rfl rfl (pv_assign rfl) rfl ?_
  refine AnyH.done (by kernel_rfl) ?_
  refine Ends.seq ?_
  refine Wp.seq ?_
  refine Wp.region ?_
  refine Ops.pv (pv_loadK [_, _] rfl rfl rfl ⟨rfl, rfl, trivial⟩) rfl ?_
  refine Ops.pv (pv_loadK [_, _] rfl rfl rfl ⟨rfl, rfl, trivial⟩) rfl ?_
  refine Ops.pv ((pv_eql_slot (a := (capM S0 root q).1) (b := (capM S0 root q).1) rfl rfl).tru rfl) rfl ?_
  refine Ops.pv (pv_move rfl) rfl ?_
  refine Ops.pvg ⟨_, _, rfl, rfl, rfl⟩ (pv_loadK [_, _, _, _, _, _] rfl rfl rfl ⟨rfl, rfl, rfl, rfl, rfl, rfl, trivial⟩) rfl ?_
  refine Ops.pvg ⟨_, _, rfl, rfl, rfl⟩ (pv_loadK [_, _, _, _, _, _] rfl rfl rfl ⟨rfl, rfl, rfl, rfl, rfl, rfl, trivial⟩) rfl ?_
  refine Ops.pvg ⟨_, _, rfl, rfl, rfl⟩ ((pv_eql_cap (a := (capM S0 root q).2.1) (b := (capM S0 root q).2.1) rfl rfl).tru rfl) rfl ?_
  refine Ops.pv (pv_pick_true rfl rfl) rfl ?_
  refine Ops.pv (pv_move rfl) rfl ?_
  refine Ops.pvg ⟨_, _, rfl, rfl, rfl⟩ (pv_move rfl) rfl ?_
  refine Ops.pvg ⟨_, _, rfl, rfl, rfl⟩ (pv_move rfl) rfl ?_
  refine Ops.pvg ⟨_, _, rfl, rfl, rfl⟩ ((pv_eql rfl rfl).tru rfl) rfl ?_
  refine Ops.pv (pv_pick_true rfl rfl) rfl ?_
  refine Ops.pv (pv_move rfl) rfl ?_
  refine Ops.pvg ⟨_, _, rfl, rfl, rfl⟩ (pv_loadK [_, _] rfl rfl rfl ⟨rfl, rfl, trivial⟩) rfl ?_
  refine Ops.pvg ⟨_, _, rfl, rfl, rfl⟩ (pv_loadK [_, _] rfl rfl rfl ⟨rfl, rfl, trivial⟩) rfl ?_
  refine Ops.pvg ⟨_, _, rfl, rfl, rfl⟩ ((pv_eql_slot (a := (findM S0 root q depth).1) (b := (findM S0 root q depth).1) rfl rfl).tru rfl) rfl ?_
  refine Ops.pv (pv_pick_true rfl rfl) rfl ?_
  refine Ops.pv (pv_move rfl) rfl ?_
  refine Ops.pvg ⟨_, _, rfl, rfl, rfl⟩ (pv_move rfl) rfl ?_
  refine Ops.pvg ⟨_, _, rfl, rfl, rfl⟩ (pv_move rfl) rfl ?_
  refine Ops.pvg ⟨_, _, rfl, rfl, rfl⟩ ((pv_eql rfl rfl).tru rfl) rfl ?_
  refine Ops.pv (pv_pick_true rfl rfl) rfl ?_
  refine Ops.pv (pv_assign rfl) rfl ?_
  refine Ops.nil ?_
  refine Ends.seq ?_
  refine Wp.ret ?_
  exact Ends.ret (res1 rfl rfl) ⟨rfl, rfl⟩
 refine Turn.ef rfl rfl (ef_allocK tyZ25 rfl) ?_ ?_
 ·
  rintro _ _ ⟨b24, rfl, rfl⟩; infer_instance
 rintro _ _ ⟨b24, rfl, rfl⟩
 refine AnyH.two 5 10 (by kernel_rfl) ?_ ?_
 ·
  refine Turn.ef rfl rfl (ef_callr (tr_dcap w0 qb1 _ S0 l0 hQ0 ⟨v0, H0, hs0, rfl⟩ root q) rfl rfl) ?_ ?_
  ·
   rintro _ _ ⟨rfl, rfl⟩; infer_instance
  rintro _ _ ⟨rfl, rfl⟩
  refine Tk 6 rfl rfl (pv_move rfl) rfl ?_
  refine Tk 7 rfl rfl (pv_extract rfl rfl) rfl ?_
  refine Tk 8 rfl rfl (pv_extract rfl rfl) rfl ?_
  refine Tk 9 rfl rfl (pv_extract rfl rfl) rfl ?_
  refine AnyH.one 10 (by kernel_rfl) ?_
  refine Turn.ef rfl rfl (ef_allocK tyZ31 rfl) ?_ ?_
  ·
   rintro _ _ ⟨b25, rfl, rfl⟩; infer_instance
  rintro _ _ ⟨b25, rfl, rfl⟩
  refine AnyH.one 12 (by kernel_rfl) ?_
  refine Turn.ef rfl rfl (ef_storeK rfl rfl rfl rfl) ?_ ?_
  ·
   rintro _ _ ⟨rfl, rfl⟩; infer_instance
  rintro _ _ ⟨rfl, rfl⟩
  refine AnyH.one 13 (by kernel_rfl) ?_
  refine Turn.ef rfl rfl (ef_storeK rfl rfl rfl rfl) ?_ ?_
  ·
   rintro _ _ ⟨rfl, rfl⟩; infer_instance
  rintro _ _ ⟨rfl, rfl⟩
  refine Tk 14 rfl rfl (pv_assign rfl) rfl ?_
  refine AnyH.done (by kernel_rfl) ?_
  refine Ends.seq ?_
  refine Wp.seq ?_
  refine Wp.region ?_
  refine Ops.pv (pv_move rfl) rfl ?_
  refine Ops.pv (pv_loadK [_, _, _, _, _, _] rfl rfl rfl ⟨rfl, rfl, rfl, rfl, rfl, rfl, trivial⟩) rfl ?_
  refine Ops.pv (pv_move rfl) rfl ?_
  refine Ops.pv (pv_move rfl) rfl ?_
  refine Ops.ef rfl (ef_callr (tr_mSlotA i cb1 Lc p hC S0 hR0 root q hq64 depth) rfl rfl) ?_
  rintro _ _ ⟨rfl, rfl⟩
  refine Ops.pv (pv_move rfl) rfl ?_
  refine Ops.pv (pv_extract rfl rfl) rfl ?_
  refine Ops.pv (pv_extract rfl rfl) rfl ?_
  refine Ops.ef rfl (ef_allocK tyZ31 rfl) ?_
  rintro _ _ ⟨b26, rfl, rfl⟩
  refine Ops.ef rfl (ef_storeK rfl rfl rfl rfl) ?_
  rintro _ _ ⟨rfl, rfl⟩
  refine Ops.pv (pv_assign rfl) rfl ?_
  refine Ops.nil ?_
  refine Ends.seq ?_
  refine Wp.seq ?_
  refine AnyH.start ((b1, .cells root.cells.toArray 25) :: []) 13 rfl ?_
  refine Tk 0 rfl rfl (pv_move rfl) rfl ?_
  refine Tk 1 rfl rfl (pv_nilCheck rfl) rfl ?_
  refine Tk 2 rfl rfl (pv_fieldAddr0 rfl rfl) rfl ?_
  refine Tk 3 rfl rfl (pv_loadK [_, _, _, _, _, _] rfl rfl rfl ⟨rfl, rfl, rfl, rfl, rfl, rfl, trivial⟩) rfl ?_
  refine Tk 4 rfl rfl (pv_move rfl) rfl ?_
  refine Tk 5 rfl rfl (pv_move rfl) rfl ?_
  refine AnyH.two 6 10 (by kernel_rfl) ?_ ?_
  ·
   refine Turn.ef rfl rfl (ef_callr (tr_dfindA w0 qb1 _ S0 l0 hQ0 ⟨v0, H0, hs0, rfl⟩ root q depth) rfl rfl) ?_ ?_
   ·
    rintro _ _ ⟨rfl, rfl⟩; infer_instance
   rintro _ _ ⟨rfl, rfl⟩
   refine Tk 7 rfl rfl (pv_move rfl) rfl ?_
   refine Tk 8 rfl rfl (pv_extract rfl rfl) rfl ?_
   refine Tk 9 rfl rfl (pv_extract rfl rfl) rfl ?_
   refine AnyH.one 10 (by kernel_rfl) ?_
   refine Turn.ef rfl rfl (ef_allocK tyZ31 rfl) ?_ ?_
   ·
    rintro _ _ ⟨b27, rfl, rfl⟩; infer_instance
   rintro _ _ ⟨b27, rfl, rfl⟩
   refine AnyH.one 11 (by kernel_rfl) ?_
   refine Turn.ef rfl rfl (ef_storeK rfl rfl rfl rfl) ?_ ?_
   ·
    rintro _ _ ⟨rfl, rfl⟩; infer_instance
   rintro _ _ ⟨rfl, rfl⟩
   refine Tk 12 rfl rfl (pv_assign rfl) rfl ?_
   refine AnyH.done (by kernel_rfl) ?_
   refine Ends.seq ?_
   refine Wp.seq ?_
   refine Wp.region ?_
   refine Ops.pv (pv_loadK [_, _] rfl rfl rfl ⟨rfl, rfl, trivial⟩) rfl ?_
   refine Ops.pv (pv_loadK [_, _] rfl rfl rfl ⟨rfl, rfl, trivial⟩) rfl ?_
   refine Ops.pv ((pv_eql_slot (a := (capM S0 root q).1) (b := (capM S0 root q).1) rfl rfl).tru rfl) rfl ?_
   refine Ops.pv (pv_move rfl) rfl ?_
   refine Ops.pvg ⟨_, _, rfl, rfl, rfl⟩ (pv_loadK [_, _, _, _, _, _] rfl rfl rfl ⟨rfl, rfl, rfl, rfl, rfl, rfl, trivial⟩) rfl ?_
   refine Ops.pvg ⟨_, _, rfl, rfl, rfl⟩ (pv_loadK [_, _, _, _, _, _] rfl rfl rfl ⟨rfl, rfl, rfl, rfl, rfl, rfl, trivial⟩) rfl ?_
   refine Ops.pvg ⟨_, _, rfl, rfl, rfl⟩ ((pv_eql_cap (a := (capM S0 root q).2.1) (b := (capM S0 root q).2.1) rfl rfl).tru rfl) rfl ?_
   refine Ops.pv (pv_pick_true rfl rfl) rfl ?_
   refine Ops.pv (pv_move rfl) rfl ?_
   refine Ops.pvg ⟨_, _, rfl, rfl, rfl⟩ (pv_move rfl) rfl ?_
   refine Ops.pvg ⟨_, _, rfl, rfl, rfl⟩ (pv_move rfl) rfl ?_
   refine Ops.pvg ⟨_, _, rfl, rfl, rfl⟩ ((pv_eql rfl rfl).tru rfl) rfl ?_
   refine Ops.pv (pv_pick_true rfl rfl) rfl ?_
   refine Ops.pv (pv_move rfl) rfl ?_
   refine Ops.pvg ⟨_, _, rfl, rfl, rfl⟩ (pv_loadK [_, _] rfl rfl rfl ⟨rfl, rfl, trivial⟩) rfl ?_
   refine Ops.pvg ⟨_, _, rfl, rfl, rfl⟩ (pv_loadK [_, _] rfl rfl rfl ⟨rfl, rfl, trivial⟩) rfl ?_
   refine Ops.pvg ⟨_, _, rfl, rfl, rfl⟩ ((pv_eql_slot (a := (findM S0 root q depth).1) (b := (findM S0 root q depth).1) rfl rfl).tru rfl) rfl ?_
   refine Ops.pv (pv_pick_true rfl rfl) rfl ?_
   refine Ops.pv (pv_move rfl) rfl ?_
   refine Ops.pvg ⟨_, _, rfl, rfl, rfl⟩ (pv_move rfl) rfl ?_
   refine Ops.pvg ⟨_, _, rfl, rfl, rfl⟩ (pv_move rfl) rfl ?_
   refine Ops.pvg ⟨_, _, rfl, rfl, rfl⟩ ((pv_eql rfl rfl).tru rfl) rfl ?_
   refine Ops.pv (pv_pick_true rfl rfl) rfl ?_
   refine Ops.pv (pv_assign rfl) rfl ?_
   refine Ops.nil ?_
   refine Ends.seq ?_
   refine Wp.ret ?_
   exact Ends.ret (res1 rfl rfl) ⟨rfl, rfl⟩
  refine Turn.ef rfl rfl (ef_allocK tyZ31 rfl) ?_ ?_
  ·
   rintro _ _ ⟨b28, rfl, rfl⟩; infer_instance
  rintro _ _ ⟨b28, rfl, rfl⟩
  refine AnyH.one 6 (by kernel_rfl) ?_
  refine Turn.ef rfl rfl (ef_callr (tr_dfindA w0 qb1 _ S0 l0 hQ0 ⟨v0, H0, hs0, rfl⟩ root q depth) rfl rfl) ?_ ?_
  ·
   rintro _ _ ⟨rfl, rfl⟩; infer_instance
  rintro _ _ ⟨rfl, rfl⟩
  refine Tk 7 rfl rfl (pv_move rfl) rfl ?_
  refine Tk 8 rfl rfl (pv_extract rfl rfl) rfl ?_
  refine Tk 9 rfl rfl (pv_extract rfl rfl) rfl ?_
  refine AnyH.one 11 (by kernel_rfl) ?_
  refine Turn.ef rfl rfl (ef_storeK rfl rfl rfl rfl) ?_ ?_
  ·
   rintro _ _ ⟨rfl, rfl⟩; infer_instance
  rintro _ _ ⟨rfl, rfl⟩
  refine Tk 12 rfl rfl (pv_assign rfl) rfl ?_
  refine AnyH.done (by kernel_rfl) ?_
  refine Ends.seq ?_
  refine Wp.seq ?_
  refine Wp.region ?_
  refine Ops.pv (pv_loadK [_, _] rfl rfl rfl ⟨rfl, rfl, trivial⟩) rfl ?_
  refine Ops.pv (pv_loadK [_, _] rfl rfl rfl ⟨rfl, rfl, trivial⟩) rfl ?_
  refine Ops.pv ((pv_eql_slot (a := (capM S0 root q).1) (b := (capM S0 root q).1) rfl rfl).tru rfl) rfl ?_
  refine Ops.pv (pv_move rfl) rfl ?_
  refine Ops.pvg ⟨_, _, rfl, rfl, rfl⟩ (pv_loadK [_, _, _, _, _, _] rfl rfl rfl ⟨rfl, rfl, rfl, rfl, rfl, rfl, trivial⟩) rfl ?_
  refine Ops.pvg ⟨_, _, rfl, rfl, rfl⟩ (pv_loadK [_, _, _, _, _, _] rfl rfl rfl ⟨rfl, rfl, rfl, rfl, rfl, rfl, trivial⟩) rfl ?_
  refine Ops.pvg ⟨_, _, rfl, rfl, rfl⟩ ((pv_eql_cap (a := (capM S0 root q).2.1) (b := (capM S0 root q).2.1) rfl rfl).tru rfl) rfl ?_
  refine Ops.pv (pv_pick_true rfl rfl) rfl ?_
  refine Ops.pv (pv_move rfl) rfl ?_
  refine Ops.pvg ⟨_, _, rfl, rfl, rfl⟩ (pv_move rfl) rfl ?_
  refine Ops.pvg ⟨_, _, rfl, rfl, rfl⟩ (pv_move rfl) rfl ?_
  refine Ops.pvg ⟨_, _, rfl, rfl, rfl⟩ ((pv_eql rfl rfl).tru rfl) rfl ?_
  refine Ops.pv (pv_pick_true rfl rfl) rfl ?_
  refine Ops.pv (pv_move rfl) rfl ?_
  refine Ops.pvg ⟨_, _, rfl, rfl, rfl⟩ (pv_loadK [_, _] rfl rfl rfl ⟨rfl, rfl, trivial⟩) rfl ?_
  refine Ops.pvg ⟨_, _, rfl, rfl, rfl⟩ (pv_loadK [_, _] rfl rfl rfl ⟨rfl, rfl, trivial⟩) rfl ?_
  refine Ops.pvg ⟨_, _, rfl, rfl, rfl⟩ ((pv_eql_slot (a := (findM S0 root q depth).1) (b := (findM S0 root q depth).1) rfl rfl).tru rfl) rfl ?_
  refine Ops.pv (pv_pick_true rfl rfl) rfl ?_
  refine Ops.pv (pv_move rfl) rfl ?_
  refine Ops.pvg ⟨_, _, rfl, rfl, rfl⟩ (pv_move rfl) rfl ?_
  refine Ops.pvg ⟨_, _, rfl, rfl, rfl⟩ (pv_move rfl) rfl ?_
  refine Ops.pvg ⟨_, _, rfl, rfl, rfl⟩ ((pv_eql rfl rfl).tru rfl) rfl ?_
  refine Ops.pv (pv_pick_true rfl rfl) rfl ?_
  refine Ops.pv (pv_assign rfl) rfl ?_
  refine Ops.nil ?_
  refine Ends.seq ?_
  refine Wp.ret ?_
  exact Ends.ret (res1 rfl rfl) ⟨rfl, rfl⟩
 refine Turn.ef rfl rfl (ef_allocK tyZ31 rfl) ?_ ?_
 ·
  rintro _ _ ⟨b29, rfl, rfl⟩; infer_instance
 rintro _ _ ⟨b29, rfl, rfl⟩
 refine AnyH.one 5 (by kernel_rfl) ?_
 refine Turn.ef rfl rfl (ef_callr (tr_dcap w0 qb1 _ S0 l0 hQ0 ⟨v0, H0, hs0, rfl⟩ root q) rfl rfl) ?_ ?_
 ·
  rintro _ _ ⟨rfl, rfl⟩; infer_instance
 rintro _ _ ⟨rfl, rfl⟩
 refine Tk 6 rfl rfl (pv_move rfl) rfl ?_
 refine Tk 7 rfl rfl (pv_extract rfl rfl) rfl ?_
 refine Tk 8 rfl rfl (pv_extract rfl rfl) rfl ?_
 refine Tk 9 rfl rfl (pv_extract rfl rfl) rfl ?_
 refine AnyH.one 12 (by kernel_rfl) ?_
 refine Turn.ef rfl rfl (ef_storeK rfl rfl rfl rfl) ?_ ?_
 ·
  rintro _ _ ⟨rfl, rfl⟩; infer_instance
 rintro _ _ ⟨rfl, rfl⟩
 refine AnyH.one 13 (by kernel_rfl) ?_
 refine Turn.ef rfl rfl (ef_storeK rfl rfl rfl rfl) ?_ ?_
 ·
  rintro _ _ ⟨rfl, rfl⟩; infer_instance
 rintro _ _ ⟨rfl, rfl⟩
 refine Tk 14 rfl rfl (pv_assign rfl) rfl ?_
 refine AnyH.done (by kernel_rfl) ?_
 refine Ends.seq ?_
 refine Wp.seq ?_
 refine Wp.region ?_
 refine Ops.pv (pv_move rfl) rfl ?_
 refine Ops.pv (pv_loadK [_, _, _, _, _, _] rfl rfl rfl ⟨rfl, rfl, rfl, rfl, rfl, rfl, trivial⟩) rfl ?_
 refine Ops.pv (pv_move rfl) rfl ?_
 refine Ops.pv (pv_move rfl) rfl ?_
 refine Ops.ef rfl (ef_callr (tr_mSlotA i cb1 Lc p hC S0 hR0 root q hq64 depth) rfl rfl) ?_
 rintro _ _ ⟨rfl, rfl⟩
 refine Ops.pv (pv_move rfl) rfl ?_
 refine Ops.pv (pv_extract rfl rfl) rfl ?_
 refine Ops.pv (pv_extract rfl rfl) rfl ?_
 refine Ops.ef rfl (ef_allocK tyZ31 rfl) ?_
 rintro _ _ ⟨b30, rfl, rfl⟩
 refine Ops.ef rfl (ef_storeK rfl rfl rfl rfl) ?_
 rintro _ _ ⟨rfl, rfl⟩
 refine Ops.pv (pv_assign rfl) rfl ?_
 refine Ops.nil ?_
 refine Ends.seq ?_
 refine Wp.seq ?_
 refine AnyH.start ((b1, .cells root.cells.toArray 25) :: []) 13 rfl ?_
 refine Tk 0 rfl rfl (pv_move rfl) rfl ?_
 refine Tk 1 rfl rfl (pv_nilCheck rfl) rfl ?_
 refine Tk 2 rfl rfl (pv_fieldAddr0 rfl rfl) rfl ?_
 refine Tk 3 rfl rfl (pv_loadK [_, _, _, _, _, _] rfl rfl rfl ⟨rfl, rfl, rfl, rfl, rfl, rfl, trivial⟩) rfl ?_
 refine Tk 4 rfl rfl (pv_move rfl) rfl ?_
 refine Tk 5 rfl rfl (pv_move rfl) rfl ?_
 refine AnyH.two 6 10 (by kernel_rfl) ?_ ?_
 ·
  refine Turn.ef rfl rfl (ef_callr (tr_dfindA w0 qb1 _ S0 l0 hQ0 ⟨v0, H0, hs0, rfl⟩ root q depth) rfl rfl) ?_ ?_
  ·
   rintro _ _ ⟨rfl, rfl⟩; infer_instance
  rintro _ _ ⟨rfl, rfl⟩
  refine Tk 7 rfl rfl (pv_move rfl) rfl ?_
  refine Tk 8 rfl rfl (pv_extract rfl rfl) rfl ?_
  refine Tk 9 rfl rfl (pv_extract rfl rfl) rfl ?_
  refine AnyH.one 10 (by kernel_rfl) ?_
  refine Turn.ef rfl rfl (ef_allocK tyZ31 rfl) ?_ ?_
  ·
   rintro _ _ ⟨b31, rfl, rfl⟩; infer_instance
  rintro _ _ ⟨b31, rfl, rfl⟩
  refine AnyH.one 11 (by kernel_rfl) ?_
  refine Turn.ef rfl rfl (ef_storeK rfl rfl rfl rfl) ?_ ?_
  ·
   rintro _ _ ⟨rfl, rfl⟩; infer_instance
  rintro _ _ ⟨rfl, rfl⟩
  refine Tk 12 rfl rfl (pv_assign rfl) rfl ?_
  refine AnyH.done (by kernel_rfl) ?_
  refine Ends.seq ?_
  refine Wp.seq ?_
  refine Wp.region ?_
  refine Ops.pv (pv_loadK [_, _] rfl rfl rfl ⟨rfl, rfl, trivial⟩) rfl ?_
  refine Ops.pv (pv_loadK [_, _] rfl rfl rfl ⟨rfl, rfl, trivial⟩) rfl ?_
  refine Ops.pv ((pv_eql_slot (a := (capM S0 root q).1) (b := (capM S0 root q).1) rfl rfl).tru rfl) rfl ?_
  refine Ops.pv (pv_move rfl) rfl ?_
  refine Ops.pvg ⟨_, _, rfl, rfl, rfl⟩ (pv_loadK [_, _, _, _, _, _] rfl rfl rfl ⟨rfl, rfl, rfl, rfl, rfl, rfl, trivial⟩) rfl ?_
  refine Ops.pvg ⟨_, _, rfl, rfl, rfl⟩ (pv_loadK [_, _, _, _, _, _] rfl rfl rfl ⟨rfl, rfl, rfl, rfl, rfl, rfl, trivial⟩) rfl ?_
  refine Ops.pvg ⟨_, _, rfl, rfl, rfl⟩ ((pv_eql_cap (a := (capM S0 root q).2.1) (b := (capM S0 root q).2.1) rfl rfl).tru rfl) rfl ?_
  refine Ops.pv (pv_pick_true rfl rfl) rfl ?_
  refine Ops.pv (pv_move rfl) rfl ?_
  refine Ops.pvg ⟨_, _, rfl, rfl, rfl⟩ (pv_move rfl) rfl ?_
  refine Ops.pvg ⟨_, _, rfl, rfl, rfl⟩ (pv_move rfl) rfl ?_
  refine Ops.pvg ⟨_, _, rfl, rfl, rfl⟩ ((pv_eql rfl rfl).tru rfl) rfl ?_
  refine Ops.pv (pv_pick_true rfl rfl) rfl ?_
  refine Ops.pv (pv_move rfl) rfl ?_
  refine Ops.pvg ⟨_, _, rfl, rfl, rfl⟩ (pv_loadK [_, _] rfl rfl rfl ⟨rfl, rfl, trivial⟩) rfl ?_
  refine Ops.pvg ⟨_, _, rfl, rfl, rfl⟩ (pv_loadK [_, _] rfl rfl rfl ⟨rfl, rfl, trivial⟩) rfl ?_
  refine Ops.pvg ⟨_, _, rfl, rfl, rfl⟩ ((pv_eql_slot (a := (findM S0 root q depth).1) (b := (findM S0 root q depth).1) rfl rfl).tru rfl) rfl ?_
  refine Ops.pv (pv_pick_true rfl rfl) rfl ?_
  refine Ops.pv (pv_move rfl) rfl ?_
  refine Ops.pvg ⟨_, _, rfl, rfl, rfl⟩ (pv_move rfl) rfl ?_
  refine Ops.pvg ⟨_, _, rfl, rfl, rfl⟩ (pv_move rfl) rfl ?_
  refine Ops.pvg ⟨_, _, rfl, rfl, rfl⟩ ((pv_eql rfl rfl).tru rfl) rfl ?_
  refine Ops.pv (pv_pick_true rfl rfl) rfl ?_
  refine Ops.pv (pv_assign rfl) rfl ?_
  refine Ops.nil ?_
  refine Ends.seq ?_
  refine Wp.ret ?_
  exact Ends.ret (res1 rfl rfl) ⟨rfl, rfl⟩
 refine Turn.ef rfl rfl (ef_allocK tyZ31 rfl) ?_ ?_
 ·
  rintro _ _ ⟨b32, rfl, rfl⟩; infer_instance
 rintro _ _ ⟨b32, rfl, rfl⟩
 refine AnyH.one 6 (by kernel_rfl) ?_
 refine Turn.ef rfl rfl (ef_callr (tr_dfindA w0 qb1 _ S0 l0 hQ0 ⟨v0, H0, hs0, rfl⟩ root q depth) rfl rfl) ?_ ?_
 ·
  rintro _ _ ⟨rfl, rfl⟩; infer_instance
 rintro _ _ ⟨rfl, rfl⟩
 refine Tk 7 rfl rfl (pv_move rfl) rfl ?_
 refine Tk 8 rfl rfl (pv_extract rfl rfl) rfl ?_
 refine Tk 9 rfl rfl (pv_extract rfl rfl) rfl ?_
 refine AnyH.one 11 (by kernel_rfl) ?_
 refine Turn.ef rfl rfl (ef_storeK rfl rfl rfl rfl) ?_ ?_
 ·
  rintro _ _ ⟨rfl, rfl⟩; infer_instance
 rintro _ _ ⟨rfl, rfl⟩
 refine Tk 12 rfl rfl (pv_assign rfl) rfl ?_
 refine AnyH.done (by kernel_rfl) ?_
 refine Ends.seq ?_
 refine Wp.seq ?_
 refine Wp.region ?_
 refine Ops.pv (pv_loadK [_, _] rfl rfl rfl ⟨rfl, rfl, trivial⟩) rfl ?_
 refine Ops.pv (pv_loadK [_, _] rfl rfl rfl ⟨rfl, rfl, trivial⟩) rfl ?_
 refine Ops.pv ((pv_eql_slot (a := (capM S0 root q).1) (b := (capM S0 root q).1) rfl rfl).tru rfl) rfl ?_
 refine Ops.pv (pv_move rfl) rfl ?_
 refine Ops.pvg ⟨_, _, rfl, rfl, rfl⟩ (pv_loadK [_, _, _, _, _, _] rfl rfl rfl ⟨rfl, rfl, rfl, rfl, rfl, rfl, trivial⟩) rfl ?_
 refine Ops.pvg ⟨_, _, rfl, rfl, rfl⟩ (pv_loadK [_, _, _, _, _, _] rfl rfl rfl ⟨rfl, rfl, rfl, rfl, rfl, rfl, trivial⟩) rfl ?_
 refine Ops.pvg ⟨_, _, rfl, rfl, rfl⟩ ((pv_eql_cap (a := (capM S0 root q).2.1) (b := (capM S0 root q).2.1) rfl rfl).tru rfl) rfl ?_
 refine Ops.pv (pv_pick_true rfl rfl) rfl ?_
 refine Ops.pv (pv_move rfl) rfl ?_
 refine Ops.pvg ⟨_, _, rfl, rfl, rfl⟩ (pv_move rfl) rfl ?_
 refine Ops.pvg ⟨_, _, rfl, rfl, rfl⟩ (pv_move rfl) rfl ?_
 refine Ops.pvg ⟨_, _, rfl, rfl, rfl⟩ ((pv_eql rfl rfl).tru rfl) rfl ?_
 refine Ops.pv (pv_pick_true rfl rfl) rfl ?_
 refine Ops.pv (pv_move rfl) rfl ?_
 refine Ops.pvg ⟨_, _, rfl, rfl, rfl⟩ (pv_loadK [_, _] rfl rfl rfl ⟨rfl, rfl, trivial⟩) rfl ?_
 refine Ops.pvg ⟨_, _, rfl, rfl, rfl⟩ (pv_loadK [_, _] rfl rfl rfl ⟨rfl, rfl, trivial⟩) rfl ?_
 refine Ops.pvg ⟨_, _, rfl, rfl, rfl⟩ ((pv_eql_slot (a := (findM S0 root q depth).1) (b := (findM S0 root q depth).1) rfl rfl).tru rfl) rfl ?_
 refine Ops.pv (pv_pick_true rfl rfl) rfl ?_
 refine Ops.pv (pv_move rfl) rfl ?_
 refine Ops.pvg ⟨_, _, rfl, rfl, rfl⟩ (pv_move rfl) rfl ?_
 refine Ops.pvg ⟨_, _, rfl, rfl, rfl⟩ (pv_move rfl) rfl ?_
 refine Ops.pvg ⟨_, _, rfl, rfl, rfl⟩ ((pv_eql rfl rfl).tru rfl) rfl ?_
 refine Ops.pv (pv_pick_true rfl rfl) rfl ?_
 refine Ops.pv (pv_assign rfl) rfl ?_
 refine Ops.nil ?_
 refine Ends.seq ?_
 refine Wp.ret ?_
 exact Ends.ret (res1 rfl rfl) ⟨rfl, rfl⟩
end Go.Proofs.YtdodfnjmkpgdbaaGreat
end
section
set_option linter.unusedVariables false
set_option linter.unusedSimpArgs false
set_option linter.unusedSectionVars false
namespace Go.Proofs.YtdodfnjmkpgdbaaGreat
open Go.SL
section
variable {c : List CapM} {i : Int} {x z : CapM} (h0 : 0 ≤ i) (hx : c[i.toNat]? = some x)
include h0 hx
end
section
variable {a b w f g x y : CapM} {F K : FoS}
variable (hx : x.kind ≠ 0) (hcx : checkM x = 0) (hK : K = .nil ∨ K = .one (0, 2))
include hx hcx hK
variable (hy : y.kind ≠ 0) (hcy : checkM y = 0)
include hy hcy
end
theorem as_cap {cs : Array Value} (h : FlatV [some .i64, some .i64, some .i64, some .u64, some .u64, some .i64] cs.toList) : ∃ c : CapM, cs = c.cells.toArray ∧ (fun _ => True) c := by
 obtain ⟨cs⟩ := cs
 dsimp only at h
 obtain ⟨a0, l, rfl, _, h⟩ := h.int
 obtain ⟨a1, l, rfl, _, h⟩ := h.int
 obtain ⟨a2, l, rfl, _, h⟩ := h.int
 obtain ⟨a3, l, rfl, _, h⟩ := h.int
 obtain ⟨a4, l, rfl, _, h⟩ := h.int
 obtain ⟨a5, l, rfl, _, h⟩ := h.int
 obtain rfl := h.nil
 exact ⟨⟨a0, a1, a2, a3, a4, a5⟩, rfl, trivial⟩
end Go.Proofs.YtdodfnjmkpgdbaaGreat
end
