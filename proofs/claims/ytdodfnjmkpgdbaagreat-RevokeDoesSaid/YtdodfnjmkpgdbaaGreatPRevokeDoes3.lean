/- RevokeDoes. Laid together by pack.py out of the texts in wip. -/
import Derived.Test.YtdodfnjmkpgdbaaGreatPRevokeDoes2
set_option linter.unusedVariables false
set_option linter.unusedSimpArgs false
set_option linter.unusedSectionVars false
section
set_option linter.unusedVariables false
set_option linter.unusedSimpArgs false
namespace Go.Proofs.YtdodfnjmkpgdbaaGreat
open Go.SL
theorem tr_check4 (r : Int) : TrR Tryz.prog 118 [.int .i64 r] ([]) (.bool (decide (0 ≤ r ∧ r ≤ 7))) := by
 refine Tr.enter Tryz.func118 rfl Tryz.ntmps118 rfl (fun W F => ?_)
 refine Wp.app ?_
 refine Wr ?_
 refine Oa1 rfl rfl ?_
 refine On ?_
 refine Wr ?_
 refine Om1 rfl rfl ?_
 refine Ops.pv (pv_geq rfl rfl) rfl ?_
 refine Om1 rfl rfl ?_
 refine Ops.pvc rfl rfl (fun hg => pv_move rfl) rfl ?_
 refine Ops.pvc rfl rfl (fun hg => Pv.setE (t := 6) rfl (cv_pos hg) (pv_leq rfl rfl)) rfl ?_
 refine Ops.pv (pv_pick_and rfl rfl) rfl ?_
 refine Oa1 rfl rfl ?_
 refine On ?_
 refine Wp.ret ?_
 exact Ends.ret (res1 rfl rfl) ⟨rfl, rfl⟩
theorem tr_guarded (g b : Int) : TrR Tryz.prog 122 [.int .u64 g, .int .i64 b] ([]) (.bool (decide ((0 ≤ b ∧ b ≤ 16) ∧ g < 2 ^ b.toNat))) := by
 refine Tr.enter Tryz.func122 rfl Tryz.ntmps122 rfl (fun W F => ?_)
 refine Wp.app ?_
 refine Wr ?_
 refine Oa1 rfl rfl ?_
 refine On ?_
 refine Wr ?_
 refine Om1 rfl rfl ?_
 refine Ops.pv (pv_geq rfl rfl) rfl ?_
 refine Om1 rfl rfl ?_
 refine Ops.pvc rfl rfl (fun hg => pv_move rfl) rfl ?_
 refine Ops.pvc rfl rfl (fun hg => Pv.setE (t := 8) rfl (cv_pos hg) (pv_leq rfl rfl)) rfl ?_
 refine Ops.pv (pv_pick_and rfl rfl) rfl ?_
 refine Om1 rfl rfl ?_
 refine Ops.pvc rfl rfl (fun hg => pv_move rfl) rfl ?_
 refine Ops.pvc rfl rfl (fun hg => Pv.setE (t := 12) rfl (cv_pos hg) (pv_move rfl)) rfl ?_
 refine Ops.pvc rfl rfl (fun hg => Pv.setE (t := 12) rfl (cv_pos hg) (Pv.setE (t := 13) rfl (cv_pos hg) (pv_shl rfl rfl (by omega) (shlI (by omega) (by omega))))) rfl ?_
 refine Ops.pvc rfl rfl (fun hg => Pv.setE (t := 12) rfl (cv_pos hg) (Pv.setE (t := 13) rfl (cv_pos hg) (Pv.setE (t := 14) rfl (cv_pos hg) (pv_lss rfl rfl)))) rfl ?_
 refine Ops.pv (pv_pick_and rfl rfl) rfl ?_
 refine Oa1 rfl rfl ?_
 refine On ?_
 refine Wp.ret ?_
 exact Ends.ret (res1 rfl rfl) ⟨rfl, rfl⟩
theorem tr_righted (k : Int) : TrR Tryz.prog 119 [.int .i64 k] ([]) (.bool (decide ((k = 4 ∨ k = 5) ∨ k = 6))) := by
 refine Tr.enter Tryz.func119 rfl Tryz.ntmps119 rfl (fun W F => ?_)
 refine Wp.app ?_
 refine Wr ?_
 refine Oa1 rfl rfl ?_
 refine On ?_
 refine Wr ?_
 refine Om1 rfl rfl ?_
 refine Ops.pv (pv_eql rfl rfl) rfl ?_
 refine Om1 rfl rfl ?_
 refine Ops.pvcn rfl rfl (fun hg => pv_move rfl) rfl ?_
 refine Ops.pvcn rfl rfl (fun hg => Pv.setE (t := 6) rfl (cv_pos hg) (pv_eql rfl rfl)) rfl ?_
 refine Ops.pv (pv_pick_or rfl rfl) rfl ?_
 refine Om1 rfl rfl ?_
 refine Ops.pvcn rfl rfl (fun hg => pv_move rfl) rfl ?_
 refine Ops.pvcn rfl rfl (fun hg => Pv.setE (t := 10) rfl (cv_pos hg) (pv_eql rfl rfl)) rfl ?_
 refine Ops.pv (pv_pick_or rfl rfl) rfl ?_
 refine Oa1 rfl rfl ?_
 refine On ?_
 refine Wp.ret ?_
 exact Ends.ret (res1 rfl rfl) ⟨rfl, rfl⟩
theorem tr_badged (k : Int) : TrR Tryz.prog 121 [.int .i64 k] ([]) (.bool (decide (k = 4 ∨ k = 5))) := by
 refine Tr.enter Tryz.func121 rfl Tryz.ntmps121 rfl (fun W F => ?_)
 refine Wp.app ?_
 refine Wr ?_
 refine Oa1 rfl rfl ?_
 refine On ?_
 refine Wr ?_
 refine Om1 rfl rfl ?_
 refine Ops.pv (pv_eql rfl rfl) rfl ?_
 refine Om1 rfl rfl ?_
 refine Ops.pvcn rfl rfl (fun hg => pv_move rfl) rfl ?_
 refine Ops.pvcn rfl rfl (fun hg => Pv.setE (t := 6) rfl (cv_pos hg) (pv_eql rfl rfl)) rfl ?_
 refine Ops.pv (pv_pick_or rfl rfl) rfl ?_
 refine Oa1 rfl rfl ?_
 refine On ?_
 refine Wp.ret ?_
 exact Ends.ret (res1 rfl rfl) ⟨rfl, rfl⟩
set_option maxHeartbeats 4000000 in
theorem tr_dcheck (c : CapM) (hr : c.Rg) : TrR Tryz.prog 113 [c.v] ([]) (.int .i64 (checkM c)) := by
 refine Tr.enter Tryz.func113 rfl Tryz.ntmps113 rfl (fun W F => ?_)
 refine Wp.app ?_
 refine Wr ?_
 refine Ops.ef rfl (ef_boxK rfl rfl) ?_
 rintro _ _ ⟨b1, rfl, rfl⟩
 refine Oa1 rfl rfl ?_
 refine On ?_
 refine Wp.seq ?_
 refine Wr ?_
 refine Of1 rfl rfl rfl ?_
 refine Ol1 rfl rfl rfl rfl ?_
 refine Ops.pv (pv_lss rfl rfl) rfl ?_
 refine Om1 rfl rfl ?_
 refine Ops.pvcn rfl rfl (fun hg => pv_fieldAddr0 rfl rfl) rfl ?_
 refine Ops.pvcn rfl rfl (fun hg => Pv.setE (t := 8) rfl (cv_pos hg) (pv_load rfl rfl rfl)) rfl ?_
 refine Ops.pvcn rfl rfl (fun hg => Pv.setE (t := 8) rfl (cv_pos hg) (Pv.setE (t := 9) rfl (cv_pos hg) (pv_gtr rfl rfl))) rfl ?_
 refine Ops.pv (pv_pick_or rfl rfl) rfl ?_
 refine On ?_
 refine Wp.cond_dect rfl (fun h1 => ?_) (fun h1 => ?_)
 ·
  refine Wr ?_
  refine Oa1 rfl rfl ?_
  refine On ?_
  refine Wp.ret ?_
  refine Ends.then_ret ?_
  exact Ends.ret (res1 rfl rfl) ⟨by first | (rw [check_bad (by omega)]; done) | (rw [check_ok hr (by omega) (by unfold dOk; omega)]; done) | (rw [check_no hr (by omega) (by unfold dOk; omega)]; done), rfl⟩
 refine Wp.skip ?_
 refine Ends.seq ?_
 refine Wr ?_
 refine Of1 rfl rfl rfl ?_
 refine Ol1 rfl rfl rfl rfl ?_
 refine Ops.pv (pv_geq rfl rfl) rfl ?_
 refine Om1 rfl rfl ?_
 refine Ops.pvc rfl rfl (fun hg => pv_fieldAddr0 rfl rfl) rfl ?_
 refine Ops.pvc rfl rfl (fun hg => Pv.setE (t := 16) rfl (cv_pos hg) (pv_load rfl rfl rfl)) rfl ?_
 refine Ops.pvc rfl rfl (fun hg => Pv.setE (t := 16) rfl (cv_pos hg) (Pv.setE (t := 17) rfl (cv_pos hg) (pv_leq rfl rfl))) rfl ?_
 refine Ops.pv (pv_pick_and rfl rfl) rfl ?_
 refine Om1 rfl rfl ?_
 refine Ops.split (t := 20) rfl (fun h2 => ?_) (fun h2 => ?_)
 ·
  refine Ops.pvg ⟨_, _, rfl, rfl, rfl⟩ (pv_fieldAddr0 rfl rfl) rfl ?_
  refine Ops.pvg ⟨_, _, rfl, rfl, rfl⟩ (pv_load rfl rfl rfl) rfl ?_
  refine Ops.efg ⟨_, _, rfl, rfl, rfl⟩ (ef_callr (tr_check4 c.rights) rfl rfl) ?_
  rintro _ _ ⟨rfl, rfl⟩
  refine Ops.pv (pv_pick_true rfl rfl) rfl ?_
  refine Om1 rfl rfl ?_
  refine Ops.split (t := 25) rfl (fun h3 => ?_) (fun h3 => ?_)
  ·
   refine Ops.pvg ⟨_, _, rfl, rfl, rfl⟩ (pv_fieldAddr0 rfl rfl) rfl ?_
   refine Ops.pvg ⟨_, _, rfl, rfl, rfl⟩ (pv_load rfl rfl rfl) rfl ?_
   refine Ops.pvg ⟨_, _, rfl, rfl, rfl⟩ (pv_lss rfl rfl) rfl ?_
   refine Ops.pv (pv_pick_true rfl rfl) rfl ?_
   refine Om1 rfl rfl ?_
   refine Ops.split (t := 30) rfl (fun h4 => ?_) (fun h4 => ?_)
   ·
    refine Ops.pvg ⟨_, _, rfl, rfl, rfl⟩ (pv_fieldAddr0 rfl rfl) rfl ?_
    refine Ops.pvg ⟨_, _, rfl, rfl, rfl⟩ (pv_load rfl rfl rfl) rfl ?_
    refine Ops.pvg ⟨_, _, rfl, rfl, rfl⟩ (pv_fieldAddr0 rfl rfl) rfl ?_
    refine Ops.pvg ⟨_, _, rfl, rfl, rfl⟩ (pv_load rfl rfl rfl) rfl ?_
    refine Ops.efg ⟨_, _, rfl, rfl, rfl⟩ (ef_callr (tr_guarded c.guard c.bits) rfl rfl) ?_
    rintro _ _ ⟨rfl, rfl⟩
    refine Ops.pv (pv_pick_true rfl rfl) rfl ?_
    refine Oa1 rfl rfl ?_
    refine On ?_
    refine Wp.seq ?_
    refine Wr ?_
    refine Of1 rfl rfl rfl ?_
    refine Ol1 rfl rfl rfl rfl ?_
    refine Ops.pv (pv_eql rfl rfl) rfl ?_
    refine Om1 rfl rfl ?_
    refine Ops.pvcn rfl rfl (fun hg => pv_fieldAddr0 rfl rfl) rfl ?_
    refine Ops.pvcn rfl rfl (fun hg => Pv.setE (t := 41) rfl (cv_pos hg) (pv_load rfl rfl rfl)) rfl ?_
    refine Ops.pvcn rfl rfl (fun hg => Pv.setE (t := 41) rfl (cv_pos hg) (Pv.setE (t := 42) rfl (cv_pos hg) (pv_eql rfl rfl))) rfl ?_
    refine Ops.pv (pv_pick_or rfl rfl) rfl ?_
    refine On ?_
    refine Wp.cond_dect rfl (fun h5 => ?_) (fun h5 => ?_)
    ·
     refine Wp.region ?_
     refine Om1 rfl rfl ?_
     refine Om1 rfl rfl ?_
     refine Ops.split (t := 46) rfl (fun h6 => ?_) (fun h6 => ?_)
     ·
      refine Ops.pvg ⟨_, _, rfl, rfl, rfl⟩ (pv_fieldAddr0 rfl rfl) rfl ?_
      refine Ops.pvg ⟨_, _, rfl, rfl, rfl⟩ (pv_load rfl rfl rfl) rfl ?_
      refine Ops.pvg ⟨_, _, rfl, rfl, rfl⟩ (pv_eql rfl rfl) rfl ?_
      refine Ops.pv (pv_pick_true rfl rfl) rfl ?_
      refine Oa1 rfl rfl ?_
      refine On ?_
      refine Wp.seq ?_
      refine Wr ?_
      refine Of1 rfl rfl rfl ?_
      refine Ol1 rfl rfl rfl rfl ?_
      refine Ops.ef rfl (ef_callr (tr_righted c.kind) rfl rfl) ?_
      rintro _ _ ⟨rfl, rfl⟩
      refine Ops.pv (pv_not_dec rfl) rfl ?_
      refine On ?_
      refine Wp.cond_dect rfl (fun h7 => ?_) (fun h7 => ?_)
      ·
       refine Wp.region ?_
       refine Om1 rfl rfl ?_
       refine Om1 rfl rfl ?_
       refine Ops.pvc rfl rfl (fun hg => pv_fieldAddr0 rfl rfl) rfl ?_
       refine Ops.pvc rfl rfl (fun hg => Pv.setE (t := 57) rfl (cv_pos hg) (pv_load rfl rfl rfl)) rfl ?_
       refine Ops.pvc rfl rfl (fun hg => Pv.setE (t := 57) rfl (cv_pos hg) (Pv.setE (t := 58) rfl (cv_pos hg) (pv_eql rfl rfl))) rfl ?_
       refine Ops.pv (pv_pick_and rfl rfl) rfl ?_
       refine Oa1 rfl rfl ?_
       refine On ?_
       refine Wp.seq ?_
       refine Wr ?_
       refine Of1 rfl rfl rfl ?_
       refine Ol1 rfl rfl rfl rfl ?_
       refine Ops.ef rfl (ef_callr (tr_badged c.kind) rfl rfl) ?_
       rintro _ _ ⟨rfl, rfl⟩
       refine Ops.pv (pv_not_dec rfl) rfl ?_
       refine On ?_
       refine Wp.cond_dect rfl (fun h8 => ?_) (fun h8 => ?_)
       ·
        refine Wp.region ?_
        refine Om1 rfl rfl ?_
        refine Om1 rfl rfl ?_
        refine Ops.pvc rfl rfl (fun hg => pv_fieldAddr0 rfl rfl) rfl ?_
        refine Ops.pvc rfl rfl (fun hg => Pv.setE (t := 67) rfl (cv_pos hg) (pv_load rfl rfl rfl)) rfl ?_
        refine Ops.pvc rfl rfl (fun hg => Pv.setE (t := 67) rfl (cv_pos hg) (Pv.setE (t := 68) rfl (cv_pos hg) (pv_eql rfl rfl))) rfl ?_
        refine Ops.pv (pv_pick_and rfl rfl) rfl ?_
        refine Oa1 rfl rfl ?_
        refine On ?_
        refine Wp.seq ?_
        refine Wr ?_
        refine Of1 rfl rfl rfl ?_
        refine Ol1 rfl rfl rfl rfl ?_
        refine Ops.pv (pv_neq rfl rfl) rfl ?_
        refine On ?_
        refine Wp.cond_dect rfl (fun h9 => ?_) (fun h9 => ?_)
        ·
         refine Wp.region ?_
         refine Om1 rfl rfl ?_
         refine Om1 rfl rfl ?_
         refine Ops.pvc rfl rfl (fun hg => pv_fieldAddr0 rfl rfl) rfl ?_
         refine Ops.pvc rfl rfl (fun hg => Pv.setE (t := 76) rfl (cv_pos hg) (pv_load rfl rfl rfl)) rfl ?_
         refine Ops.pvc rfl rfl (fun hg => Pv.setE (t := 76) rfl (cv_pos hg) (Pv.setE (t := 77) rfl (cv_pos hg) (pv_eql rfl rfl))) rfl ?_
         refine Ops.pv (pv_pick_and rfl rfl) rfl ?_
         refine Oa1 rfl rfl ?_
         refine On ?_
         refine Wp.seq ?_
         refine Wr ?_
         refine Om1 rfl rfl ?_
         refine Ops.pv (pv_not_dec rfl) rfl ?_
         refine On ?_
         refine Wp.cond_dect rfl (fun h10 => ?_) (fun h10 => ?_)
         ·
          refine Wr ?_
          refine Oa1 rfl rfl ?_
          refine On ?_
          refine Wp.ret ?_
          refine Ends.then_ret ?_
          exact Ends.ret (res1 rfl rfl) ⟨by first | (rw [check_bad (by omega)]; done) | (rw [check_ok hr (by omega) (by unfold dOk; omega)]; done) | (rw [check_no hr (by omega) (by unfold dOk; omega)]; done), rfl⟩
         refine Wp.skip ?_
         refine Ends.seq ?_
         refine Wr ?_
         refine Oa1 rfl rfl ?_
         refine On ?_
         refine Wp.ret ?_
         exact Ends.ret (res1 rfl rfl) ⟨by first | (rw [check_bad (by omega)]; done) | (rw [check_ok hr (by omega) (by unfold dOk; omega)]; done) | (rw [check_no hr (by omega) (by unfold dOk; omega)]; done), rfl⟩
        refine Wp.skip ?_
        refine Ends.seq ?_
        refine Wp.seq ?_
        refine Wr ?_
        refine Om1 rfl rfl ?_
        refine Ops.pv (pv_not_dec rfl) rfl ?_
        refine On ?_
        refine Wp.cond_dect rfl (fun h11 => ?_) (fun h11 => ?_)
        ·
         refine Wr ?_
         refine Oa1 rfl rfl ?_
         refine On ?_
         refine Wp.ret ?_
         refine Ends.then_ret ?_
         exact Ends.ret (res1 rfl rfl) ⟨by first | (rw [check_bad (by omega)]; done) | (rw [check_ok hr (by omega) (by unfold dOk; omega)]; done) | (rw [check_no hr (by omega) (by unfold dOk; omega)]; done), rfl⟩
        refine Wp.skip ?_
        refine Ends.seq ?_
        refine Wr ?_
        refine Oa1 rfl rfl ?_
        refine On ?_
        refine Wp.ret ?_
        exact Ends.ret (res1 rfl rfl) ⟨by first | (rw [check_bad (by omega)]; done) | (rw [check_ok hr (by omega) (by unfold dOk; omega)]; done) | (rw [check_no hr (by omega) (by unfold dOk; omega)]; done), rfl⟩
       refine Wp.skip ?_
       refine Ends.seq ?_
       refine Wp.seq ?_
       refine Wr ?_
       refine Of1 rfl rfl rfl ?_
       refine Ol1 rfl rfl rfl rfl ?_
       refine Ops.pv (pv_neq rfl rfl) rfl ?_
       refine On ?_
       refine Wp.cond_dect rfl (fun h12 => ?_) (fun h12 => ?_)
       ·
        refine Wp.region ?_
        refine Om1 rfl rfl ?_
        refine Om1 rfl rfl ?_
        refine Ops.pvc rfl rfl (fun hg => pv_fieldAddr0 rfl rfl) rfl ?_
        refine Ops.pvc rfl rfl (fun hg => Pv.setE (t := 76) rfl (cv_pos hg) (pv_load rfl rfl rfl)) rfl ?_
        refine Ops.pvc rfl rfl (fun hg => Pv.setE (t := 76) rfl (cv_pos hg) (Pv.setE (t := 77) rfl (cv_pos hg) (pv_eql rfl rfl))) rfl ?_
        refine Ops.pv (pv_pick_and rfl rfl) rfl ?_
        refine Oa1 rfl rfl ?_
        refine On ?_
        refine Wp.seq ?_
        refine Wr ?_
        refine Om1 rfl rfl ?_
        refine Ops.pv (pv_not_dec rfl) rfl ?_
        refine On ?_
        refine Wp.cond_dect rfl (fun h13 => ?_) (fun h13 => ?_)
        ·
         refine Wr ?_
         refine Oa1 rfl rfl ?_
         refine On ?_
         refine Wp.ret ?_
         refine Ends.then_ret ?_
         exact Ends.ret (res1 rfl rfl) ⟨by first | (rw [check_bad (by omega)]; done) | (rw [check_ok hr (by omega) (by unfold dOk; omega)]; done) | (rw [check_no hr (by omega) (by unfold dOk; omega)]; done), rfl⟩
        refine Wp.skip ?_
        refine Ends.seq ?_
        refine Wr ?_
        refine Oa1 rfl rfl ?_
        refine On ?_
        refine Wp.ret ?_
        exact Ends.ret (res1 rfl rfl) ⟨by first | (rw [check_bad (by omega)]; done) | (rw [check_ok hr (by omega) (by unfold dOk; omega)]; done) | (rw [check_no hr (by omega) (by unfold dOk; omega)]; done), rfl⟩
       refine Wp.skip ?_
       refine Ends.seq ?_
       refine Wp.seq ?_
       refine Wr ?_
       refine Om1 rfl rfl ?_
       refine Ops.pv (pv_not_dec rfl) rfl ?_
       refine On ?_
       refine Wp.cond_dect rfl (fun h14 => ?_) (fun h14 => ?_)
       ·
        refine Wr ?_
        refine Oa1 rfl rfl ?_
        refine On ?_
        refine Wp.ret ?_
        refine Ends.then_ret ?_
        exact Ends.ret (res1 rfl rfl) ⟨by first | (rw [check_bad (by omega)]; done) | (rw [check_ok hr (by omega) (by unfold dOk; omega)]; done) | (rw [check_no hr (by omega) (by unfold dOk; omega)]; done), rfl⟩
       refine Wp.skip ?_
       refine Ends.seq ?_
       refine Wr ?_
       refine Oa1 rfl rfl ?_
       refine On ?_
       refine Wp.ret ?_
       exact Ends.ret (res1 rfl rfl) ⟨by first | (rw [check_bad (by omega)]; done) | (rw [check_ok hr (by omega) (by unfold dOk; omega)]; done) | (rw [check_no hr (by omega) (by unfold dOk; omega)]; done), rfl⟩
      refine Wp.skip ?_
      refine Ends.seq ?_
      refine Wp.seq ?_
      refine Wr ?_
      refine Of1 rfl rfl rfl ?_
      refine Ol1 rfl rfl rfl rfl ?_
      refine Ops.ef rfl (ef_callr (tr_badged c.kind) rfl rfl) ?_
      rintro _ _ ⟨rfl, rfl⟩
      refine Ops.pv (pv_not_dec rfl) rfl ?_
      refine On ?_
      refine Wp.cond_dect rfl (fun h15 => ?_) (fun h15 => ?_)
      ·
       refine Wp.region ?_
       refine Om1 rfl rfl ?_
       refine Om1 rfl rfl ?_
       refine Ops.pvc rfl rfl (fun hg => pv_fieldAddr0 rfl rfl) rfl ?_
       refine Ops.pvc rfl rfl (fun hg => Pv.setE (t := 67) rfl (cv_pos hg) (pv_load rfl rfl rfl)) rfl ?_
       refine Ops.pvc rfl rfl (fun hg => Pv.setE (t := 67) rfl (cv_pos hg) (Pv.setE (t := 68) rfl (cv_pos hg) (pv_eql rfl rfl))) rfl ?_
       refine Ops.pv (pv_pick_and rfl rfl) rfl ?_
       refine Oa1 rfl rfl ?_
       refine On ?_
       refine Wp.seq ?_
       refine Wr ?_
       refine Of1 rfl rfl rfl ?_
       refine Ol1 rfl rfl rfl rfl ?_
       refine Ops.pv (pv_neq rfl rfl) rfl ?_
       refine On ?_
       refine Wp.cond_dect rfl (fun h16 => ?_) (fun h16 => ?_)
       ·
        refine Wp.region ?_
        refine Om1 rfl rfl ?_
        refine Om1 rfl rfl ?_
        refine Ops.pvc rfl rfl (fun hg => pv_fieldAddr0 rfl rfl) rfl ?_
        refine Ops.pvc rfl rfl (fun hg => Pv.setE (t := 76) rfl (cv_pos hg) (pv_load rfl rfl rfl)) rfl ?_
        refine Ops.pvc rfl rfl (fun hg => Pv.setE (t := 76) rfl (cv_pos hg) (Pv.setE (t := 77) rfl (cv_pos hg) (pv_eql rfl rfl))) rfl ?_
        refine Ops.pv (pv_pick_and rfl rfl) rfl ?_
        refine Oa1 rfl rfl ?_
        refine On ?_
        refine Wp.seq ?_
        refine Wr ?_
        refine Om1 rfl rfl ?_
        refine Ops.pv (pv_not_dec rfl) rfl ?_
        refine On ?_
        refine Wp.cond_dect rfl (fun h17 => ?_) (fun h17 => ?_)
        ·
         refine Wr ?_
         refine Oa1 rfl rfl ?_
         refine On ?_
         refine Wp.ret ?_
         refine Ends.then_ret ?_
         exact Ends.ret (res1 rfl rfl) ⟨by first | (rw [check_bad (by omega)]; done) | (rw [check_ok hr (by omega) (by unfold dOk; omega)]; done) | (rw [check_no hr (by omega) (by unfold dOk; omega)]; done), rfl⟩
        refine Wp.skip ?_
        refine Ends.seq ?_
        refine Wr ?_
        refine Oa1 rfl rfl ?_
        refine On ?_
        refine Wp.ret ?_
        exact Ends.ret (res1 rfl rfl) ⟨by first | (rw [check_bad (by omega)]; done) | (rw [check_ok hr (by omega) (by unfold dOk; omega)]; done) | (rw [check_no hr (by omega) (by unfold dOk; omega)]; done), rfl⟩
       refine Wp.skip ?_
       refine Ends.seq ?_
       refine Wp.seq ?_
       refine Wr ?_
       refine Om1 rfl rfl ?_
       refine Ops.pv (pv_not_dec rfl) rfl ?_
       refine On ?_
       refine Wp.cond_dect rfl (fun h18 => ?_) (fun h18 => ?_)
       ·
        refine Wr ?_
        refine Oa1 rfl rfl ?_
        refine On ?_
        refine Wp.ret ?_
        refine Ends.then_ret ?_
        exact Ends.ret (res1 rfl rfl) ⟨by first | (rw [check_bad (by omega)]; done) | (rw [check_ok hr (by omega) (by unfold dOk; omega)]; done) | (rw [check_no hr (by omega) (by unfold dOk; omega)]; done), rfl⟩
       refine Wp.skip ?_
       refine Ends.seq ?_
       refine Wr ?_
       refine Oa1 rfl rfl ?_
       refine On ?_
       refine Wp.ret ?_
       exact Ends.ret (res1 rfl rfl) ⟨by first | (rw [check_bad (by omega)]; done) | (rw [check_ok hr (by omega) (by unfold dOk; omega)]; done) | (rw [check_no hr (by omega) (by unfold dOk; omega)]; done), rfl⟩
      refine Wp.skip ?_
      refine Ends.seq ?_
      refine Wp.seq ?_
      refine Wr ?_
      refine Of1 rfl rfl rfl ?_
      refine Ol1 rfl rfl rfl rfl ?_
      refine Ops.pv (pv_neq rfl rfl) rfl ?_
      refine On ?_
      refine Wp.cond_dect rfl (fun h19 => ?_) (fun h19 => ?_)
      ·
       refine Wp.region ?_
       refine Om1 rfl rfl ?_
       refine Om1 rfl rfl ?_
       refine Ops.pvc rfl rfl (fun hg => pv_fieldAddr0 rfl rfl) rfl ?_
       refine Ops.pvc rfl rfl (fun hg => Pv.setE (t := 76) rfl (cv_pos hg) (pv_load rfl rfl rfl)) rfl ?_
       refine Ops.pvc rfl rfl (fun hg => Pv.setE (t := 76) rfl (cv_pos hg) (Pv.setE (t := 77) rfl (cv_pos hg) (pv_eql rfl rfl))) rfl ?_
       refine Ops.pv (pv_pick_and rfl rfl) rfl ?_
       refine Oa1 rfl rfl ?_
       refine On ?_
       refine Wp.seq ?_
       refine Wr ?_
       refine Om1 rfl rfl ?_
       refine Ops.pv (pv_not_dec rfl) rfl ?_
       refine On ?_
       refine Wp.cond_dect rfl (fun h20 => ?_) (fun h20 => ?_)
       ·
        refine Wr ?_
        refine Oa1 rfl rfl ?_
        refine On ?_
        refine Wp.ret ?_
        refine Ends.then_ret ?_
        exact Ends.ret (res1 rfl rfl) ⟨by first | (rw [check_bad (by omega)]; done) | (rw [check_ok hr (by omega) (by unfold dOk; omega)]; done) | (rw [check_no hr (by omega) (by unfold dOk; omega)]; done), rfl⟩
       refine Wp.skip ?_
       refine Ends.seq ?_
       refine Wr ?_
       refine Oa1 rfl rfl ?_
       refine On ?_
       refine Wp.ret ?_
       exact Ends.ret (res1 rfl rfl) ⟨by first | (rw [check_bad (by omega)]; done) | (rw [check_ok hr (by omega) (by unfold dOk; omega)]; done) | (rw [check_no hr (by omega) (by unfold dOk; omega)]; done), rfl⟩
      refine Wp.skip ?_
      refine Ends.seq ?_
      refine Wp.seq ?_
      refine Wr ?_
      refine Om1 rfl rfl ?_
      refine Ops.pv (pv_not_dec rfl) rfl ?_
      refine On ?_
      refine Wp.cond_dect rfl (fun h21 => ?_) (fun h21 => ?_)
      ·
       refine Wr ?_
       refine Oa1 rfl rfl ?_
       refine On ?_
       refine Wp.ret ?_
       refine Ends.then_ret ?_
       exact Ends.ret (res1 rfl rfl) ⟨by first | (rw [check_bad (by omega)]; done) | (rw [check_ok hr (by omega) (by unfold dOk; omega)]; done) | (rw [check_no hr (by omega) (by unfold dOk; omega)]; done), rfl⟩
      refine Wp.skip ?_
      refine Ends.seq ?_
      refine Wr ?_
      refine Oa1 rfl rfl ?_
      refine On ?_
      refine Wp.ret ?_
      exact Ends.ret (res1 rfl rfl) ⟨by first | (rw [check_bad (by omega)]; done) | (rw [check_ok hr (by omega) (by unfold dOk; omega)]; done) | (rw [check_no hr (by omega) (by unfold dOk; omega)]; done), rfl⟩
     refine Os1 rfl rfl rfl rfl ?_
     refine Os1 rfl rfl rfl rfl ?_
     refine Os1 rfl rfl rfl rfl ?_
     refine Ops.pv (pv_pick_false rfl rfl) rfl ?_
     refine Oa1 rfl rfl ?_
     refine On ?_
     refine Wp.seq ?_
     refine Wr ?_
     refine Of1 rfl rfl rfl ?_
     refine Ol1 rfl rfl rfl rfl ?_
     refine Ops.ef rfl (ef_callr (tr_righted c.kind) rfl rfl) ?_
     rintro _ _ ⟨rfl, rfl⟩
     refine Ops.pv (pv_not_dec rfl) rfl ?_
     refine On ?_
     refine Wp.cond_dect rfl (fun h22 => ?_) (fun h22 => ?_)
     ·
      refine Wp.region ?_
      refine Om1 rfl rfl ?_
      refine Om1 rfl rfl ?_
      refine Os1 rfl rfl rfl rfl ?_
      refine Os1 rfl rfl rfl rfl ?_
      refine Os1 rfl rfl rfl rfl ?_
      refine Ops.pv (pv_pick_false rfl rfl) rfl ?_
      refine Oa1 rfl rfl ?_
      refine On ?_
      refine Wp.seq ?_
      refine Wr ?_
      refine Of1 rfl rfl rfl ?_
      refine Ol1 rfl rfl rfl rfl ?_
      refine Ops.ef rfl (ef_callr (tr_badged c.kind) rfl rfl) ?_
      rintro _ _ ⟨rfl, rfl⟩
      refine Ops.pv (pv_not_dec rfl) rfl ?_
      refine On ?_
      refine Wp.cond_dect rfl (fun h23 => ?_) (fun h23 => ?_)
      ·
       refine Wp.region ?_
       refine Om1 rfl rfl ?_
       refine Om1 rfl rfl ?_
       refine Os1 rfl rfl rfl rfl ?_
       refine Os1 rfl rfl rfl rfl ?_
       refine Os1 rfl rfl rfl rfl ?_
       refine Ops.pv (pv_pick_false rfl rfl) rfl ?_
       refine Oa1 rfl rfl ?_
       refine On ?_
       refine Wp.seq ?_
       refine Wr ?_
       refine Of1 rfl rfl rfl ?_
       refine Ol1 rfl rfl rfl rfl ?_
       refine Ops.pv (pv_neq rfl rfl) rfl ?_
       refine On ?_
       refine Wp.cond_dect rfl (fun h24 => ?_) (fun h24 => ?_)
       ·
        refine Wp.region ?_
        refine Om1 rfl rfl ?_
        refine Om1 rfl rfl ?_
        refine Os1 rfl rfl rfl rfl ?_
        refine Os1 rfl rfl rfl rfl ?_
        refine Os1 rfl rfl rfl rfl ?_
        refine Ops.pv (pv_pick_false rfl rfl) rfl ?_
        refine Oa1 rfl rfl ?_
        refine On ?_
        refine Wp.seq ?_
        refine Wr ?_
        refine Om1 rfl rfl ?_
        refine Ops.pv (pv_not rfl) rfl ?_
        refine On ?_
        refine Wp.cond_true rfl ?_
        refine Wr ?_
        refine Oa1 rfl rfl ?_
        refine On ?_
        refine Wp.ret ?_
        refine Ends.then_ret ?_
        exact Ends.ret (res1 rfl rfl) ⟨by first | (rw [check_bad (by omega)]; done) | (rw [check_ok hr (by omega) (by unfold dOk; omega)]; done) | (rw [check_no hr (by omega) (by unfold dOk; omega)]; done), rfl⟩
       refine Wp.skip ?_
       refine Ends.seq ?_
       refine Wp.seq ?_
       refine Wr ?_
       refine Om1 rfl rfl ?_
       refine Ops.pv (pv_not rfl) rfl ?_
       refine On ?_
       refine Wp.cond_true rfl ?_
       refine Wr ?_
       refine Oa1 rfl rfl ?_
       refine On ?_
       refine Wp.ret ?_
       refine Ends.then_ret ?_
       exact Ends.ret (res1 rfl rfl) ⟨by first | (rw [check_bad (by omega)]; done) | (rw [check_ok hr (by omega) (by unfold dOk; omega)]; done) | (rw [check_no hr (by omega) (by unfold dOk; omega)]; done), rfl⟩
      refine Wp.skip ?_
      refine Ends.seq ?_
      refine Wp.seq ?_
      refine Wr ?_
      refine Of1 rfl rfl rfl ?_
      refine Ol1 rfl rfl rfl rfl ?_
      refine Ops.pv (pv_neq rfl rfl) rfl ?_
      refine On ?_
      refine Wp.cond_dect rfl (fun h25 => ?_) (fun h25 => ?_)
      ·
       refine Wp.region ?_
       refine Om1 rfl rfl ?_
       refine Om1 rfl rfl ?_
       refine Os1 rfl rfl rfl rfl ?_
       refine Os1 rfl rfl rfl rfl ?_
       refine Os1 rfl rfl rfl rfl ?_
       refine Ops.pv (pv_pick_false rfl rfl) rfl ?_
       refine Oa1 rfl rfl ?_
       refine On ?_
       refine Wp.seq ?_
       refine Wr ?_
       refine Om1 rfl rfl ?_
       refine Ops.pv (pv_not rfl) rfl ?_
       refine On ?_
       refine Wp.cond_true rfl ?_
       refine Wr ?_
       refine Oa1 rfl rfl ?_
       refine On ?_
       refine Wp.ret ?_
       refine Ends.then_ret ?_
       exact Ends.ret (res1 rfl rfl) ⟨by first | (rw [check_bad (by omega)]; done) | (rw [check_ok hr (by omega) (by unfold dOk; omega)]; done) | (rw [check_no hr (by omega) (by unfold dOk; omega)]; done), rfl⟩
      refine Wp.skip ?_
      refine Ends.seq ?_
      refine Wp.seq ?_
      refine Wr ?_
      refine Om1 rfl rfl ?_
      refine Ops.pv (pv_not rfl) rfl ?_
      refine On ?_
      refine Wp.cond_true rfl ?_
      refine Wr ?_
      refine Oa1 rfl rfl ?_
      refine On ?_
      refine Wp.ret ?_
      refine Ends.then_ret ?_
      exact Ends.ret (res1 rfl rfl) ⟨by first | (rw [check_bad (by omega)]; done) | (rw [check_ok hr (by omega) (by unfold dOk; omega)]; done) | (rw [check_no hr (by omega) (by unfold dOk; omega)]; done), rfl⟩
     refine Wp.skip ?_
     refine Ends.seq ?_
     refine Wp.seq ?_
     refine Wr ?_
     refine Of1 rfl rfl rfl ?_
     refine Ol1 rfl rfl rfl rfl ?_
     refine Ops.ef rfl (ef_callr (tr_badged c.kind) rfl rfl) ?_
     rintro _ _ ⟨rfl, rfl⟩
     refine Ops.pv (pv_not_dec rfl) rfl ?_
     refine On ?_
     refine Wp.cond_dect rfl (fun h26 => ?_) (fun h26 => ?_)
     ·
      refine Wp.region ?_
      refine Om1 rfl rfl ?_
      refine Om1 rfl rfl ?_
      refine Os1 rfl rfl rfl rfl ?_
      refine Os1 rfl rfl rfl rfl ?_
      refine Os1 rfl rfl rfl rfl ?_
      refine Ops.pv (pv_pick_false rfl rfl) rfl ?_
      refine Oa1 rfl rfl ?_
      refine On ?_
      refine Wp.seq ?_
      refine Wr ?_
      refine Of1 rfl rfl rfl ?_
      refine Ol1 rfl rfl rfl rfl ?_
      refine Ops.pv (pv_neq rfl rfl) rfl ?_
      refine On ?_
      refine Wp.cond_dect rfl (fun h27 => ?_) (fun h27 => ?_)
      ·
       refine Wp.region ?_
       refine Om1 rfl rfl ?_
       refine Om1 rfl rfl ?_
       refine Os1 rfl rfl rfl rfl ?_
       refine Os1 rfl rfl rfl rfl ?_
       refine Os1 rfl rfl rfl rfl ?_
       refine Ops.pv (pv_pick_false rfl rfl) rfl ?_
       refine Oa1 rfl rfl ?_
       refine On ?_
       refine Wp.seq ?_
       refine Wr ?_
       refine Om1 rfl rfl ?_
       refine Ops.pv (pv_not rfl) rfl ?_
       refine On ?_
       refine Wp.cond_true rfl ?_
       refine Wr ?_
       refine Oa1 rfl rfl ?_
       refine On ?_
       refine Wp.ret ?_
       refine Ends.then_ret ?_
       exact Ends.ret (res1 rfl rfl) ⟨by first | (rw [check_bad (by omega)]; done) | (rw [check_ok hr (by omega) (by unfold dOk; omega)]; done) | (rw [check_no hr (by omega) (by unfold dOk; omega)]; done), rfl⟩
      refine Wp.skip ?_
      refine Ends.seq ?_
      refine Wp.seq ?_
      refine Wr ?_
      refine Om1 rfl rfl ?_
      refine Ops.pv (pv_not rfl) rfl ?_
      refine On ?_
      refine Wp.cond_true rfl ?_
      refine Wr ?_
      refine Oa1 rfl rfl ?_
      refine On ?_
      refine Wp.ret ?_
      refine Ends.then_ret ?_
      exact Ends.ret (res1 rfl rfl) ⟨by first | (rw [check_bad (by omega)]; done) | (rw [check_ok hr (by omega) (by unfold dOk; omega)]; done) | (rw [check_no hr (by omega) (by unfold dOk; omega)]; done), rfl⟩
     refine Wp.skip ?_
     refine Ends.seq ?_
     refine Wp.seq ?_
     refine Wr ?_
     refine Of1 rfl rfl rfl ?_
     refine Ol1 rfl rfl rfl rfl ?_
     refine Ops.pv (pv_neq rfl rfl) rfl ?_
     refine On ?_
     refine Wp.cond_dect rfl (fun h28 => ?_) (fun h28 => ?_)
     ·
      refine Wp.region ?_
      refine Om1 rfl rfl ?_
      refine Om1 rfl rfl ?_
      refine Os1 rfl rfl rfl rfl ?_
      refine Os1 rfl rfl rfl rfl ?_
      refine Os1 rfl rfl rfl rfl ?_
      refine Ops.pv (pv_pick_false rfl rfl) rfl ?_
      refine Oa1 rfl rfl ?_
      refine On ?_
      refine Wp.seq ?_
      refine Wr ?_
      refine Om1 rfl rfl ?_
      refine Ops.pv (pv_not rfl) rfl ?_
      refine On ?_
      refine Wp.cond_true rfl ?_
      refine Wr ?_
      refine Oa1 rfl rfl ?_
      refine On ?_
      refine Wp.ret ?_
      refine Ends.then_ret ?_
      exact Ends.ret (res1 rfl rfl) ⟨by first | (rw [check_bad (by omega)]; done) | (rw [check_ok hr (by omega) (by unfold dOk; omega)]; done) | (rw [check_no hr (by omega) (by unfold dOk; omega)]; done), rfl⟩
     refine Wp.skip ?_
     refine Ends.seq ?_
     refine Wp.seq ?_
     refine Wr ?_
     refine Om1 rfl rfl ?_
     refine Ops.pv (pv_not rfl) rfl ?_
     refine On ?_
     refine Wp.cond_true rfl ?_
     refine Wr ?_
     refine Oa1 rfl rfl ?_
     refine On ?_
     refine Wp.ret ?_
     refine Ends.then_ret ?_
     exact Ends.ret (res1 rfl rfl) ⟨by first | (rw [check_bad (by omega)]; done) | (rw [check_ok hr (by omega) (by unfold dOk; omega)]; done) | (rw [check_no hr (by omega) (by unfold dOk; omega)]; done), rfl⟩
    refine Wp.skip ?_
    refine Ends.seq ?_
    refine Wp.seq ?_
    refine Wr ?_
    refine Of1 rfl rfl rfl ?_
    refine Ol1 rfl rfl rfl rfl ?_
    refine Ops.ef rfl (ef_callr (tr_righted c.kind) rfl rfl) ?_
    rintro _ _ ⟨rfl, rfl⟩
    refine Ops.pv (pv_not_dec rfl) rfl ?_
    refine On ?_
    refine Wp.cond_dect rfl (fun h29 => ?_) (fun h29 => ?_)
    ·
     refine Wp.region ?_
     refine Om1 rfl rfl ?_
     refine Om1 rfl rfl ?_
     refine Ops.split (t := 56) rfl (fun h30 => ?_) (fun h30 => ?_)
     ·
      refine Ops.pvg ⟨_, _, rfl, rfl, rfl⟩ (pv_fieldAddr0 rfl rfl) rfl ?_
      refine Ops.pvg ⟨_, _, rfl, rfl, rfl⟩ (pv_load rfl rfl rfl) rfl ?_
      refine Ops.pvg ⟨_, _, rfl, rfl, rfl⟩ (pv_eql rfl rfl) rfl ?_
      refine Ops.pv (pv_pick_true rfl rfl) rfl ?_
      refine Oa1 rfl rfl ?_
      refine On ?_
      refine Wp.seq ?_
      refine Wr ?_
      refine Of1 rfl rfl rfl ?_
      refine Ol1 rfl rfl rfl rfl ?_
      refine Ops.ef rfl (ef_callr (tr_badged c.kind) rfl rfl) ?_
      rintro _ _ ⟨rfl, rfl⟩
      refine Ops.pv (pv_not_dec rfl) rfl ?_
      refine On ?_
      refine Wp.cond_dect rfl (fun h31 => ?_) (fun h31 => ?_)
      ·
       refine Wp.region ?_
       refine Om1 rfl rfl ?_
       refine Om1 rfl rfl ?_
       refine Ops.pvc rfl rfl (fun hg => pv_fieldAddr0 rfl rfl) rfl ?_
       refine Ops.pvc rfl rfl (fun hg => Pv.setE (t := 67) rfl (cv_pos hg) (pv_load rfl rfl rfl)) rfl ?_
       refine Ops.pvc rfl rfl (fun hg => Pv.setE (t := 67) rfl (cv_pos hg) (Pv.setE (t := 68) rfl (cv_pos hg) (pv_eql rfl rfl))) rfl ?_
       refine Ops.pv (pv_pick_and rfl rfl) rfl ?_
       refine Oa1 rfl rfl ?_
       refine On ?_
       refine Wp.seq ?_
       refine Wr ?_
       refine Of1 rfl rfl rfl ?_
       refine Ol1 rfl rfl rfl rfl ?_
       refine Ops.pv (pv_neq rfl rfl) rfl ?_
       refine On ?_
       refine Wp.cond_dect rfl (fun h32 => ?_) (fun h32 => ?_)
       ·
        refine Wp.region ?_
        refine Om1 rfl rfl ?_
        refine Om1 rfl rfl ?_
        refine Ops.pvc rfl rfl (fun hg => pv_fieldAddr0 rfl rfl) rfl ?_
        refine Ops.pvc rfl rfl (fun hg => Pv.setE (t := 76) rfl (cv_pos hg) (pv_load rfl rfl rfl)) rfl ?_
        refine Ops.pvc rfl rfl (fun hg => Pv.setE (t := 76) rfl (cv_pos hg) (Pv.setE (t := 77) rfl (cv_pos hg) (pv_eql rfl rfl))) rfl ?_
        refine Ops.pv (pv_pick_and rfl rfl) rfl ?_
        refine Oa1 rfl rfl ?_
        refine On ?_
        refine Wp.seq ?_
        refine Wr ?_
        refine Om1 rfl rfl ?_
        refine Ops.pv (pv_not_dec rfl) rfl ?_
        refine On ?_
        refine Wp.cond_dect rfl (fun h33 => ?_) (fun h33 => ?_)
        ·
         refine Wr ?_
         refine Oa1 rfl rfl ?_
         refine On ?_
         refine Wp.ret ?_
         refine Ends.then_ret ?_
         exact Ends.ret (res1 rfl rfl) ⟨by first | (rw [check_bad (by omega)]; done) | (rw [check_ok hr (by omega) (by unfold dOk; omega)]; done) | (rw [check_no hr (by omega) (by unfold dOk; omega)]; done), rfl⟩
        refine Wp.skip ?_
        refine Ends.seq ?_
        refine Wr ?_
        refine Oa1 rfl rfl ?_
        refine On ?_
        refine Wp.ret ?_
        exact Ends.ret (res1 rfl rfl) ⟨by first | (rw [check_bad (by omega)]; done) | (rw [check_ok hr (by omega) (by unfold dOk; omega)]; done) | (rw [check_no hr (by omega) (by unfold dOk; omega)]; done), rfl⟩
       refine Wp.skip ?_
       refine Ends.seq ?_
       refine Wp.seq ?_
       refine Wr ?_
       refine Om1 rfl rfl ?_
       refine Ops.pv (pv_not_dec rfl) rfl ?_
       refine On ?_
       refine Wp.cond_dect rfl (fun h34 => ?_) (fun h34 => ?_)
       ·
        refine Wr ?_
        refine Oa1 rfl rfl ?_
        refine On ?_
        refine Wp.ret ?_
        refine Ends.then_ret ?_
        exact Ends.ret (res1 rfl rfl) ⟨by first | (rw [check_bad (by omega)]; done) | (rw [check_ok hr (by omega) (by unfold dOk; omega)]; done) | (rw [check_no hr (by omega) (by unfold dOk; omega)]; done), rfl⟩
       refine Wp.skip ?_
       refine Ends.seq ?_
       refine Wr ?_
       refine Oa1 rfl rfl ?_
       refine On ?_
       refine Wp.ret ?_
       exact Ends.ret (res1 rfl rfl) ⟨by first | (rw [check_bad (by omega)]; done) | (rw [check_ok hr (by omega) (by unfold dOk; omega)]; done) | (rw [check_no hr (by omega) (by unfold dOk; omega)]; done), rfl⟩
      refine Wp.skip ?_
      refine Ends.seq ?_
      refine Wp.seq ?_
      refine Wr ?_
      refine Of1 rfl rfl rfl ?_
      refine Ol1 rfl rfl rfl rfl ?_
      refine Ops.pv (pv_neq rfl rfl) rfl ?_
      refine On ?_
      refine Wp.cond_dect rfl (fun h35 => ?_) (fun h35 => ?_)
      ·
       refine Wp.region ?_
       refine Om1 rfl rfl ?_
       refine Om1 rfl rfl ?_
       refine Ops.pvc rfl rfl (fun hg => pv_fieldAddr0 rfl rfl) rfl ?_
       refine Ops.pvc rfl rfl (fun hg => Pv.setE (t := 76) rfl (cv_pos hg) (pv_load rfl rfl rfl)) rfl ?_
       refine Ops.pvc rfl rfl (fun hg => Pv.setE (t := 76) rfl (cv_pos hg) (Pv.setE (t := 77) rfl (cv_pos hg) (pv_eql rfl rfl))) rfl ?_
       refine Ops.pv (pv_pick_and rfl rfl) rfl ?_
       refine Oa1 rfl rfl ?_
       refine On ?_
       refine Wp.seq ?_
       refine Wr ?_
       refine Om1 rfl rfl ?_
       refine Ops.pv (pv_not_dec rfl) rfl ?_
       refine On ?_
       refine Wp.cond_dect rfl (fun h36 => ?_) (fun h36 => ?_)
       ·
        refine Wr ?_
        refine Oa1 rfl rfl ?_
        refine On ?_
        refine Wp.ret ?_
        refine Ends.then_ret ?_
        exact Ends.ret (res1 rfl rfl) ⟨by first | (rw [check_bad (by omega)]; done) | (rw [check_ok hr (by omega) (by unfold dOk; omega)]; done) | (rw [check_no hr (by omega) (by unfold dOk; omega)]; done), rfl⟩
       refine Wp.skip ?_
       refine Ends.seq ?_
       refine Wr ?_
       refine Oa1 rfl rfl ?_
       refine On ?_
       refine Wp.ret ?_
       exact Ends.ret (res1 rfl rfl) ⟨by first | (rw [check_bad (by omega)]; done) | (rw [check_ok hr (by omega) (by unfold dOk; omega)]; done) | (rw [check_no hr (by omega) (by unfold dOk; omega)]; done), rfl⟩
      refine Wp.skip ?_
      refine Ends.seq ?_
      refine Wp.seq ?_
      refine Wr ?_
      refine Om1 rfl rfl ?_
      refine Ops.pv (pv_not_dec rfl) rfl ?_
      refine On ?_
      refine Wp.cond_dect rfl (fun h37 => ?_) (fun h37 => ?_)
      ·
       refine Wr ?_
       refine Oa1 rfl rfl ?_
       refine On ?_
       refine Wp.ret ?_
       refine Ends.then_ret ?_
       exact Ends.ret (res1 rfl rfl) ⟨by first | (rw [check_bad (by omega)]; done) | (rw [check_ok hr (by omega) (by unfold dOk; omega)]; done) | (rw [check_no hr (by omega) (by unfold dOk; omega)]; done), rfl⟩
      refine Wp.skip ?_
      refine Ends.seq ?_
      refine Wr ?_
      refine Oa1 rfl rfl ?_
      refine On ?_
      refine Wp.ret ?_
      exact Ends.ret (res1 rfl rfl) ⟨by first | (rw [check_bad (by omega)]; done) | (rw [check_ok hr (by omega) (by unfold dOk; omega)]; done) | (rw [check_no hr (by omega) (by unfold dOk; omega)]; done), rfl⟩
     refine Os1 rfl rfl rfl rfl ?_
     refine Os1 rfl rfl rfl rfl ?_
     refine Os1 rfl rfl rfl rfl ?_
     refine Ops.pv (pv_pick_false rfl rfl) rfl ?_
     refine Oa1 rfl rfl ?_
     refine On ?_
     refine Wp.seq ?_
     refine Wr ?_
     refine Of1 rfl rfl rfl ?_
     refine Ol1 rfl rfl rfl rfl ?_
     refine Ops.ef rfl (ef_callr (tr_badged c.kind) rfl rfl) ?_
     rintro _ _ ⟨rfl, rfl⟩
     refine Ops.pv (pv_not_dec rfl) rfl ?_
     refine On ?_
     refine Wp.cond_dect rfl (fun h38 => ?_) (fun h38 => ?_)
     ·
      refine Wp.region ?_
      refine Om1 rfl rfl ?_
      refine Om1 rfl rfl ?_
      refine Os1 rfl rfl rfl rfl ?_
      refine Os1 rfl rfl rfl rfl ?_
      refine Os1 rfl rfl rfl rfl ?_
      refine Ops.pv (pv_pick_false rfl rfl) rfl ?_
      refine Oa1 rfl rfl ?_
      refine On ?_
      refine Wp.seq ?_
      refine Wr ?_
      refine Of1 rfl rfl rfl ?_
      refine Ol1 rfl rfl rfl rfl ?_
      refine Ops.pv (pv_neq rfl rfl) rfl ?_
      refine On ?_
      refine Wp.cond_dect rfl (fun h39 => ?_) (fun h39 => ?_)
      ·
       refine Wp.region ?_
       refine Om1 rfl rfl ?_
       refine Om1 rfl rfl ?_
       refine Os1 rfl rfl rfl rfl ?_
       refine Os1 rfl rfl rfl rfl ?_
       refine Os1 rfl rfl rfl rfl ?_
       refine Ops.pv (pv_pick_false rfl rfl) rfl ?_
       refine Oa1 rfl rfl ?_
       refine On ?_
       refine Wp.seq ?_
       refine Wr ?_
       refine Om1 rfl rfl ?_
       refine Ops.pv (pv_not rfl) rfl ?_
       refine On ?_
       refine Wp.cond_true rfl ?_
       refine Wr ?_
       refine Oa1 rfl rfl ?_
       refine On ?_
       refine Wp.ret ?_
       refine Ends.then_ret ?_
       exact Ends.ret (res1 rfl rfl) ⟨by first | (rw [check_bad (by omega)]; done) | (rw [check_ok hr (by omega) (by unfold dOk; omega)]; done) | (rw [check_no hr (by omega) (by unfold dOk; omega)]; done), rfl⟩
      refine Wp.skip ?_
      refine Ends.seq ?_
      refine Wp.seq ?_
      refine Wr ?_
      refine Om1 rfl rfl ?_
      refine Ops.pv (pv_not rfl) rfl ?_
      refine On ?_
      refine Wp.cond_true rfl ?_
      refine Wr ?_
      refine Oa1 rfl rfl ?_
      refine On ?_
      refine Wp.ret ?_
      refine Ends.then_ret ?_
      exact Ends.ret (res1 rfl rfl) ⟨by first | (rw [check_bad (by omega)]; done) | (rw [check_ok hr (by omega) (by unfold dOk; omega)]; done) | (rw [check_no hr (by omega) (by unfold dOk; omega)]; done), rfl⟩
     refine Wp.skip ?_
     refine Ends.seq ?_
     refine Wp.seq ?_
     refine Wr ?_
     refine Of1 rfl rfl rfl ?_
     refine Ol1 rfl rfl rfl rfl ?_
     refine Ops.pv (pv_neq rfl rfl) rfl ?_
     refine On ?_
     refine Wp.cond_dect rfl (fun h40 => ?_) (fun h40 => ?_)
     ·
      refine Wp.region ?_
      refine Om1 rfl rfl ?_
      refine Om1 rfl rfl ?_
      refine Os1 rfl rfl rfl rfl ?_
      refine Os1 rfl rfl rfl rfl ?_
      refine Os1 rfl rfl rfl rfl ?_
      refine Ops.pv (pv_pick_false rfl rfl) rfl ?_
      refine Oa1 rfl rfl ?_
      refine On ?_
      refine Wp.seq ?_
      refine Wr ?_
      refine Om1 rfl rfl ?_
      refine Ops.pv (pv_not rfl) rfl ?_
      refine On ?_
      refine Wp.cond_true rfl ?_
      refine Wr ?_
      refine Oa1 rfl rfl ?_
      refine On ?_
      refine Wp.ret ?_
      refine Ends.then_ret ?_
      exact Ends.ret (res1 rfl rfl) ⟨by first | (rw [check_bad (by omega)]; done) | (rw [check_ok hr (by omega) (by unfold dOk; omega)]; done) | (rw [check_no hr (by omega) (by unfold dOk; omega)]; done), rfl⟩
     refine Wp.skip ?_
     refine Ends.seq ?_
     refine Wp.seq ?_
     refine Wr ?_
     refine Om1 rfl rfl ?_
     refine Ops.pv (pv_not rfl) rfl ?_
     refine On ?_
     refine Wp.cond_true rfl ?_
     refine Wr ?_
     refine Oa1 rfl rfl ?_
     refine On ?_
     refine Wp.ret ?_
     refine Ends.then_ret ?_
     exact Ends.ret (res1 rfl rfl) ⟨by first | (rw [check_bad (by omega)]; done) | (rw [check_ok hr (by omega) (by unfold dOk; omega)]; done) | (rw [check_no hr (by omega) (by unfold dOk; omega)]; done), rfl⟩
    refine Wp.skip ?_
    refine Ends.seq ?_
    refine Wp.seq ?_
    refine Wr ?_
    refine Of1 rfl rfl rfl ?_
    refine Ol1 rfl rfl rfl rfl ?_
    refine Ops.ef rfl (ef_callr (tr_badged c.kind) rfl rfl) ?_
    rintro _ _ ⟨rfl, rfl⟩
    refine Ops.pv (pv_not_dec rfl) rfl ?_
    refine On ?_
    refine Wp.cond_dect rfl (fun h41 => ?_) (fun h41 => ?_)
    ·
     refine Wp.region ?_
     refine Om1 rfl rfl ?_
     refine Om1 rfl rfl ?_
     refine Ops.split (t := 66) rfl (fun h42 => ?_) (fun h42 => ?_)
     ·
      refine Ops.pvg ⟨_, _, rfl, rfl, rfl⟩ (pv_fieldAddr0 rfl rfl) rfl ?_
      refine Ops.pvg ⟨_, _, rfl, rfl, rfl⟩ (pv_load rfl rfl rfl) rfl ?_
      refine Ops.pvg ⟨_, _, rfl, rfl, rfl⟩ (pv_eql rfl rfl) rfl ?_
      refine Ops.pv (pv_pick_true rfl rfl) rfl ?_
      refine Oa1 rfl rfl ?_
      refine On ?_
      refine Wp.seq ?_
      refine Wr ?_
      refine Of1 rfl rfl rfl ?_
      refine Ol1 rfl rfl rfl rfl ?_
      refine Ops.pv (pv_neq rfl rfl) rfl ?_
      refine On ?_
      refine Wp.cond_dect rfl (fun h43 => ?_) (fun h43 => ?_)
      ·
       refine Wp.region ?_
       refine Om1 rfl rfl ?_
       refine Om1 rfl rfl ?_
       refine Ops.pvc rfl rfl (fun hg => pv_fieldAddr0 rfl rfl) rfl ?_
       refine Ops.pvc rfl rfl (fun hg => Pv.setE (t := 76) rfl (cv_pos hg) (pv_load rfl rfl rfl)) rfl ?_
       refine Ops.pvc rfl rfl (fun hg => Pv.setE (t := 76) rfl (cv_pos hg) (Pv.setE (t := 77) rfl (cv_pos hg) (pv_eql rfl rfl))) rfl ?_
       refine Ops.pv (pv_pick_and rfl rfl) rfl ?_
       refine Oa1 rfl rfl ?_
       refine On ?_
       refine Wp.seq ?_
       refine Wr ?_
       refine Om1 rfl rfl ?_
       refine Ops.pv (pv_not_dec rfl) rfl ?_
       refine On ?_
       refine Wp.cond_dect rfl (fun h44 => ?_) (fun h44 => ?_)
       ·
        refine Wr ?_
        refine Oa1 rfl rfl ?_
        refine On ?_
        refine Wp.ret ?_
        refine Ends.then_ret ?_
        exact Ends.ret (res1 rfl rfl) ⟨by first | (rw [check_bad (by omega)]; done) | (rw [check_ok hr (by omega) (by unfold dOk; omega)]; done) | (rw [check_no hr (by omega) (by unfold dOk; omega)]; done), rfl⟩
       refine Wp.skip ?_
       refine Ends.seq ?_
       refine Wr ?_
       refine Oa1 rfl rfl ?_
       refine On ?_
       refine Wp.ret ?_
       exact Ends.ret (res1 rfl rfl) ⟨by first | (rw [check_bad (by omega)]; done) | (rw [check_ok hr (by omega) (by unfold dOk; omega)]; done) | (rw [check_no hr (by omega) (by unfold dOk; omega)]; done), rfl⟩
      refine Wp.skip ?_
      refine Ends.seq ?_
      refine Wp.seq ?_
      refine Wr ?_
      refine Om1 rfl rfl ?_
      refine Ops.pv (pv_not_dec rfl) rfl ?_
      refine On ?_
      refine Wp.cond_dect rfl (fun h45 => ?_) (fun h45 => ?_)
      ·
       refine Wr ?_
       refine Oa1 rfl rfl ?_
       refine On ?_
       refine Wp.ret ?_
       refine Ends.then_ret ?_
       exact Ends.ret (res1 rfl rfl) ⟨by first | (rw [check_bad (by omega)]; done) | (rw [check_ok hr (by omega) (by unfold dOk; omega)]; done) | (rw [check_no hr (by omega) (by unfold dOk; omega)]; done), rfl⟩
      refine Wp.skip ?_
      refine Ends.seq ?_
      refine Wr ?_
      refine Oa1 rfl rfl ?_
      refine On ?_
      refine Wp.ret ?_
      exact Ends.ret (res1 rfl rfl) ⟨by first | (rw [check_bad (by omega)]; done) | (rw [check_ok hr (by omega) (by unfold dOk; omega)]; done) | (rw [check_no hr (by omega) (by unfold dOk; omega)]; done), rfl⟩
     refine Os1 rfl rfl rfl rfl ?_
     refine Os1 rfl rfl rfl rfl ?_
     refine Os1 rfl rfl rfl rfl ?_
     refine Ops.pv (pv_pick_false rfl rfl) rfl ?_
     refine Oa1 rfl rfl ?_
     refine On ?_
     refine Wp.seq ?_
     refine Wr ?_
     refine Of1 rfl rfl rfl ?_
     refine Ol1 rfl rfl rfl rfl ?_
     refine Ops.pv (pv_neq rfl rfl) rfl ?_
     refine On ?_
     refine Wp.cond_dect rfl (fun h46 => ?_) (fun h46 => ?_)
     ·
      refine Wp.region ?_
      refine Om1 rfl rfl ?_
      refine Om1 rfl rfl ?_
      refine Os1 rfl rfl rfl rfl ?_
      refine Os1 rfl rfl rfl rfl ?_
      refine Os1 rfl rfl rfl rfl ?_
      refine Ops.pv (pv_pick_false rfl rfl) rfl ?_
      refine Oa1 rfl rfl ?_
      refine On ?_
      refine Wp.seq ?_
      refine Wr ?_
      refine Om1 rfl rfl ?_
      refine Ops.pv (pv_not rfl) rfl ?_
      refine On ?_
      refine Wp.cond_true rfl ?_
      refine Wr ?_
      refine Oa1 rfl rfl ?_
      refine On ?_
      refine Wp.ret ?_
      refine Ends.then_ret ?_
      exact Ends.ret (res1 rfl rfl) ⟨by first | (rw [check_bad (by omega)]; done) | (rw [check_ok hr (by omega) (by unfold dOk; omega)]; done) | (rw [check_no hr (by omega) (by unfold dOk; omega)]; done), rfl⟩
     refine Wp.skip ?_
     refine Ends.seq ?_
     refine Wp.seq ?_
     refine Wr ?_
     refine Om1 rfl rfl ?_
     refine Ops.pv (pv_not rfl) rfl ?_
     refine On ?_
     refine Wp.cond_true rfl ?_
     refine Wr ?_
     refine Oa1 rfl rfl ?_
     refine On ?_
     refine Wp.ret ?_
     refine Ends.then_ret ?_
     exact Ends.ret (res1 rfl rfl) ⟨by first | (rw [check_bad (by omega)]; done) | (rw [check_ok hr (by omega) (by unfold dOk; omega)]; done) | (rw [check_no hr (by omega) (by unfold dOk; omega)]; done), rfl⟩
    refine Wp.skip ?_
    refine Ends.seq ?_
    refine Wp.seq ?_
    refine Wr ?_
    refine Of1 rfl rfl rfl ?_
    refine Ol1 rfl rfl rfl rfl ?_
    refine Ops.pv (pv_neq rfl rfl) rfl ?_
    refine On ?_
    refine Wp.cond_dect rfl (fun h47 => ?_) (fun h47 => ?_)
    ·
     refine Wp.region ?_
     refine Om1 rfl rfl ?_
     refine Om1 rfl rfl ?_
     refine Ops.split (t := 75) rfl (fun h48 => ?_) (fun h48 => ?_)
     ·
      refine Ops.pvg ⟨_, _, rfl, rfl, rfl⟩ (pv_fieldAddr0 rfl rfl) rfl ?_
      refine Ops.pvg ⟨_, _, rfl, rfl, rfl⟩ (pv_load rfl rfl rfl) rfl ?_
      refine Ops.pvg ⟨_, _, rfl, rfl, rfl⟩ (pv_eql rfl rfl) rfl ?_
      refine Ops.pv (pv_pick_true rfl rfl) rfl ?_
      refine Oa1 rfl rfl ?_
      refine On ?_
      refine Wp.seq ?_
      refine Wr ?_
      refine Om1 rfl rfl ?_
      refine Ops.pv (pv_not_dec rfl) rfl ?_
      refine On ?_
      refine Wp.cond_dect rfl (fun h49 => ?_) (fun h49 => ?_)
      ·
       refine Wr ?_
       refine Oa1 rfl rfl ?_
       refine On ?_
       refine Wp.ret ?_
       refine Ends.then_ret ?_
       exact Ends.ret (res1 rfl rfl) ⟨by first | (rw [check_bad (by omega)]; done) | (rw [check_ok hr (by omega) (by unfold dOk; omega)]; done) | (rw [check_no hr (by omega) (by unfold dOk; omega)]; done), rfl⟩
      refine Wp.skip ?_
      refine Ends.seq ?_
      refine Wr ?_
      refine Oa1 rfl rfl ?_
      refine On ?_
      refine Wp.ret ?_
      exact Ends.ret (res1 rfl rfl) ⟨by first | (rw [check_bad (by omega)]; done) | (rw [check_ok hr (by omega) (by unfold dOk; omega)]; done) | (rw [check_no hr (by omega) (by unfold dOk; omega)]; done), rfl⟩
     refine Os1 rfl rfl rfl rfl ?_
     refine Os1 rfl rfl rfl rfl ?_
     refine Os1 rfl rfl rfl rfl ?_
     refine Ops.pv (pv_pick_false rfl rfl) rfl ?_
     refine Oa1 rfl rfl ?_
     refine On ?_
     refine Wp.seq ?_
     refine Wr ?_
     refine Om1 rfl rfl ?_
     refine Ops.pv (pv_not rfl) rfl ?_
     refine On ?_
     refine Wp.cond_true rfl ?_
     refine Wr ?_
     refine Oa1 rfl rfl ?_
     refine On ?_
     refine Wp.ret ?_
     refine Ends.then_ret ?_
     exact Ends.ret (res1 rfl rfl) ⟨by first | (rw [check_bad (by omega)]; done) | (rw [check_ok hr (by omega) (by unfold dOk; omega)]; done) | (rw [check_no hr (by omega) (by unfold dOk; omega)]; done), rfl⟩
    refine Wp.skip ?_
    refine Ends.seq ?_
    refine Wp.seq ?_
    refine Wr ?_
    refine Om1 rfl rfl ?_
    refine Ops.pv (pv_not_dec rfl) rfl ?_
    refine On ?_
    refine Wp.cond_dect rfl (fun h50 => ?_) (fun h50 => ?_)
    ·
     refine Wr ?_
     refine Oa1 rfl rfl ?_
     refine On ?_
     refine Wp.ret ?_
     refine Ends.then_ret ?_
     exact Ends.ret (res1 rfl rfl) ⟨by first | (rw [check_bad (by omega)]; done) | (rw [check_ok hr (by omega) (by unfold dOk; omega)]; done) | (rw [check_no hr (by omega) (by unfold dOk; omega)]; done), rfl⟩
    refine Wp.skip ?_
    refine Ends.seq ?_
    refine Wr ?_
    refine Oa1 rfl rfl ?_
    refine On ?_
    refine Wp.ret ?_
    exact Ends.ret (res1 rfl rfl) ⟨by first | (rw [check_bad (by omega)]; done) | (rw [check_ok hr (by omega) (by unfold dOk; omega)]; done) | (rw [check_no hr (by omega) (by unfold dOk; omega)]; done), rfl⟩
   refine Os1 rfl rfl rfl rfl ?_
   refine Os1 rfl rfl rfl rfl ?_
   refine Os1 rfl rfl rfl rfl ?_
   refine Os1 rfl rfl rfl rfl ?_
   refine Os1 rfl rfl rfl rfl ?_
   refine Ops.pv (pv_pick_false rfl rfl) rfl ?_
   refine Oa1 rfl rfl ?_
   refine On ?_
   refine Wp.seq ?_
   refine Wr ?_
   refine Of1 rfl rfl rfl ?_
   refine Ol1 rfl rfl rfl rfl ?_
   refine Ops.pv (pv_eql rfl rfl) rfl ?_
   refine Om1 rfl rfl ?_
   refine Ops.pvcn rfl rfl (fun hg => pv_fieldAddr0 rfl rfl) rfl ?_
   refine Ops.pvcn rfl rfl (fun hg => Pv.setE (t := 41) rfl (cv_pos hg) (pv_load rfl rfl rfl)) rfl ?_
   refine Ops.pvcn rfl rfl (fun hg => Pv.setE (t := 41) rfl (cv_pos hg) (Pv.setE (t := 42) rfl (cv_pos hg) (pv_eql rfl rfl))) rfl ?_
   refine Ops.pv (pv_pick_or rfl rfl) rfl ?_
   refine On ?_
   refine Wp.cond_dect rfl (fun h51 => ?_) (fun h51 => ?_)
   ·
    refine Wp.region ?_
    refine Om1 rfl rfl ?_
    refine Om1 rfl rfl ?_
    refine Os1 rfl rfl rfl rfl ?_
    refine Os1 rfl rfl rfl rfl ?_
    refine Os1 rfl rfl rfl rfl ?_
    refine Ops.pv (pv_pick_false rfl rfl) rfl ?_
    refine Oa1 rfl rfl ?_
    refine On ?_
    refine Wp.seq ?_
    refine Wr ?_
    refine Of1 rfl rfl rfl ?_
    refine Ol1 rfl rfl rfl rfl ?_
    refine Ops.ef rfl (ef_callr (tr_righted c.kind) rfl rfl) ?_
    rintro _ _ ⟨rfl, rfl⟩
    refine Ops.pv (pv_not_dec rfl) rfl ?_
    refine On ?_
    refine Wp.cond_dect rfl (fun h52 => ?_) (fun h52 => ?_)
    ·
     refine Wp.region ?_
     refine Om1 rfl rfl ?_
     refine Om1 rfl rfl ?_
     refine Os1 rfl rfl rfl rfl ?_
     refine Os1 rfl rfl rfl rfl ?_
     refine Os1 rfl rfl rfl rfl ?_
     refine Ops.pv (pv_pick_false rfl rfl) rfl ?_
     refine Oa1 rfl rfl ?_
     refine On ?_
     refine Wp.seq ?_
     refine Wr ?_
     refine Of1 rfl rfl rfl ?_
     refine Ol1 rfl rfl rfl rfl ?_
     refine Ops.ef rfl (ef_callr (tr_badged c.kind) rfl rfl) ?_
     rintro _ _ ⟨rfl, rfl⟩
     refine Ops.pv (pv_not_dec rfl) rfl ?_
     refine On ?_
     refine Wp.cond_dect rfl (fun h53 => ?_) (fun h53 => ?_)
     ·
      refine Wp.region ?_
      refine Om1 rfl rfl ?_
      refine Om1 rfl rfl ?_
      refine Os1 rfl rfl rfl rfl ?_
      refine Os1 rfl rfl rfl rfl ?_
      refine Os1 rfl rfl rfl rfl ?_
      refine Ops.pv (pv_pick_false rfl rfl) rfl ?_
      refine Oa1 rfl rfl ?_
      refine On ?_
      refine Wp.seq ?_
      refine Wr ?_
      refine Of1 rfl rfl rfl ?_
      refine Ol1 rfl rfl rfl rfl ?_
      refine Ops.pv (pv_neq rfl rfl) rfl ?_
      refine On ?_
      refine Wp.cond_dect rfl (fun h54 => ?_) (fun h54 => ?_)
      ·
       refine Wp.region ?_
       refine Om1 rfl rfl ?_
       refine Om1 rfl rfl ?_
       refine Os1 rfl rfl rfl rfl ?_
       refine Os1 rfl rfl rfl rfl ?_
       refine Os1 rfl rfl rfl rfl ?_
       refine Ops.pv (pv_pick_false rfl rfl) rfl ?_
       refine Oa1 rfl rfl ?_
       refine On ?_
       refine Wp.seq ?_
       refine Wr ?_
       refine Om1 rfl rfl ?_
       refine Ops.pv (pv_not rfl) rfl ?_
       refine On ?_
       refine Wp.cond_true rfl ?_
       refine Wr ?_
       refine Oa1 rfl rfl ?_
       refine On ?_
       refine Wp.ret ?_
       refine Ends.then_ret ?_
       exact Ends.ret (res1 rfl rfl) ⟨by first | (rw [check_bad (by omega)]; done) | (rw [check_ok hr (by omega) (by unfold dOk; omega)]; done) | (rw [check_no hr (by omega) (by unfold dOk; omega)]; done), rfl⟩
      refine Wp.skip ?_
      refine Ends.seq ?_
      refine Wp.seq ?_
      refine Wr ?_
      refine Om1 rfl rfl ?_
      refine Ops.pv (pv_not rfl) rfl ?_
      refine On ?_
      refine Wp.cond_true rfl ?_
      refine Wr ?_
      refine Oa1 rfl rfl ?_
      refine On ?_
      refine Wp.ret ?_
      refine Ends.then_ret ?_
      exact Ends.ret (res1 rfl rfl) ⟨by first | (rw [check_bad (by omega)]; done) | (rw [check_ok hr (by omega) (by unfold dOk; omega)]; done) | (rw [check_no hr (by omega) (by unfold dOk; omega)]; done), rfl⟩
     refine Wp.skip ?_
     refine Ends.seq ?_
     refine Wp.seq ?_
     refine Wr ?_
     refine Of1 rfl rfl rfl ?_
     refine Ol1 rfl rfl rfl rfl ?_
     refine Ops.pv (pv_neq rfl rfl) rfl ?_
     refine On ?_
     refine Wp.cond_dect rfl (fun h55 => ?_) (fun h55 => ?_)
     ·
      refine Wp.region ?_
      refine Om1 rfl rfl ?_
      refine Om1 rfl rfl ?_
      refine Os1 rfl rfl rfl rfl ?_
      refine Os1 rfl rfl rfl rfl ?_
      refine Os1 rfl rfl rfl rfl ?_
      refine Ops.pv (pv_pick_false rfl rfl) rfl ?_
      refine Oa1 rfl rfl ?_
      refine On ?_
      refine Wp.seq ?_
      refine Wr ?_
      refine Om1 rfl rfl ?_
      refine Ops.pv (pv_not rfl) rfl ?_
      refine On ?_
      refine Wp.cond_true rfl ?_
      refine Wr ?_
      refine Oa1 rfl rfl ?_
      refine On ?_
      refine Wp.ret ?_
      refine Ends.then_ret ?_
      exact Ends.ret (res1 rfl rfl) ⟨by first | (rw [check_bad (by omega)]; done) | (rw [check_ok hr (by omega) (by unfold dOk; omega)]; done) | (rw [check_no hr (by omega) (by unfold dOk; omega)]; done), rfl⟩
     refine Wp.skip ?_
     refine Ends.seq ?_
     refine Wp.seq ?_
     refine Wr ?_
     refine Om1 rfl rfl ?_
     refine Ops.pv (pv_not rfl) rfl ?_
     refine On ?_
     refine Wp.cond_true rfl ?_
     refine Wr ?_
     refine Oa1 rfl rfl ?_
     refine On ?_
     refine Wp.ret ?_
     refine Ends.then_ret ?_
     exact Ends.ret (res1 rfl rfl) ⟨by first | (rw [check_bad (by omega)]; done) | (rw [check_ok hr (by omega) (by unfold dOk; omega)]; done) | (rw [check_no hr (by omega) (by unfold dOk; omega)]; done), rfl⟩
    refine Wp.skip ?_
    refine Ends.seq ?_
    refine Wp.seq ?_
    refine Wr ?_
    refine Of1 rfl rfl rfl ?_
    refine Ol1 rfl rfl rfl rfl ?_
    refine Ops.ef rfl (ef_callr (tr_badged c.kind) rfl rfl) ?_
    rintro _ _ ⟨rfl, rfl⟩
    refine Ops.pv (pv_not_dec rfl) rfl ?_
    refine On ?_
    refine Wp.cond_dect rfl (fun h56 => ?_) (fun h56 => ?_)
    ·
     refine Wp.region ?_
     refine Om1 rfl rfl ?_
     refine Om1 rfl rfl ?_
     refine Os1 rfl rfl rfl rfl ?_
     refine Os1 rfl rfl rfl rfl ?_
     refine Os1 rfl rfl rfl rfl ?_
     refine Ops.pv (pv_pick_false rfl rfl) rfl ?_
     refine Oa1 rfl rfl ?_
     refine On ?_
     refine Wp.seq ?_
     refine Wr ?_
     refine Of1 rfl rfl rfl ?_
     refine Ol1 rfl rfl rfl rfl ?_
     refine Ops.pv (pv_neq rfl rfl) rfl ?_
     refine On ?_
     refine Wp.cond_dect rfl (fun h57 => ?_) (fun h57 => ?_)
     ·
      refine Wp.region ?_
      refine Om1 rfl rfl ?_
      refine Om1 rfl rfl ?_
      refine Os1 rfl rfl rfl rfl ?_
      refine Os1 rfl rfl rfl rfl ?_
      refine Os1 rfl rfl rfl rfl ?_
      refine Ops.pv (pv_pick_false rfl rfl) rfl ?_
      refine Oa1 rfl rfl ?_
      refine On ?_
      refine Wp.seq ?_
      refine Wr ?_
      refine Om1 rfl rfl ?_
      refine Ops.pv (pv_not rfl) rfl ?_
      refine On ?_
      refine Wp.cond_true rfl ?_
      refine Wr ?_
      refine Oa1 rfl rfl ?_
      refine On ?_
      refine Wp.ret ?_
      refine Ends.then_ret ?_
      exact Ends.ret (res1 rfl rfl) ⟨by first | (rw [check_bad (by omega)]; done) | (rw [check_ok hr (by omega) (by unfold dOk; omega)]; done) | (rw [check_no hr (by omega) (by unfold dOk; omega)]; done), rfl⟩
     refine Wp.skip ?_
     refine Ends.seq ?_
     refine Wp.seq ?_
     refine Wr ?_
     refine Om1 rfl rfl ?_
     refine Ops.pv (pv_not rfl) rfl ?_
     refine On ?_
     refine Wp.cond_true rfl ?_
     refine Wr ?_
     refine Oa1 rfl rfl ?_
     refine On ?_
     refine Wp.ret ?_
     refine Ends.then_ret ?_
     exact Ends.ret (res1 rfl rfl) ⟨by first | (rw [check_bad (by omega)]; done) | (rw [check_ok hr (by omega) (by unfold dOk; omega)]; done) | (rw [check_no hr (by omega) (by unfold dOk; omega)]; done), rfl⟩
    refine Wp.skip ?_
    refine Ends.seq ?_
    refine Wp.seq ?_
    refine Wr ?_
    refine Of1 rfl rfl rfl ?_
    refine Ol1 rfl rfl rfl rfl ?_
    refine Ops.pv (pv_neq rfl rfl) rfl ?_
    refine On ?_
    refine Wp.cond_dect rfl (fun h58 => ?_) (fun h58 => ?_)
    ·
     refine Wp.region ?_
     refine Om1 rfl rfl ?_
     refine Om1 rfl rfl ?_
     refine Os1 rfl rfl rfl rfl ?_
     refine Os1 rfl rfl rfl rfl ?_
     refine Os1 rfl rfl rfl rfl ?_
     refine Ops.pv (pv_pick_false rfl rfl) rfl ?_
     refine Oa1 rfl rfl ?_
     refine On ?_
     refine Wp.seq ?_
     refine Wr ?_
     refine Om1 rfl rfl ?_
     refine Ops.pv (pv_not rfl) rfl ?_
     refine On ?_
     refine Wp.cond_true rfl ?_
     refine Wr ?_
     refine Oa1 rfl rfl ?_
     refine On ?_
     refine Wp.ret ?_
     refine Ends.then_ret ?_
     exact Ends.ret (res1 rfl rfl) ⟨by first | (rw [check_bad (by omega)]; done) | (rw [check_ok hr (by omega) (by unfold dOk; omega)]; done) | (rw [check_no hr (by omega) (by unfold dOk; omega)]; done), rfl⟩
    refine Wp.skip ?_
    refine Ends.seq ?_
    refine Wp.seq ?_
    refine Wr ?_
    refine Om1 rfl rfl ?_
    refine Ops.pv (pv_not rfl) rfl ?_
    refine On ?_
    refine Wp.cond_true rfl ?_
    refine Wr ?_
    refine Oa1 rfl rfl ?_
    refine On ?_
    refine Wp.ret ?_
    refine Ends.then_ret ?_
    exact Ends.ret (res1 rfl rfl) ⟨by first | (rw [check_bad (by omega)]; done) | (rw [check_ok hr (by omega) (by unfold dOk; omega)]; done) | (rw [check_no hr (by omega) (by unfold dOk; omega)]; done), rfl⟩
   refine Wp.skip ?_
   refine Ends.seq ?_
   refine Wp.seq ?_
   refine Wr ?_
   refine Of1 rfl rfl rfl ?_
   refine Ol1 rfl rfl rfl rfl ?_
   refine Ops.ef rfl (ef_callr (tr_righted c.kind) rfl rfl) ?_
   rintro _ _ ⟨rfl, rfl⟩
   refine Ops.pv (pv_not_dec rfl) rfl ?_
   refine On ?_
   refine Wp.cond_dect rfl (fun h59 => ?_) (fun h59 => ?_)
   ·
    refine Wp.region ?_
    refine Om1 rfl rfl ?_
    refine Om1 rfl rfl ?_
    refine Os1 rfl rfl rfl rfl ?_
    refine Os1 rfl rfl rfl rfl ?_
    refine Os1 rfl rfl rfl rfl ?_
    refine Ops.pv (pv_pick_false rfl rfl) rfl ?_
    refine Oa1 rfl rfl ?_
    refine On ?_
    refine Wp.seq ?_
    refine Wr ?_
    refine Of1 rfl rfl rfl ?_
    refine Ol1 rfl rfl rfl rfl ?_
    refine Ops.ef rfl (ef_callr (tr_badged c.kind) rfl rfl) ?_
    rintro _ _ ⟨rfl, rfl⟩
    refine Ops.pv (pv_not_dec rfl) rfl ?_
    refine On ?_
    refine Wp.cond_dect rfl (fun h60 => ?_) (fun h60 => ?_)
    ·
     refine Wp.region ?_
     refine Om1 rfl rfl ?_
     refine Om1 rfl rfl ?_
     refine Os1 rfl rfl rfl rfl ?_
     refine Os1 rfl rfl rfl rfl ?_
     refine Os1 rfl rfl rfl rfl ?_
     refine Ops.pv (pv_pick_false rfl rfl) rfl ?_
     refine Oa1 rfl rfl ?_
     refine On ?_
     refine Wp.seq ?_
     refine Wr ?_
     refine Of1 rfl rfl rfl ?_
     refine Ol1 rfl rfl rfl rfl ?_
     refine Ops.pv (pv_neq rfl rfl) rfl ?_
     refine On ?_
     refine Wp.cond_dect rfl (fun h61 => ?_) (fun h61 => ?_)
     ·
      refine Wp.region ?_
      refine Om1 rfl rfl ?_
      refine Om1 rfl rfl ?_
      refine Os1 rfl rfl rfl rfl ?_
      refine Os1 rfl rfl rfl rfl ?_
      refine Os1 rfl rfl rfl rfl ?_
      refine Ops.pv (pv_pick_false rfl rfl) rfl ?_
      refine Oa1 rfl rfl ?_
      refine On ?_
      refine Wp.seq ?_
      refine Wr ?_
      refine Om1 rfl rfl ?_
      refine Ops.pv (pv_not rfl) rfl ?_
      refine On ?_
      refine Wp.cond_true rfl ?_
      refine Wr ?_
      refine Oa1 rfl rfl ?_
      refine On ?_
      refine Wp.ret ?_
      refine Ends.then_ret ?_
      exact Ends.ret (res1 rfl rfl) ⟨by first | (rw [check_bad (by omega)]; done) | (rw [check_ok hr (by omega) (by unfold dOk; omega)]; done) | (rw [check_no hr (by omega) (by unfold dOk; omega)]; done), rfl⟩
     refine Wp.skip ?_
     refine Ends.seq ?_
     refine Wp.seq ?_
     refine Wr ?_
     refine Om1 rfl rfl ?_
     refine Ops.pv (pv_not rfl) rfl ?_
     refine On ?_
     refine Wp.cond_true rfl ?_
     refine Wr ?_
     refine Oa1 rfl rfl ?_
     refine On ?_
     refine Wp.ret ?_
     refine Ends.then_ret ?_
     exact Ends.ret (res1 rfl rfl) ⟨by first | (rw [check_bad (by omega)]; done) | (rw [check_ok hr (by omega) (by unfold dOk; omega)]; done) | (rw [check_no hr (by omega) (by unfold dOk; omega)]; done), rfl⟩
    refine Wp.skip ?_
    refine Ends.seq ?_
    refine Wp.seq ?_
    refine Wr ?_
    refine Of1 rfl rfl rfl ?_
    refine Ol1 rfl rfl rfl rfl ?_
    refine Ops.pv (pv_neq rfl rfl) rfl ?_
    refine On ?_
    refine Wp.cond_dect rfl (fun h62 => ?_) (fun h62 => ?_)
    ·
     refine Wp.region ?_
     refine Om1 rfl rfl ?_
     refine Om1 rfl rfl ?_
     refine Os1 rfl rfl rfl rfl ?_
     refine Os1 rfl rfl rfl rfl ?_
     refine Os1 rfl rfl rfl rfl ?_
     refine Ops.pv (pv_pick_false rfl rfl) rfl ?_
     refine Oa1 rfl rfl ?_
     refine On ?_
     refine Wp.seq ?_
     refine Wr ?_
     refine Om1 rfl rfl ?_
     refine Ops.pv (pv_not rfl) rfl ?_
     refine On ?_
     refine Wp.cond_true rfl ?_
     refine Wr ?_
     refine Oa1 rfl rfl ?_
     refine On ?_
     refine Wp.ret ?_
     refine Ends.then_ret ?_
     exact Ends.ret (res1 rfl rfl) ⟨by first | (rw [check_bad (by omega)]; done) | (rw [check_ok hr (by omega) (by unfold dOk; omega)]; done) | (rw [check_no hr (by omega) (by unfold dOk; omega)]; done), rfl⟩
    refine Wp.skip ?_
    refine Ends.seq ?_
    refine Wp.seq ?_
    refine Wr ?_
    refine Om1 rfl rfl ?_
    refine Ops.pv (pv_not rfl) rfl ?_
    refine On ?_
    refine Wp.cond_true rfl ?_
    refine Wr ?_
    refine Oa1 rfl rfl ?_
    refine On ?_
    refine Wp.ret ?_
    refine Ends.then_ret ?_
    exact Ends.ret (res1 rfl rfl) ⟨by first | (rw [check_bad (by omega)]; done) | (rw [check_ok hr (by omega) (by unfold dOk; omega)]; done) | (rw [check_no hr (by omega) (by unfold dOk; omega)]; done), rfl⟩
   refine Wp.skip ?_
   refine Ends.seq ?_
   refine Wp.seq ?_
   refine Wr ?_
   refine Of1 rfl rfl rfl ?_
   refine Ol1 rfl rfl rfl rfl ?_
   refine Ops.ef rfl (ef_callr (tr_badged c.kind) rfl rfl) ?_
   rintro _ _ ⟨rfl, rfl⟩
   refine Ops.pv (pv_not_dec rfl) rfl ?_
   refine On ?_
   refine Wp.cond_dect rfl (fun h63 => ?_) (fun h63 => ?_)
   ·
    refine Wp.region ?_
    refine Om1 rfl rfl ?_
    refine Om1 rfl rfl ?_
    refine Os1 rfl rfl rfl rfl ?_
    refine Os1 rfl rfl rfl rfl ?_
    refine Os1 rfl rfl rfl rfl ?_
    refine Ops.pv (pv_pick_false rfl rfl) rfl ?_
    refine Oa1 rfl rfl ?_
    refine On ?_
    refine Wp.seq ?_
    refine Wr ?_
    refine Of1 rfl rfl rfl ?_
    refine Ol1 rfl rfl rfl rfl ?_
    refine Ops.pv (pv_neq rfl rfl) rfl ?_
    refine On ?_
    refine Wp.cond_dect rfl (fun h64 => ?_) (fun h64 => ?_)
    ·
     refine Wp.region ?_
     refine Om1 rfl rfl ?_
     refine Om1 rfl rfl ?_
     refine Os1 rfl rfl rfl rfl ?_
     refine Os1 rfl rfl rfl rfl ?_
     refine Os1 rfl rfl rfl rfl ?_
     refine Ops.pv (pv_pick_false rfl rfl) rfl ?_
     refine Oa1 rfl rfl ?_
     refine On ?_
     refine Wp.seq ?_
     refine Wr ?_
     refine Om1 rfl rfl ?_
     refine Ops.pv (pv_not rfl) rfl ?_
     refine On ?_
     refine Wp.cond_true rfl ?_
     refine Wr ?_
     refine Oa1 rfl rfl ?_
     refine On ?_
     refine Wp.ret ?_
     refine Ends.then_ret ?_
     exact Ends.ret (res1 rfl rfl) ⟨by first | (rw [check_bad (by omega)]; done) | (rw [check_ok hr (by omega) (by unfold dOk; omega)]; done) | (rw [check_no hr (by omega) (by unfold dOk; omega)]; done), rfl⟩
    refine Wp.skip ?_
    refine Ends.seq ?_
    refine Wp.seq ?_
    refine Wr ?_
    refine Om1 rfl rfl ?_
    refine Ops.pv (pv_not rfl) rfl ?_
    refine On ?_
    refine Wp.cond_true rfl ?_
    refine Wr ?_
    refine Oa1 rfl rfl ?_
    refine On ?_
    refine Wp.ret ?_
    refine Ends.then_ret ?_
    exact Ends.ret (res1 rfl rfl) ⟨by first | (rw [check_bad (by omega)]; done) | (rw [check_ok hr (by omega) (by unfold dOk; omega)]; done) | (rw [check_no hr (by omega) (by unfold dOk; omega)]; done), rfl⟩
   refine Wp.skip ?_
   refine Ends.seq ?_
   refine Wp.seq ?_
   refine Wr ?_
   refine Of1 rfl rfl rfl ?_
   refine Ol1 rfl rfl rfl rfl ?_
   refine Ops.pv (pv_neq rfl rfl) rfl ?_
   refine On ?_
   refine Wp.cond_dect rfl (fun h65 => ?_) (fun h65 => ?_)
   ·
    refine Wp.region ?_
    refine Om1 rfl rfl ?_
    refine Om1 rfl rfl ?_
    refine Os1 rfl rfl rfl rfl ?_
    refine Os1 rfl rfl rfl rfl ?_
    refine Os1 rfl rfl rfl rfl ?_
    refine Ops.pv (pv_pick_false rfl rfl) rfl ?_
    refine Oa1 rfl rfl ?_
    refine On ?_
    refine Wp.seq ?_
    refine Wr ?_
    refine Om1 rfl rfl ?_
    refine Ops.pv (pv_not rfl) rfl ?_
    refine On ?_
    refine Wp.cond_true rfl ?_
    refine Wr ?_
    refine Oa1 rfl rfl ?_
    refine On ?_
    refine Wp.ret ?_
    refine Ends.then_ret ?_
    exact Ends.ret (res1 rfl rfl) ⟨by first | (rw [check_bad (by omega)]; done) | (rw [check_ok hr (by omega) (by unfold dOk; omega)]; done) | (rw [check_no hr (by omega) (by unfold dOk; omega)]; done), rfl⟩
   refine Wp.skip ?_
   refine Ends.seq ?_
   refine Wp.seq ?_
   refine Wr ?_
   refine Om1 rfl rfl ?_
   refine Ops.pv (pv_not rfl) rfl ?_
   refine On ?_
   refine Wp.cond_true rfl ?_
   refine Wr ?_
   refine Oa1 rfl rfl ?_
   refine On ?_
   refine Wp.ret ?_
   refine Ends.then_ret ?_
   exact Ends.ret (res1 rfl rfl) ⟨by first | (rw [check_bad (by omega)]; done) | (rw [check_ok hr (by omega) (by unfold dOk; omega)]; done) | (rw [check_no hr (by omega) (by unfold dOk; omega)]; done), rfl⟩
  refine Os1 rfl rfl rfl rfl ?_
  refine Os1 rfl rfl rfl rfl ?_
  refine Os1 rfl rfl rfl rfl ?_
  refine Ops.pv (pv_pick_false rfl rfl) rfl ?_
  refine Om1 rfl rfl ?_
  refine Os1 rfl rfl rfl rfl ?_
  refine Os1 rfl rfl rfl rfl ?_
  refine Os1 rfl rfl rfl rfl ?_
  refine Os1 rfl rfl rfl rfl ?_
  refine Os1 rfl rfl rfl rfl ?_
  refine Ops.pv (pv_pick_false rfl rfl) rfl ?_
  refine Oa1 rfl rfl ?_
  refine On ?_
  refine Wp.seq ?_
  refine Wr ?_
  refine Of1 rfl rfl rfl ?_
  refine Ol1 rfl rfl rfl rfl ?_
  refine Ops.pv (pv_eql rfl rfl) rfl ?_
  refine Om1 rfl rfl ?_
  refine Ops.pvcn rfl rfl (fun hg => pv_fieldAddr0 rfl rfl) rfl ?_
  refine Ops.pvcn rfl rfl (fun hg => Pv.setE (t := 41) rfl (cv_pos hg) (pv_load rfl rfl rfl)) rfl ?_
  refine Ops.pvcn rfl rfl (fun hg => Pv.setE (t := 41) rfl (cv_pos hg) (Pv.setE (t := 42) rfl (cv_pos hg) (pv_eql rfl rfl))) rfl ?_
  refine Ops.pv (pv_pick_or rfl rfl) rfl ?_
  refine On ?_
  refine Wp.cond_dect rfl (fun h66 => ?_) (fun h66 => ?_)
  ·
   refine Wp.region ?_
   refine Om1 rfl rfl ?_
   refine Om1 rfl rfl ?_
   refine Os1 rfl rfl rfl rfl ?_
   refine Os1 rfl rfl rfl rfl ?_
   refine Os1 rfl rfl rfl rfl ?_
   refine Ops.pv (pv_pick_false rfl rfl) rfl ?_
   refine Oa1 rfl rfl ?_
   refine On ?_
   refine Wp.seq ?_
   refine Wr ?_
   refine Of1 rfl rfl rfl ?_
   refine Ol1 rfl rfl rfl rfl ?_
   refine Ops.ef rfl (ef_callr (tr_righted c.kind) rfl rfl) ?_
   rintro _ _ ⟨rfl, rfl⟩
   refine Ops.pv (pv_not_dec rfl) rfl ?_
   refine On ?_
   refine Wp.cond_dect rfl (fun h67 => ?_) (fun h67 => ?_)
   ·
    refine Wp.region ?_
    refine Om1 rfl rfl ?_
    refine Om1 rfl rfl ?_
    refine Os1 rfl rfl rfl rfl ?_
    refine Os1 rfl rfl rfl rfl ?_
    refine Os1 rfl rfl rfl rfl ?_
    refine Ops.pv (pv_pick_false rfl rfl) rfl ?_
    refine Oa1 rfl rfl ?_
    refine On ?_
    refine Wp.seq ?_
    refine Wr ?_
    refine Of1 rfl rfl rfl ?_
    refine Ol1 rfl rfl rfl rfl ?_
    refine Ops.ef rfl (ef_callr (tr_badged c.kind) rfl rfl) ?_
    rintro _ _ ⟨rfl, rfl⟩
    refine Ops.pv (pv_not_dec rfl) rfl ?_
    refine On ?_
    refine Wp.cond_dect rfl (fun h68 => ?_) (fun h68 => ?_)
    ·
     refine Wp.region ?_
     refine Om1 rfl rfl ?_
     refine Om1 rfl rfl ?_
     refine Os1 rfl rfl rfl rfl ?_
     refine Os1 rfl rfl rfl rfl ?_
     refine Os1 rfl rfl rfl rfl ?_
     refine Ops.pv (pv_pick_false rfl rfl) rfl ?_
     refine Oa1 rfl rfl ?_
     refine On ?_
     refine Wp.seq ?_
     refine Wr ?_
     refine Of1 rfl rfl rfl ?_
     refine Ol1 rfl rfl rfl rfl ?_
     refine Ops.pv (pv_neq rfl rfl) rfl ?_
     refine On ?_
     refine Wp.cond_dect rfl (fun h69 => ?_) (fun h69 => ?_)
     ·
      refine Wp.region ?_
      refine Om1 rfl rfl ?_
      refine Om1 rfl rfl ?_
      refine Os1 rfl rfl rfl rfl ?_
      refine Os1 rfl rfl rfl rfl ?_
      refine Os1 rfl rfl rfl rfl ?_
      refine Ops.pv (pv_pick_false rfl rfl) rfl ?_
      refine Oa1 rfl rfl ?_
      refine On ?_
      refine Wp.seq ?_
      refine Wr ?_
      refine Om1 rfl rfl ?_
      refine Ops.pv (pv_not rfl) rfl ?_
      refine On ?_
      refine Wp.cond_true rfl ?_
      refine Wr ?_
      refine Oa1 rfl rfl ?_
      refine On ?_
      refine Wp.ret ?_
      refine Ends.then_ret ?_
      exact Ends.ret (res1 rfl rfl) ⟨by first | (rw [check_bad (by omega)]; done) | (rw [check_ok hr (by omega) (by unfold dOk; omega)]; done) | (rw [check_no hr (by omega) (by unfold dOk; omega)]; done), rfl⟩
     refine Wp.skip ?_
     refine Ends.seq ?_
     refine Wp.seq ?_
     refine Wr ?_
     refine Om1 rfl rfl ?_
     refine Ops.pv (pv_not rfl) rfl ?_
     refine On ?_
     refine Wp.cond_true rfl ?_
     refine Wr ?_
     refine Oa1 rfl rfl ?_
     refine On ?_
     refine Wp.ret ?_
     refine Ends.then_ret ?_
     exact Ends.ret (res1 rfl rfl) ⟨by first | (rw [check_bad (by omega)]; done) | (rw [check_ok hr (by omega) (by unfold dOk; omega)]; done) | (rw [check_no hr (by omega) (by unfold dOk; omega)]; done), rfl⟩
    refine Wp.skip ?_
    refine Ends.seq ?_
    refine Wp.seq ?_
    refine Wr ?_
    refine Of1 rfl rfl rfl ?_
    refine Ol1 rfl rfl rfl rfl ?_
    refine Ops.pv (pv_neq rfl rfl) rfl ?_
    refine On ?_
    refine Wp.cond_dect rfl (fun h70 => ?_) (fun h70 => ?_)
    ·
     refine Wp.region ?_
     refine Om1 rfl rfl ?_
     refine Om1 rfl rfl ?_
     refine Os1 rfl rfl rfl rfl ?_
     refine Os1 rfl rfl rfl rfl ?_
     refine Os1 rfl rfl rfl rfl ?_
     refine Ops.pv (pv_pick_false rfl rfl) rfl ?_
     refine Oa1 rfl rfl ?_
     refine On ?_
     refine Wp.seq ?_
     refine Wr ?_
     refine Om1 rfl rfl ?_
     refine Ops.pv (pv_not rfl) rfl ?_
     refine On ?_
     refine Wp.cond_true rfl ?_
     refine Wr ?_
     refine Oa1 rfl rfl ?_
     refine On ?_
     refine Wp.ret ?_
     refine Ends.then_ret ?_
     exact Ends.ret (res1 rfl rfl) ⟨by first | (rw [check_bad (by omega)]; done) | (rw [check_ok hr (by omega) (by unfold dOk; omega)]; done) | (rw [check_no hr (by omega) (by unfold dOk; omega)]; done), rfl⟩
    refine Wp.skip ?_
    refine Ends.seq ?_
    refine Wp.seq ?_
    refine Wr ?_
    refine Om1 rfl rfl ?_
    refine Ops.pv (pv_not rfl) rfl ?_
    refine On ?_
    refine Wp.cond_true rfl ?_
    refine Wr ?_
    refine Oa1 rfl rfl ?_
    refine On ?_
    refine Wp.ret ?_
    refine Ends.then_ret ?_
    exact Ends.ret (res1 rfl rfl) ⟨by first | (rw [check_bad (by omega)]; done) | (rw [check_ok hr (by omega) (by unfold dOk; omega)]; done) | (rw [check_no hr (by omega) (by unfold dOk; omega)]; done), rfl⟩
   refine Wp.skip ?_
   refine Ends.seq ?_
   refine Wp.seq ?_
   refine Wr ?_
   refine Of1 rfl rfl rfl ?_
   refine Ol1 rfl rfl rfl rfl ?_
   refine Ops.ef rfl (ef_callr (tr_badged c.kind) rfl rfl) ?_
   rintro _ _ ⟨rfl, rfl⟩
   refine Ops.pv (pv_not_dec rfl) rfl ?_
   refine On ?_
   refine Wp.cond_dect rfl (fun h71 => ?_) (fun h71 => ?_)
   ·
    refine Wp.region ?_
    refine Om1 rfl rfl ?_
    refine Om1 rfl rfl ?_
    refine Os1 rfl rfl rfl rfl ?_
    refine Os1 rfl rfl rfl rfl ?_
    refine Os1 rfl rfl rfl rfl ?_
    refine Ops.pv (pv_pick_false rfl rfl) rfl ?_
    refine Oa1 rfl rfl ?_
    refine On ?_
    refine Wp.seq ?_
    refine Wr ?_
    refine Of1 rfl rfl rfl ?_
    refine Ol1 rfl rfl rfl rfl ?_
    refine Ops.pv (pv_neq rfl rfl) rfl ?_
    refine On ?_
    refine Wp.cond_dect rfl (fun h72 => ?_) (fun h72 => ?_)
    ·
     refine Wp.region ?_
     refine Om1 rfl rfl ?_
     refine Om1 rfl rfl ?_
     refine Os1 rfl rfl rfl rfl ?_
     refine Os1 rfl rfl rfl rfl ?_
     refine Os1 rfl rfl rfl rfl ?_
     refine Ops.pv (pv_pick_false rfl rfl) rfl ?_
     refine Oa1 rfl rfl ?_
     refine On ?_
     refine Wp.seq ?_
     refine Wr ?_
     refine Om1 rfl rfl ?_
     refine Ops.pv (pv_not rfl) rfl ?_
     refine On ?_
     refine Wp.cond_true rfl ?_
     refine Wr ?_
     refine Oa1 rfl rfl ?_
     refine On ?_
     refine Wp.ret ?_
     refine Ends.then_ret ?_
     exact Ends.ret (res1 rfl rfl) ⟨by first | (rw [check_bad (by omega)]; done) | (rw [check_ok hr (by omega) (by unfold dOk; omega)]; done) | (rw [check_no hr (by omega) (by unfold dOk; omega)]; done), rfl⟩
    refine Wp.skip ?_
    refine Ends.seq ?_
    refine Wp.seq ?_
    refine Wr ?_
    refine Om1 rfl rfl ?_
    refine Ops.pv (pv_not rfl) rfl ?_
    refine On ?_
    refine Wp.cond_true rfl ?_
    refine Wr ?_
    refine Oa1 rfl rfl ?_
    refine On ?_
    refine Wp.ret ?_
    refine Ends.then_ret ?_
    exact Ends.ret (res1 rfl rfl) ⟨by first | (rw [check_bad (by omega)]; done) | (rw [check_ok hr (by omega) (by unfold dOk; omega)]; done) | (rw [check_no hr (by omega) (by unfold dOk; omega)]; done), rfl⟩
   refine Wp.skip ?_
   refine Ends.seq ?_
   refine Wp.seq ?_
   refine Wr ?_
   refine Of1 rfl rfl rfl ?_
   refine Ol1 rfl rfl rfl rfl ?_
   refine Ops.pv (pv_neq rfl rfl) rfl ?_
   refine On ?_
   refine Wp.cond_dect rfl (fun h73 => ?_) (fun h73 => ?_)
   ·
    refine Wp.region ?_
    refine Om1 rfl rfl ?_
    refine Om1 rfl rfl ?_
    refine Os1 rfl rfl rfl rfl ?_
    refine Os1 rfl rfl rfl rfl ?_
    refine Os1 rfl rfl rfl rfl ?_
    refine Ops.pv (pv_pick_false rfl rfl) rfl ?_
    refine Oa1 rfl rfl ?_
    refine On ?_
    refine Wp.seq ?_
    refine Wr ?_
    refine Om1 rfl rfl ?_
    refine Ops.pv (pv_not rfl) rfl ?_
    refine On ?_
    refine Wp.cond_true rfl ?_
    refine Wr ?_
    refine Oa1 rfl rfl ?_
    refine On ?_
    refine Wp.ret ?_
    refine Ends.then_ret ?_
    exact Ends.ret (res1 rfl rfl) ⟨by first | (rw [check_bad (by omega)]; done) | (rw [check_ok hr (by omega) (by unfold dOk; omega)]; done) | (rw [check_no hr (by omega) (by unfold dOk; omega)]; done), rfl⟩
   refine Wp.skip ?_
   refine Ends.seq ?_
   refine Wp.seq ?_
   refine Wr ?_
   refine Om1 rfl rfl ?_
   refine Ops.pv (pv_not rfl) rfl ?_
   refine On ?_
   refine Wp.cond_true rfl ?_
   refine Wr ?_
   refine Oa1 rfl rfl ?_
   refine On ?_
   refine Wp.ret ?_
   refine Ends.then_ret ?_
   exact Ends.ret (res1 rfl rfl) ⟨by first | (rw [check_bad (by omega)]; done) | (rw [check_ok hr (by omega) (by unfold dOk; omega)]; done) | (rw [check_no hr (by omega) (by unfold dOk; omega)]; done), rfl⟩
  refine Wp.skip ?_
  refine Ends.seq ?_
  refine Wp.seq ?_
  refine Wr ?_
  refine Of1 rfl rfl rfl ?_
  refine Ol1 rfl rfl rfl rfl ?_
  refine Ops.ef rfl (ef_callr (tr_righted c.kind) rfl rfl) ?_
  rintro _ _ ⟨rfl, rfl⟩
  refine Ops.pv (pv_not_dec rfl) rfl ?_
  refine On ?_
  refine Wp.cond_dect rfl (fun h74 => ?_) (fun h74 => ?_)
  ·
   refine Wp.region ?_
   refine Om1 rfl rfl ?_
   refine Om1 rfl rfl ?_
   refine Os1 rfl rfl rfl rfl ?_
   refine Os1 rfl rfl rfl rfl ?_
   refine Os1 rfl rfl rfl rfl ?_
   refine Ops.pv (pv_pick_false rfl rfl) rfl ?_
   refine Oa1 rfl rfl ?_
   refine On ?_
   refine Wp.seq ?_
   refine Wr ?_
   refine Of1 rfl rfl rfl ?_
   refine Ol1 rfl rfl rfl rfl ?_
   refine Ops.ef rfl (ef_callr (tr_badged c.kind) rfl rfl) ?_
   rintro _ _ ⟨rfl, rfl⟩
   refine Ops.pv (pv_not_dec rfl) rfl ?_
   refine On ?_
   refine Wp.cond_dect rfl (fun h75 => ?_) (fun h75 => ?_)
   ·
    refine Wp.region ?_
    refine Om1 rfl rfl ?_
    refine Om1 rfl rfl ?_
    refine Os1 rfl rfl rfl rfl ?_
    refine Os1 rfl rfl rfl rfl ?_
    refine Os1 rfl rfl rfl rfl ?_
    refine Ops.pv (pv_pick_false rfl rfl) rfl ?_
    refine Oa1 rfl rfl ?_
    refine On ?_
    refine Wp.seq ?_
    refine Wr ?_
    refine Of1 rfl rfl rfl ?_
    refine Ol1 rfl rfl rfl rfl ?_
    refine Ops.pv (pv_neq rfl rfl) rfl ?_
    refine On ?_
    refine Wp.cond_dect rfl (fun h76 => ?_) (fun h76 => ?_)
    ·
     refine Wp.region ?_
     refine Om1 rfl rfl ?_
     refine Om1 rfl rfl ?_
     refine Os1 rfl rfl rfl rfl ?_
     refine Os1 rfl rfl rfl rfl ?_
     refine Os1 rfl rfl rfl rfl ?_
     refine Ops.pv (pv_pick_false rfl rfl) rfl ?_
     refine Oa1 rfl rfl ?_
     refine On ?_
     refine Wp.seq ?_
     refine Wr ?_
     refine Om1 rfl rfl ?_
     refine Ops.pv (pv_not rfl) rfl ?_
     refine On ?_
     refine Wp.cond_true rfl ?_
     refine Wr ?_
     refine Oa1 rfl rfl ?_
     refine On ?_
     refine Wp.ret ?_
     refine Ends.then_ret ?_
     exact Ends.ret (res1 rfl rfl) ⟨by first | (rw [check_bad (by omega)]; done) | (rw [check_ok hr (by omega) (by unfold dOk; omega)]; done) | (rw [check_no hr (by omega) (by unfold dOk; omega)]; done), rfl⟩
    refine Wp.skip ?_
    refine Ends.seq ?_
    refine Wp.seq ?_
    refine Wr ?_
    refine Om1 rfl rfl ?_
    refine Ops.pv (pv_not rfl) rfl ?_
    refine On ?_
    refine Wp.cond_true rfl ?_
    refine Wr ?_
    refine Oa1 rfl rfl ?_
    refine On ?_
    refine Wp.ret ?_
    refine Ends.then_ret ?_
    exact Ends.ret (res1 rfl rfl) ⟨by first | (rw [check_bad (by omega)]; done) | (rw [check_ok hr (by omega) (by unfold dOk; omega)]; done) | (rw [check_no hr (by omega) (by unfold dOk; omega)]; done), rfl⟩
   refine Wp.skip ?_
   refine Ends.seq ?_
   refine Wp.seq ?_
   refine Wr ?_
   refine Of1 rfl rfl rfl ?_
   refine Ol1 rfl rfl rfl rfl ?_
   refine Ops.pv (pv_neq rfl rfl) rfl ?_
   refine On ?_
   refine Wp.cond_dect rfl (fun h77 => ?_) (fun h77 => ?_)
   ·
    refine Wp.region ?_
    refine Om1 rfl rfl ?_
    refine Om1 rfl rfl ?_
    refine Os1 rfl rfl rfl rfl ?_
    refine Os1 rfl rfl rfl rfl ?_
    refine Os1 rfl rfl rfl rfl ?_
    refine Ops.pv (pv_pick_false rfl rfl) rfl ?_
    refine Oa1 rfl rfl ?_
    refine On ?_
    refine Wp.seq ?_
    refine Wr ?_
    refine Om1 rfl rfl ?_
    refine Ops.pv (pv_not rfl) rfl ?_
    refine On ?_
    refine Wp.cond_true rfl ?_
    refine Wr ?_
    refine Oa1 rfl rfl ?_
    refine On ?_
    refine Wp.ret ?_
    refine Ends.then_ret ?_
    exact Ends.ret (res1 rfl rfl) ⟨by first | (rw [check_bad (by omega)]; done) | (rw [check_ok hr (by omega) (by unfold dOk; omega)]; done) | (rw [check_no hr (by omega) (by unfold dOk; omega)]; done), rfl⟩
   refine Wp.skip ?_
   refine Ends.seq ?_
   refine Wp.seq ?_
   refine Wr ?_
   refine Om1 rfl rfl ?_
   refine Ops.pv (pv_not rfl) rfl ?_
   refine On ?_
   refine Wp.cond_true rfl ?_
   refine Wr ?_
   refine Oa1 rfl rfl ?_
   refine On ?_
   refine Wp.ret ?_
   refine Ends.then_ret ?_
   exact Ends.ret (res1 rfl rfl) ⟨by first | (rw [check_bad (by omega)]; done) | (rw [check_ok hr (by omega) (by unfold dOk; omega)]; done) | (rw [check_no hr (by omega) (by unfold dOk; omega)]; done), rfl⟩
  refine Wp.skip ?_
  refine Ends.seq ?_
  refine Wp.seq ?_
  refine Wr ?_
  refine Of1 rfl rfl rfl ?_
  refine Ol1 rfl rfl rfl rfl ?_
  refine Ops.ef rfl (ef_callr (tr_badged c.kind) rfl rfl) ?_
  rintro _ _ ⟨rfl, rfl⟩
  refine Ops.pv (pv_not_dec rfl) rfl ?_
  refine On ?_
  refine Wp.cond_dect rfl (fun h78 => ?_) (fun h78 => ?_)
  ·
   refine Wp.region ?_
   refine Om1 rfl rfl ?_
   refine Om1 rfl rfl ?_
   refine Os1 rfl rfl rfl rfl ?_
   refine Os1 rfl rfl rfl rfl ?_
   refine Os1 rfl rfl rfl rfl ?_
   refine Ops.pv (pv_pick_false rfl rfl) rfl ?_
   refine Oa1 rfl rfl ?_
   refine On ?_
   refine Wp.seq ?_
   refine Wr ?_
   refine Of1 rfl rfl rfl ?_
   refine Ol1 rfl rfl rfl rfl ?_
   refine Ops.pv (pv_neq rfl rfl) rfl ?_
   refine On ?_
   refine Wp.cond_dect rfl (fun h79 => ?_) (fun h79 => ?_)
   ·
    refine Wp.region ?_
    refine Om1 rfl rfl ?_
    refine Om1 rfl rfl ?_
    refine Os1 rfl rfl rfl rfl ?_
    refine Os1 rfl rfl rfl rfl ?_
    refine Os1 rfl rfl rfl rfl ?_
    refine Ops.pv (pv_pick_false rfl rfl) rfl ?_
    refine Oa1 rfl rfl ?_
    refine On ?_
    refine Wp.seq ?_
    refine Wr ?_
    refine Om1 rfl rfl ?_
    refine Ops.pv (pv_not rfl) rfl ?_
    refine On ?_
    refine Wp.cond_true rfl ?_
    refine Wr ?_
    refine Oa1 rfl rfl ?_
    refine On ?_
    refine Wp.ret ?_
    refine Ends.then_ret ?_
    exact Ends.ret (res1 rfl rfl) ⟨by first | (rw [check_bad (by omega)]; done) | (rw [check_ok hr (by omega) (by unfold dOk; omega)]; done) | (rw [check_no hr (by omega) (by unfold dOk; omega)]; done), rfl⟩
   refine Wp.skip ?_
   refine Ends.seq ?_
   refine Wp.seq ?_
   refine Wr ?_
   refine Om1 rfl rfl ?_
   refine Ops.pv (pv_not rfl) rfl ?_
   refine On ?_
   refine Wp.cond_true rfl ?_
   refine Wr ?_
   refine Oa1 rfl rfl ?_
   refine On ?_
   refine Wp.ret ?_
   refine Ends.then_ret ?_
   exact Ends.ret (res1 rfl rfl) ⟨by first | (rw [check_bad (by omega)]; done) | (rw [check_ok hr (by omega) (by unfold dOk; omega)]; done) | (rw [check_no hr (by omega) (by unfold dOk; omega)]; done), rfl⟩
  refine Wp.skip ?_
  refine Ends.seq ?_
  refine Wp.seq ?_
  refine Wr ?_
  refine Of1 rfl rfl rfl ?_
  refine Ol1 rfl rfl rfl rfl ?_
  refine Ops.pv (pv_neq rfl rfl) rfl ?_
  refine On ?_
  refine Wp.cond_dect rfl (fun h80 => ?_) (fun h80 => ?_)
  ·
   refine Wp.region ?_
   refine Om1 rfl rfl ?_
   refine Om1 rfl rfl ?_
   refine Os1 rfl rfl rfl rfl ?_
   refine Os1 rfl rfl rfl rfl ?_
   refine Os1 rfl rfl rfl rfl ?_
   refine Ops.pv (pv_pick_false rfl rfl) rfl ?_
   refine Oa1 rfl rfl ?_
   refine On ?_
   refine Wp.seq ?_
   refine Wr ?_
   refine Om1 rfl rfl ?_
   refine Ops.pv (pv_not rfl) rfl ?_
   refine On ?_
   refine Wp.cond_true rfl ?_
   refine Wr ?_
   refine Oa1 rfl rfl ?_
   refine On ?_
   refine Wp.ret ?_
   refine Ends.then_ret ?_
   exact Ends.ret (res1 rfl rfl) ⟨by first | (rw [check_bad (by omega)]; done) | (rw [check_ok hr (by omega) (by unfold dOk; omega)]; done) | (rw [check_no hr (by omega) (by unfold dOk; omega)]; done), rfl⟩
  refine Wp.skip ?_
  refine Ends.seq ?_
  refine Wp.seq ?_
  refine Wr ?_
  refine Om1 rfl rfl ?_
  refine Ops.pv (pv_not rfl) rfl ?_
  refine On ?_
  refine Wp.cond_true rfl ?_
  refine Wr ?_
  refine Oa1 rfl rfl ?_
  refine On ?_
  refine Wp.ret ?_
  refine Ends.then_ret ?_
  exact Ends.ret (res1 rfl rfl) ⟨by first | (rw [check_bad (by omega)]; done) | (rw [check_ok hr (by omega) (by unfold dOk; omega)]; done) | (rw [check_no hr (by omega) (by unfold dOk; omega)]; done), rfl⟩
 refine Os1 rfl rfl rfl rfl ?_
 refine Os1 rfl rfl rfl rfl ?_
 refine Os1 rfl rfl rfl rfl ?_
 refine Ops.pv (pv_pick_false rfl rfl) rfl ?_
 refine Om1 rfl rfl ?_
 refine Os1 rfl rfl rfl rfl ?_
 refine Os1 rfl rfl rfl rfl ?_
 refine Os1 rfl rfl rfl rfl ?_
 refine Ops.pv (pv_pick_false rfl rfl) rfl ?_
 refine Om1 rfl rfl ?_
 refine Os1 rfl rfl rfl rfl ?_
 refine Os1 rfl rfl rfl rfl ?_
 refine Os1 rfl rfl rfl rfl ?_
 refine Os1 rfl rfl rfl rfl ?_
 refine Os1 rfl rfl rfl rfl ?_
 refine Ops.pv (pv_pick_false rfl rfl) rfl ?_
 refine Oa1 rfl rfl ?_
 refine On ?_
 refine Wp.seq ?_
 refine Wr ?_
 refine Of1 rfl rfl rfl ?_
 refine Ol1 rfl rfl rfl rfl ?_
 refine Ops.pv (pv_eql rfl rfl) rfl ?_
 refine Om1 rfl rfl ?_
 refine Ops.pvcn rfl rfl (fun hg => pv_fieldAddr0 rfl rfl) rfl ?_
 refine Ops.pvcn rfl rfl (fun hg => Pv.setE (t := 41) rfl (cv_pos hg) (pv_load rfl rfl rfl)) rfl ?_
 refine Ops.pvcn rfl rfl (fun hg => Pv.setE (t := 41) rfl (cv_pos hg) (Pv.setE (t := 42) rfl (cv_pos hg) (pv_eql rfl rfl))) rfl ?_
 refine Ops.pv (pv_pick_or rfl rfl) rfl ?_
 refine On ?_
 refine Wp.cond_dect rfl (fun h81 => ?_) (fun h81 => ?_)
 ·
  refine Wp.region ?_
  refine Om1 rfl rfl ?_
  refine Om1 rfl rfl ?_
  refine Os1 rfl rfl rfl rfl ?_
  refine Os1 rfl rfl rfl rfl ?_
  refine Os1 rfl rfl rfl rfl ?_
  refine Ops.pv (pv_pick_false rfl rfl) rfl ?_
  refine Oa1 rfl rfl ?_
  refine On ?_
  refine Wp.seq ?_
  refine Wr ?_
  refine Of1 rfl rfl rfl ?_
  refine Ol1 rfl rfl rfl rfl ?_
  refine Ops.ef rfl (ef_callr (tr_righted c.kind) rfl rfl) ?_
  rintro _ _ ⟨rfl, rfl⟩
  refine Ops.pv (pv_not_dec rfl) rfl ?_
  refine On ?_
  refine Wp.cond_dect rfl (fun h82 => ?_) (fun h82 => ?_)
  ·
   refine Wp.region ?_
   refine Om1 rfl rfl ?_
   refine Om1 rfl rfl ?_
   refine Os1 rfl rfl rfl rfl ?_
   refine Os1 rfl rfl rfl rfl ?_
   refine Os1 rfl rfl rfl rfl ?_
   refine Ops.pv (pv_pick_false rfl rfl) rfl ?_
   refine Oa1 rfl rfl ?_
   refine On ?_
   refine Wp.seq ?_
   refine Wr ?_
   refine Of1 rfl rfl rfl ?_
   refine Ol1 rfl rfl rfl rfl ?_
   refine Ops.ef rfl (ef_callr (tr_badged c.kind) rfl rfl) ?_
   rintro _ _ ⟨rfl, rfl⟩
   refine Ops.pv (pv_not_dec rfl) rfl ?_
   refine On ?_
   refine Wp.cond_dect rfl (fun h83 => ?_) (fun h83 => ?_)
   ·
    refine Wp.region ?_
    refine Om1 rfl rfl ?_
    refine Om1 rfl rfl ?_
    refine Os1 rfl rfl rfl rfl ?_
    refine Os1 rfl rfl rfl rfl ?_
    refine Os1 rfl rfl rfl rfl ?_
    refine Ops.pv (pv_pick_false rfl rfl) rfl ?_
    refine Oa1 rfl rfl ?_
    refine On ?_
    refine Wp.seq ?_
    refine Wr ?_
    refine Of1 rfl rfl rfl ?_
    refine Ol1 rfl rfl rfl rfl ?_
    refine Ops.pv (pv_neq rfl rfl) rfl ?_
    refine On ?_
    refine Wp.cond_dect rfl (fun h84 => ?_) (fun h84 => ?_)
    ·
     refine Wp.region ?_
     refine Om1 rfl rfl ?_
     refine Om1 rfl rfl ?_
     refine Os1 rfl rfl rfl rfl ?_
     refine Os1 rfl rfl rfl rfl ?_
     refine Os1 rfl rfl rfl rfl ?_
     refine Ops.pv (pv_pick_false rfl rfl) rfl ?_
     refine Oa1 rfl rfl ?_
     refine On ?_
     refine Wp.seq ?_
     refine Wr ?_
     refine Om1 rfl rfl ?_
     refine Ops.pv (pv_not rfl) rfl ?_
     refine On ?_
     refine Wp.cond_true rfl ?_
     refine Wr ?_
     refine Oa1 rfl rfl ?_
     refine On ?_
     refine Wp.ret ?_
     refine Ends.then_ret ?_
     exact Ends.ret (res1 rfl rfl) ⟨by first | (rw [check_bad (by omega)]; done) | (rw [check_ok hr (by omega) (by unfold dOk; omega)]; done) | (rw [check_no hr (by omega) (by unfold dOk; omega)]; done), rfl⟩
    refine Wp.skip ?_
    refine Ends.seq ?_
    refine Wp.seq ?_
    refine Wr ?_
    refine Om1 rfl rfl ?_
    refine Ops.pv (pv_not rfl) rfl ?_
    refine On ?_
    refine Wp.cond_true rfl ?_
    refine Wr ?_
    refine Oa1 rfl rfl ?_
    refine On ?_
    refine Wp.ret ?_
    refine Ends.then_ret ?_
    exact Ends.ret (res1 rfl rfl) ⟨by first | (rw [check_bad (by omega)]; done) | (rw [check_ok hr (by omega) (by unfold dOk; omega)]; done) | (rw [check_no hr (by omega) (by unfold dOk; omega)]; done), rfl⟩
   refine Wp.skip ?_
   refine Ends.seq ?_
   refine Wp.seq ?_
   refine Wr ?_
   refine Of1 rfl rfl rfl ?_
   refine Ol1 rfl rfl rfl rfl ?_
   refine Ops.pv (pv_neq rfl rfl) rfl ?_
   refine On ?_
   refine Wp.cond_dect rfl (fun h85 => ?_) (fun h85 => ?_)
   ·
    refine Wp.region ?_
    refine Om1 rfl rfl ?_
    refine Om1 rfl rfl ?_
    refine Os1 rfl rfl rfl rfl ?_
    refine Os1 rfl rfl rfl rfl ?_
    refine Os1 rfl rfl rfl rfl ?_
    refine Ops.pv (pv_pick_false rfl rfl) rfl ?_
    refine Oa1 rfl rfl ?_
    refine On ?_
    refine Wp.seq ?_
    refine Wr ?_
    refine Om1 rfl rfl ?_
    refine Ops.pv (pv_not rfl) rfl ?_
    refine On ?_
    refine Wp.cond_true rfl ?_
    refine Wr ?_
    refine Oa1 rfl rfl ?_
    refine On ?_
    refine Wp.ret ?_
    refine Ends.then_ret ?_
    exact Ends.ret (res1 rfl rfl) ⟨by first | (rw [check_bad (by omega)]; done) | (rw [check_ok hr (by omega) (by unfold dOk; omega)]; done) | (rw [check_no hr (by omega) (by unfold dOk; omega)]; done), rfl⟩
   refine Wp.skip ?_
   refine Ends.seq ?_
   refine Wp.seq ?_
   refine Wr ?_
   refine Om1 rfl rfl ?_
   refine Ops.pv (pv_not rfl) rfl ?_
   refine On ?_
   refine Wp.cond_true rfl ?_
   refine Wr ?_
   refine Oa1 rfl rfl ?_
   refine On ?_
   refine Wp.ret ?_
   refine Ends.then_ret ?_
   exact Ends.ret (res1 rfl rfl) ⟨by first | (rw [check_bad (by omega)]; done) | (rw [check_ok hr (by omega) (by unfold dOk; omega)]; done) | (rw [check_no hr (by omega) (by unfold dOk; omega)]; done), rfl⟩
  refine Wp.skip ?_
  refine Ends.seq ?_
  refine Wp.seq ?_
  refine Wr ?_
  refine Of1 rfl rfl rfl ?_
  refine Ol1 rfl rfl rfl rfl ?_
  refine Ops.ef rfl (ef_callr (tr_badged c.kind) rfl rfl) ?_
  rintro _ _ ⟨rfl, rfl⟩
  refine Ops.pv (pv_not_dec rfl) rfl ?_
  refine On ?_
  refine Wp.cond_dect rfl (fun h86 => ?_) (fun h86 => ?_)
  ·
   refine Wp.region ?_
   refine Om1 rfl rfl ?_
   refine Om1 rfl rfl ?_
   refine Os1 rfl rfl rfl rfl ?_
   refine Os1 rfl rfl rfl rfl ?_
   refine Os1 rfl rfl rfl rfl ?_
   refine Ops.pv (pv_pick_false rfl rfl) rfl ?_
   refine Oa1 rfl rfl ?_
   refine On ?_
   refine Wp.seq ?_
   refine Wr ?_
   refine Of1 rfl rfl rfl ?_
   refine Ol1 rfl rfl rfl rfl ?_
   refine Ops.pv (pv_neq rfl rfl) rfl ?_
   refine On ?_
   refine Wp.cond_dect rfl (fun h87 => ?_) (fun h87 => ?_)
   ·
    refine Wp.region ?_
    refine Om1 rfl rfl ?_
    refine Om1 rfl rfl ?_
    refine Os1 rfl rfl rfl rfl ?_
    refine Os1 rfl rfl rfl rfl ?_
    refine Os1 rfl rfl rfl rfl ?_
    refine Ops.pv (pv_pick_false rfl rfl) rfl ?_
    refine Oa1 rfl rfl ?_
    refine On ?_
    refine Wp.seq ?_
    refine Wr ?_
    refine Om1 rfl rfl ?_
    refine Ops.pv (pv_not rfl) rfl ?_
    refine On ?_
    refine Wp.cond_true rfl ?_
    refine Wr ?_
    refine Oa1 rfl rfl ?_
    refine On ?_
    refine Wp.ret ?_
    refine Ends.then_ret ?_
    exact Ends.ret (res1 rfl rfl) ⟨by first | (rw [check_bad (by omega)]; done) | (rw [check_ok hr (by omega) (by unfold dOk; omega)]; done) | (rw [check_no hr (by omega) (by unfold dOk; omega)]; done), rfl⟩
   refine Wp.skip ?_
   refine Ends.seq ?_
   refine Wp.seq ?_
   refine Wr ?_
   refine Om1 rfl rfl ?_
   refine Ops.pv (pv_not rfl) rfl ?_
   refine On ?_
   refine Wp.cond_true rfl ?_
   refine Wr ?_
   refine Oa1 rfl rfl ?_
   refine On ?_
   refine Wp.ret ?_
   refine Ends.then_ret ?_
   exact Ends.ret (res1 rfl rfl) ⟨by first | (rw [check_bad (by omega)]; done) | (rw [check_ok hr (by omega) (by unfold dOk; omega)]; done) | (rw [check_no hr (by omega) (by unfold dOk; omega)]; done), rfl⟩
  refine Wp.skip ?_
  refine Ends.seq ?_
  refine Wp.seq ?_
  refine Wr ?_
  refine Of1 rfl rfl rfl ?_
  refine Ol1 rfl rfl rfl rfl ?_
  refine Ops.pv (pv_neq rfl rfl) rfl ?_
  refine On ?_
  refine Wp.cond_dect rfl (fun h88 => ?_) (fun h88 => ?_)
  ·
   refine Wp.region ?_
   refine Om1 rfl rfl ?_
   refine Om1 rfl rfl ?_
   refine Os1 rfl rfl rfl rfl ?_
   refine Os1 rfl rfl rfl rfl ?_
   refine Os1 rfl rfl rfl rfl ?_
   refine Ops.pv (pv_pick_false rfl rfl) rfl ?_
   refine Oa1 rfl rfl ?_
   refine On ?_
   refine Wp.seq ?_
   refine Wr ?_
   refine Om1 rfl rfl ?_
   refine Ops.pv (pv_not rfl) rfl ?_
   refine On ?_
   refine Wp.cond_true rfl ?_
   refine Wr ?_
   refine Oa1 rfl rfl ?_
   refine On ?_
   refine Wp.ret ?_
   refine Ends.then_ret ?_
   exact Ends.ret (res1 rfl rfl) ⟨by first | (rw [check_bad (by omega)]; done) | (rw [check_ok hr (by omega) (by unfold dOk; omega)]; done) | (rw [check_no hr (by omega) (by unfold dOk; omega)]; done), rfl⟩
  refine Wp.skip ?_
  refine Ends.seq ?_
  refine Wp.seq ?_
  refine Wr ?_
  refine Om1 rfl rfl ?_
  refine Ops.pv (pv_not rfl) rfl ?_
  refine On ?_
  refine Wp.cond_true rfl ?_
  refine Wr ?_
  refine Oa1 rfl rfl ?_
  refine On ?_
  refine Wp.ret ?_
  refine Ends.then_ret ?_
  exact Ends.ret (res1 rfl rfl) ⟨by first | (rw [check_bad (by omega)]; done) | (rw [check_ok hr (by omega) (by unfold dOk; omega)]; done) | (rw [check_no hr (by omega) (by unfold dOk; omega)]; done), rfl⟩
 refine Wp.skip ?_
 refine Ends.seq ?_
 refine Wp.seq ?_
 refine Wr ?_
 refine Of1 rfl rfl rfl ?_
 refine Ol1 rfl rfl rfl rfl ?_
 refine Ops.ef rfl (ef_callr (tr_righted c.kind) rfl rfl) ?_
 rintro _ _ ⟨rfl, rfl⟩
 refine Ops.pv (pv_not_dec rfl) rfl ?_
 refine On ?_
 refine Wp.cond_dect rfl (fun h89 => ?_) (fun h89 => ?_)
 ·
  refine Wp.region ?_
  refine Om1 rfl rfl ?_
  refine Om1 rfl rfl ?_
  refine Os1 rfl rfl rfl rfl ?_
  refine Os1 rfl rfl rfl rfl ?_
  refine Os1 rfl rfl rfl rfl ?_
  refine Ops.pv (pv_pick_false rfl rfl) rfl ?_
  refine Oa1 rfl rfl ?_
  refine On ?_
  refine Wp.seq ?_
  refine Wr ?_
  refine Of1 rfl rfl rfl ?_
  refine Ol1 rfl rfl rfl rfl ?_
  refine Ops.ef rfl (ef_callr (tr_badged c.kind) rfl rfl) ?_
  rintro _ _ ⟨rfl, rfl⟩
  refine Ops.pv (pv_not_dec rfl) rfl ?_
  refine On ?_
  refine Wp.cond_dect rfl (fun h90 => ?_) (fun h90 => ?_)
  ·
   refine Wp.region ?_
   refine Om1 rfl rfl ?_
   refine Om1 rfl rfl ?_
   refine Os1 rfl rfl rfl rfl ?_
   refine Os1 rfl rfl rfl rfl ?_
   refine Os1 rfl rfl rfl rfl ?_
   refine Ops.pv (pv_pick_false rfl rfl) rfl ?_
   refine Oa1 rfl rfl ?_
   refine On ?_
   refine Wp.seq ?_
   refine Wr ?_
   refine Of1 rfl rfl rfl ?_
   refine Ol1 rfl rfl rfl rfl ?_
   refine Ops.pv (pv_neq rfl rfl) rfl ?_
   refine On ?_
   refine Wp.cond_dect rfl (fun h91 => ?_) (fun h91 => ?_)
   ·
    refine Wp.region ?_
    refine Om1 rfl rfl ?_
    refine Om1 rfl rfl ?_
    refine Os1 rfl rfl rfl rfl ?_
    refine Os1 rfl rfl rfl rfl ?_
    refine Os1 rfl rfl rfl rfl ?_
    refine Ops.pv (pv_pick_false rfl rfl) rfl ?_
    refine Oa1 rfl rfl ?_
    refine On ?_
    refine Wp.seq ?_
    refine Wr ?_
    refine Om1 rfl rfl ?_
    refine Ops.pv (pv_not rfl) rfl ?_
    refine On ?_
    refine Wp.cond_true rfl ?_
    refine Wr ?_
    refine Oa1 rfl rfl ?_
    refine On ?_
    refine Wp.ret ?_
    refine Ends.then_ret ?_
    exact Ends.ret (res1 rfl rfl) ⟨by first | (rw [check_bad (by omega)]; done) | (rw [check_ok hr (by omega) (by unfold dOk; omega)]; done) | (rw [check_no hr (by omega) (by unfold dOk; omega)]; done), rfl⟩
   refine Wp.skip ?_
   refine Ends.seq ?_
   refine Wp.seq ?_
   refine Wr ?_
   refine Om1 rfl rfl ?_
   refine Ops.pv (pv_not rfl) rfl ?_
   refine On ?_
   refine Wp.cond_true rfl ?_
   refine Wr ?_
   refine Oa1 rfl rfl ?_
   refine On ?_
   refine Wp.ret ?_
   refine Ends.then_ret ?_
   exact Ends.ret (res1 rfl rfl) ⟨by first | (rw [check_bad (by omega)]; done) | (rw [check_ok hr (by omega) (by unfold dOk; omega)]; done) | (rw [check_no hr (by omega) (by unfold dOk; omega)]; done), rfl⟩
  refine Wp.skip ?_
  refine Ends.seq ?_
  refine Wp.seq ?_
  refine Wr ?_
  refine Of1 rfl rfl rfl ?_
  refine Ol1 rfl rfl rfl rfl ?_
  refine Ops.pv (pv_neq rfl rfl) rfl ?_
  refine On ?_
  refine Wp.cond_dect rfl (fun h92 => ?_) (fun h92 => ?_)
  ·
   refine Wp.region ?_
   refine Om1 rfl rfl ?_
   refine Om1 rfl rfl ?_
   refine Os1 rfl rfl rfl rfl ?_
   refine Os1 rfl rfl rfl rfl ?_
   refine Os1 rfl rfl rfl rfl ?_
   refine Ops.pv (pv_pick_false rfl rfl) rfl ?_
   refine Oa1 rfl rfl ?_
   refine On ?_
   refine Wp.seq ?_
   refine Wr ?_
   refine Om1 rfl rfl ?_
   refine Ops.pv (pv_not rfl) rfl ?_
   refine On ?_
   refine Wp.cond_true rfl ?_
   refine Wr ?_
   refine Oa1 rfl rfl ?_
   refine On ?_
   refine Wp.ret ?_
   refine Ends.then_ret ?_
   exact Ends.ret (res1 rfl rfl) ⟨by first | (rw [check_bad (by omega)]; done) | (rw [check_ok hr (by omega) (by unfold dOk; omega)]; done) | (rw [check_no hr (by omega) (by unfold dOk; omega)]; done), rfl⟩
  refine Wp.skip ?_
  refine Ends.seq ?_
  refine Wp.seq ?_
  refine Wr ?_
  refine Om1 rfl rfl ?_
  refine Ops.pv (pv_not rfl) rfl ?_
  refine On ?_
  refine Wp.cond_true rfl ?_
  refine Wr ?_
  refine Oa1 rfl rfl ?_
  refine On ?_
  refine Wp.ret ?_
  refine Ends.then_ret ?_
  exact Ends.ret (res1 rfl rfl) ⟨by first | (rw [check_bad (by omega)]; done) | (rw [check_ok hr (by omega) (by unfold dOk; omega)]; done) | (rw [check_no hr (by omega) (by unfold dOk; omega)]; done), rfl⟩
 refine Wp.skip ?_
 refine Ends.seq ?_
 refine Wp.seq ?_
 refine Wr ?_
 refine Of1 rfl rfl rfl ?_
 refine Ol1 rfl rfl rfl rfl ?_
 refine Ops.ef rfl (ef_callr (tr_badged c.kind) rfl rfl) ?_
 rintro _ _ ⟨rfl, rfl⟩
 refine Ops.pv (pv_not_dec rfl) rfl ?_
 refine On ?_
 refine Wp.cond_dect rfl (fun h93 => ?_) (fun h93 => ?_)
 ·
  refine Wp.region ?_
  refine Om1 rfl rfl ?_
  refine Om1 rfl rfl ?_
  refine Os1 rfl rfl rfl rfl ?_
  refine Os1 rfl rfl rfl rfl ?_
  refine Os1 rfl rfl rfl rfl ?_
  refine Ops.pv (pv_pick_false rfl rfl) rfl ?_
  refine Oa1 rfl rfl ?_
  refine On ?_
  refine Wp.seq ?_
  refine Wr ?_
  refine Of1 rfl rfl rfl ?_
  refine Ol1 rfl rfl rfl rfl ?_
  refine Ops.pv (pv_neq rfl rfl) rfl ?_
  refine On ?_
  refine Wp.cond_dect rfl (fun h94 => ?_) (fun h94 => ?_)
  ·
   refine Wp.region ?_
   refine Om1 rfl rfl ?_
   refine Om1 rfl rfl ?_
   refine Os1 rfl rfl rfl rfl ?_
   refine Os1 rfl rfl rfl rfl ?_
   refine Os1 rfl rfl rfl rfl ?_
   refine Ops.pv (pv_pick_false rfl rfl) rfl ?_
   refine Oa1 rfl rfl ?_
   refine On ?_
   refine Wp.seq ?_
   refine Wr ?_
   refine Om1 rfl rfl ?_
   refine Ops.pv (pv_not rfl) rfl ?_
   refine On ?_
   refine Wp.cond_true rfl ?_
   refine Wr ?_
   refine Oa1 rfl rfl ?_
   refine On ?_
   refine Wp.ret ?_
   refine Ends.then_ret ?_
   exact Ends.ret (res1 rfl rfl) ⟨by first | (rw [check_bad (by omega)]; done) | (rw [check_ok hr (by omega) (by unfold dOk; omega)]; done) | (rw [check_no hr (by omega) (by unfold dOk; omega)]; done), rfl⟩
  refine Wp.skip ?_
  refine Ends.seq ?_
  refine Wp.seq ?_
  refine Wr ?_
  refine Om1 rfl rfl ?_
  refine Ops.pv (pv_not rfl) rfl ?_
  refine On ?_
  refine Wp.cond_true rfl ?_
  refine Wr ?_
  refine Oa1 rfl rfl ?_
  refine On ?_
  refine Wp.ret ?_
  refine Ends.then_ret ?_
  exact Ends.ret (res1 rfl rfl) ⟨by first | (rw [check_bad (by omega)]; done) | (rw [check_ok hr (by omega) (by unfold dOk; omega)]; done) | (rw [check_no hr (by omega) (by unfold dOk; omega)]; done), rfl⟩
 refine Wp.skip ?_
 refine Ends.seq ?_
 refine Wp.seq ?_
 refine Wr ?_
 refine Of1 rfl rfl rfl ?_
 refine Ol1 rfl rfl rfl rfl ?_
 refine Ops.pv (pv_neq rfl rfl) rfl ?_
 refine On ?_
 refine Wp.cond_dect rfl (fun h95 => ?_) (fun h95 => ?_)
 ·
  refine Wp.region ?_
  refine Om1 rfl rfl ?_
  refine Om1 rfl rfl ?_
  refine Os1 rfl rfl rfl rfl ?_
  refine Os1 rfl rfl rfl rfl ?_
  refine Os1 rfl rfl rfl rfl ?_
  refine Ops.pv (pv_pick_false rfl rfl) rfl ?_
  refine Oa1 rfl rfl ?_
  refine On ?_
  refine Wp.seq ?_
  refine Wr ?_
  refine Om1 rfl rfl ?_
  refine Ops.pv (pv_not rfl) rfl ?_
  refine On ?_
  refine Wp.cond_true rfl ?_
  refine Wr ?_
  refine Oa1 rfl rfl ?_
  refine On ?_
  refine Wp.ret ?_
  refine Ends.then_ret ?_
  exact Ends.ret (res1 rfl rfl) ⟨by first | (rw [check_bad (by omega)]; done) | (rw [check_ok hr (by omega) (by unfold dOk; omega)]; done) | (rw [check_no hr (by omega) (by unfold dOk; omega)]; done), rfl⟩
 refine Wp.skip ?_
 refine Ends.seq ?_
 refine Wp.seq ?_
 refine Wr ?_
 refine Om1 rfl rfl ?_
 refine Ops.pv (pv_not rfl) rfl ?_
 refine On ?_
 refine Wp.cond_true rfl ?_
 refine Wr ?_
 refine Oa1 rfl rfl ?_
 refine On ?_
 refine Wp.ret ?_
 refine Ends.then_ret ?_
 exact Ends.ret (res1 rfl rfl) ⟨by first | (rw [check_bad (by omega)]; done) | (rw [check_ok hr (by omega) (by unfold dOk; omega)]; done) | (rw [check_no hr (by omega) (by unfold dOk; omega)]; done), rfl⟩
theorem tr_has4 (a n : Nat) (hn : 0 < n) (ha : a ≤ 7) : TrR Tryz.prog 129 [.int .i64 a, .int .i64 n] ([]) (.bool (decide (a / n % 2 = 1))) := by
 refine Tr.enter Tryz.func129 rfl Tryz.ntmps129 rfl (fun W F => ?_)
 refine Wp.app ?_
 refine Wr ?_
 refine Oa1 rfl rfl ?_
 refine On ?_
 refine Wr ?_
 refine Om1 rfl rfl ?_
 refine Om1 rfl rfl ?_
 refine Ops.pv (pv_quo rfl rfl (by omega) (w64n (k := a / n) (tdiv_nat rfl) (Nat.lt_of_le_of_lt (Nat.div_le_self a n) (by omega)))) rfl ?_
 refine Ops.pv (pv_rem rfl rfl (by omega) (tmod_nat (b := 2) rfl)) rfl ?_
 refine Ops.pv (pv_eql rfl rfl) rfl ?_
 refine Oa1 rfl rfl ?_
 refine On ?_
 refine Wp.ret ?_
 exact Ends.ret (res1 rfl rfl) ⟨congrArg Value.bool (decide_eq_decide.2 (by omega)), rfl⟩
theorem tr_mask4 (a b : Nat) (ha : a ≤ 7) (hb : b ≤ 7) : TrR Tryz.prog 120 [.int .i64 a, .int .i64 b] ([]) (.int .i64 (mask4 a b 3)) := by
 refine Tr.enter Tryz.func120 rfl Tryz.ntmps120 rfl (fun W F => ?_)
 refine Wp.app ?_
 refine Wr ?_
 refine Oa1 rfl rfl ?_
 refine On ?_
 refine Wp.seq ?_
 refine Wr ?_
 refine Om1 rfl rfl ?_
 refine Ops.ef rfl (ef_callr ((tr_check4 a).eq (r' := .bool true) (congrArg Value.bool (decide_eq_true (by omega)))) rfl rfl) ?_
 rintro _ _ ⟨rfl, rfl⟩
 refine Ops.pv (pv_not rfl) rfl ?_
 refine Om1 rfl rfl ?_
 refine Ops.pvg ⟨_, _, rfl, rfl, rfl⟩ (pv_move rfl) rfl ?_
 refine Ops.efg ⟨_, _, rfl, rfl, rfl⟩ (ef_callr ((tr_check4 b).eq (r' := .bool true) (congrArg Value.bool (decide_eq_true (by omega)))) rfl rfl) ?_
 rintro _ _ ⟨rfl, rfl⟩
 refine Ops.pvg ⟨_, _, rfl, rfl, rfl⟩ (pv_not rfl) rfl ?_
 refine Ops.pv (pv_pick_false rfl rfl) rfl ?_
 refine On ?_
 refine Wp.cond_false rfl ?_
 refine Wp.skip ?_
 refine Ends.seq ?_
 refine Wr ?_
 refine Oa1 rfl rfl ?_
 refine On ?_
 refine Wp.seq ?_
 refine Wr ?_
 refine Oa1 rfl rfl ?_
 refine On ?_
 refine Wp.block ?_
 rename_i F
 refine Wp.loopK (σ := Nat × Nat) [(0, _), (1, _)] (fun s => [(5, .int .i64 (s.2 : Nat)), (6, .int .i64 ((2 ^ s.1 : Nat) : Int))]) (fun s => F) (fun s => s.1 ≤ 3 ∧ s.2 = mask4 a b s.1) (fun s => 3 - s.1) (0, 0) ⟨by omega, rfl⟩ ⟨rfl, rfl, trivial⟩ ⟨rfl, rfl, trivial⟩ (by intro w ho; (try dsimp only [List.nil_append, List.cons_append]); exact Drop.own ho) ?_
 rintro ⟨k, m⟩ KK ⟨hk, hm⟩ hK
 dsimp only [List.cons_append, List.nil_append] at hK ⊢
 dsimp only at hk hm ⊢
 refine Wp.seq ?_
 refine Wr ?_
 refine Om1 rfl rfl ?_
 refine Ops.pv (pv_leq rfl rfl) rfl ?_
 refine On ?_
 refine Wp.cond_dect rfl (fun h1 => ?_) (fun h1 => ?_)
 ·
  have hk3 : k < 3 := by
   rcases Nat.lt_or_ge k 3 with h | h
   ·
    exact h
   ·
    exfalso; have : (2 : Nat) ^ 3 ≤ 2 ^ k := Nat.pow_le_pow_right (by omega) h; omega
  have hml := mask4_lt a b k
  have hp8 : (2 : Nat) ^ k ≤ 2 ^ 3 := Nat.pow_le_pow_right (by omega) (by omega)
  refine Wp.skip ?_
  refine Ends.seq ?_
  refine Wp.seq ?_
  refine Wp.block ?_
  refine Wr ?_
  refine Om1 rfl rfl ?_
  refine Om1 rfl rfl ?_
  refine Ops.ef rfl (ef_callr (tr_has4 a (2 ^ k) (Nat.pow_pos (by omega)) ha) rfl rfl) ?_
  rintro _ _ ⟨rfl, rfl⟩
  refine Om1 rfl rfl ?_
  refine Ops.split (t := 22) rfl (fun h2 => ?_) (fun h2 => ?_)
  ·
   refine Ops.pvg ⟨_, _, rfl, rfl, rfl⟩ (pv_move rfl) rfl ?_
   refine Ops.pvg ⟨_, _, rfl, rfl, rfl⟩ (pv_move rfl) rfl ?_
   refine Ops.efg ⟨_, _, rfl, rfl, rfl⟩ (ef_callr (tr_has4 b (2 ^ k) (Nat.pow_pos (by omega)) hb) rfl rfl) ?_
   rintro _ _ ⟨rfl, rfl⟩
   refine Ops.pv (pv_pick_true rfl rfl) rfl ?_
   refine On ?_
   refine Wp.cond_dect rfl (fun h3 => ?_) (fun h3 => ?_)
   ·
    refine Wp.region ?_
    refine Om1 rfl rfl ?_
    refine Om1 rfl rfl ?_
    refine Ops.pv (pv_add rfl rfl (w64n (k := m + 2 ^ k) (by push_cast; rfl) (by omega))) rfl ?_
    refine Oa1 rfl rfl ?_
    refine Ops.nil ?_
    refine Ends.block_normal ?_
    refine Ends.seq ?_
    refine Wp.region ?_
    refine Om1 rfl rfl ?_
    refine Ops.pv (pv_mul rfl rfl (w64n (k := 2 ^ (k + 1)) (by rw [Nat.pow_succ, Nat.mul_comm]; push_cast; rfl) (by rw [Nat.pow_succ]; omega))) rfl ?_
    refine Oa1 rfl rfl ?_
    refine Ops.nil ?_
    refine Ends.goes ?_
    refine Goes.back (hK (k + 1, m + 2 ^ k) ⟨by dsimp only; omega, by dsimp only; rw [hm]; simp only [mask4]; simp_all⟩ (by dsimp only; omega)) ⟨rfl, rfl, rfl, rfl, trivial⟩
   refine Wp.skip ?_
   refine Ends.block_normal ?_
   refine Ends.seq ?_
   refine Wp.region ?_
   refine Om1 rfl rfl ?_
   refine Ops.pv (pv_mul rfl rfl (w64n (k := 2 ^ (k + 1)) (by rw [Nat.pow_succ, Nat.mul_comm]; push_cast; rfl) (by rw [Nat.pow_succ]; omega))) rfl ?_
   refine Oa1 rfl rfl ?_
   refine Ops.nil ?_
   refine Ends.goes ?_
   refine Goes.back (hK (k + 1, m) ⟨by dsimp only; omega, by dsimp only; rw [hm]; simp only [mask4]; simp_all⟩ (by dsimp only; omega)) ⟨rfl, rfl, rfl, rfl, trivial⟩
  refine Os1 rfl rfl rfl rfl ?_
  refine Os1 rfl rfl rfl rfl ?_
  refine Os1 rfl rfl rfl rfl ?_
  refine Ops.pv (pv_pick_false rfl rfl) rfl ?_
  refine On ?_
  refine Wp.cond_false rfl ?_
  refine Wp.skip ?_
  refine Ends.block_normal ?_
  refine Ends.seq ?_
  refine Wp.region ?_
  refine Om1 rfl rfl ?_
  refine Ops.pv (pv_mul rfl rfl (w64n (k := 2 ^ (k + 1)) (by rw [Nat.pow_succ, Nat.mul_comm]; push_cast; rfl) (by rw [Nat.pow_succ]; omega))) rfl ?_
  refine Oa1 rfl rfl ?_
  refine Ops.nil ?_
  refine Ends.goes ?_
  refine Goes.back (hK (k + 1, m) ⟨by dsimp only; omega, by dsimp only; rw [hm]; simp only [mask4]; simp_all⟩ (by dsimp only; omega)) ⟨rfl, rfl, rfl, rfl, trivial⟩
 obtain rfl : k = 3 := by
  rcases Nat.lt_or_ge k 3 with h | h
  ·
   exfalso; have : (2 : Nat) ^ k ≤ 2 ^ 2 := Nat.pow_le_pow_right (by omega) (by omega); omega
  ·
   omega
 refine Wp.exit ?_
 refine Ends.then_exit ?_
 refine Ends.then_exit ?_
 refine Ends.block_hit ?_
 refine Ends.seq ?_
 refine Wr ?_
 refine Om1 rfl rfl ?_
 refine Oa1 rfl rfl ?_
 refine On ?_
 refine Wp.ret ?_
 rw [hm]
 exact Ends.ret (res1 rfl rfl) ⟨rfl, rfl⟩
theorem tr_mask4I (a b : Int) (ha : 0 ≤ a ∧ a ≤ 7) (hb : 0 ≤ b ∧ b ≤ 7) : TrR Tryz.prog 120 [.int .i64 a, .int .i64 b] [] (.int .i64 (mask4 a.toNat b.toNat 3)) := by
 obtain ⟨m, rfl⟩ : ∃ m : Nat, a = m := ⟨a.toNat, by omega⟩
 obtain ⟨k, rfl⟩ : ∃ k : Nat, b = k := ⟨b.toNat, by omega⟩
 exact tr_mask4 m k (by omega) (by omega)
end Go.Proofs.YtdodfnjmkpgdbaaGreat
end
section
set_option linter.unusedVariables false
set_option linter.unusedSimpArgs false
namespace Go.Proofs.YtdodfnjmkpgdbaaGreat
open Go.SL
theorem tr_dat (uT : Value) (qb : Nat) (L : Hp) (l : List DN) (hH : DstH uT l qb L) (hl : l.length ≤ 2 ^ 20) (x : Int) : TrR Tryz.prog 57 [.pointer (some ⟨qb, 0, none⟩), .int .i64 x] (L) (.int .i64 (idxM (dIds l) x)) := by
 obtain ⟨v, H, hs, rfl⟩ := hH
 obtain ⟨a, c0, rfl⟩ := hs.form
 have hv := hs.view
 refine Tr.enter Tryz.func57 rfl Tryz.ntmps57 rfl (fun W F => ?_)
 refine Wp.app ?_
 refine Wr ?_
 refine Oa1 rfl rfl ?_
 refine On ?_
 refine Wp.seq ?_
 refine Wr ?_
 refine Oa1 rfl rfl ?_
 refine On ?_
 refine Wp.block ?_
 refine Wp.loopK (σ := Nat) [(0, _), (1, _)] (fun s => [(5, .int .i64 s)]) (fun s => dBlk uT qb (.slice a l.length c0) :: (H ++ (dCaps l ++ F))) (fun s => s ≤ l.length ∧ ∀ j, j < s → (dIds l)[j]? ≠ some x) (fun s => l.length - s) 0 ⟨Nat.zero_le _, fun j hj => absurd hj (Nat.not_lt_zero j)⟩ ⟨rfl, rfl, trivial⟩ ⟨rfl, trivial⟩ (by intro w ho; (try dsimp only [List.nil_append, List.cons_append]); exact Drop.own ho) ?_
 rintro i KK ⟨hi, hn⟩ hK
 dsimp only [List.cons_append, List.nil_append] at hK ⊢
 refine Wp.seq ?_
 refine Wr ?_
 refine Om1 rfl rfl ?_
 refine Om1 rfl rfl ?_
 refine Ops.pv (pv_nilCheck rfl) rfl ?_
 refine Of1 rfl rfl rfl ?_
 refine Ol1 rfl rfl rfl rfl ?_
 refine Ops.pv (pv_len_slice (T := 43) rfl rfl) rfl ?_
 refine Ops.pv (pv_lss rfl rfl) rfl ?_
 refine On ?_
 refine Wp.cond_dect rfl (fun h1 => ?_) (fun h1 => ?_)
 ·
  obtain ⟨b, o, cap, cc, T, f, hv1, hbv, hr⟩ := hv.open (by omega)
  cases hv1
  obtain ⟨d, hd⟩ : ∃ d, l[i]? = some d := ⟨_, List.getElem?_eq_getElem (by omega)⟩
  have hyd := dids_idx hd
  obtain ⟨q0, q1, q2, _⟩ := cel_reads (f := dnC) hr hd
  refine Wp.skip ?_
  refine Ends.seq ?_
  refine Wp.seq ?_
  refine Wp.block ?_
  refine Wr ?_
  refine Om1 rfl rfl ?_
  refine Ops.pv (pv_nilCheck rfl) rfl ?_
  refine Of1 rfl rfl rfl ?_
  refine Ol1 rfl rfl rfl rfl ?_
  refine Om1 rfl rfl ?_
  refine Ops.pv (pv_indexAddr (i := i) rfl rfl rfl (by omega)) rfl ?_
  refine Ops.pv (pv_fieldAddr rfl rfl) rfl ?_
  refine Ops.pv (pv_load rfl rfl q0) rfl ?_
  refine Om1 rfl rfl ?_
  refine Ops.pv (pv_eql rfl rfl) rfl ?_
  refine On ?_
  refine Wp.cond_dect rfl (fun h2 => ?_) (fun h2 => ?_)
  ·
   refine Wr ?_
   refine Om1 rfl rfl ?_
   refine Oa1 rfl rfl ?_
   refine On ?_
   refine Wp.ret ?_
   refine Ends.block_ret ?_
   refine Ends.then_ret ?_
   refine Ends.then_ret ?_
   refine Ends.block_ret ?_
   refine Ends.then_ret ?_
   exact Ends.ret (res1 rfl rfl) ⟨by rw [idx_hit (i := i) (by rw [hyd]; congr 1) hn], rfl⟩
  refine Wp.skip ?_
  refine Ends.block_normal ?_
  refine Ends.seq ?_
  refine Wp.region ?_
  refine Om1 rfl rfl ?_
  refine Ops.pv (pv_add rfl rfl (w64 (by omega) (by omega))) rfl ?_
  refine Oa1 rfl rfl ?_
  refine Ops.nil ?_
  refine Ends.goes ?_
  refine Goes.back (hK (i + 1) ⟨by omega, fun j hj => ?_⟩ (by omega)) ⟨rfl, rfl, rfl, trivial⟩
  rcases Nat.lt_succ_iff_lt_or_eq.1 hj with hj | rfl
  ·
   exact hn j hj
  rw [hyd]; intro e; cases e; omega
 refine Wp.exit ?_
 refine Ends.then_exit ?_
 refine Ends.then_exit ?_
 refine Ends.block_hit ?_
 refine Ends.seq ?_
 refine Wr ?_
 refine Oa1 rfl rfl ?_
 refine On ?_
 refine Wp.ret ?_
 exact Ends.ret (res1 rfl rfl) ⟨by rw [idx_miss (fun j hj => hn j (by rw [dIds_len] at hj; omega))], rfl⟩
theorem tr_dradix_none (uT : Value) (qb : Nat) (L : Hp) (l : List DN) (hH : DstH uT l qb L) (hl : l.length ≤ 2 ^ 20) (x : Int) (h : dfind l x = none) : TrR Tryz.prog 10 [.pointer (some ⟨qb, 0, none⟩), .int .i64 x] (L) (.int .i64 0) := by
 obtain ⟨v, H, hs, rfl⟩ := hH
 obtain ⟨a, c0, rfl⟩ := hs.form
 have hv := hs.view
 refine Tr.enter Tryz.func10 rfl Tryz.ntmps10 rfl (fun W F => ?_)
 refine Wp.app ?_
 refine Wr ?_
 refine Oa1 rfl rfl ?_
 refine On ?_
 refine Wr ?_
 refine Om1 rfl rfl ?_
 refine Om1 rfl rfl ?_
 refine Ops.ef rfl (ef_callr ((tr_dat uT qb _ l ⟨_, H, hs, rfl⟩ hl x).eq (by rw [dfind_none h])) rfl rfl) ?_
 rintro _ _ ⟨rfl, rfl⟩
 refine Oa1 rfl rfl ?_
 refine On ?_
 refine Wp.seq ?_
 refine Wr ?_
 refine Om1 rfl rfl ?_
 refine Ops.pv ((pv_lss rfl rfl).tru (by first | rfl | decide | omega | assumption | (simp; done) | (simp; omega))) rfl ?_
 refine On ?_
 refine Wp.cond_true rfl ?_
 refine Wr ?_
 refine Oa1 rfl rfl ?_
 refine On ?_
 refine Wp.ret ?_
 refine Ends.then_ret ?_
 exact Ends.ret (res1 rfl rfl) ⟨rfl, rfl⟩
theorem tr_dradix_some (uT : Value) (qb : Nat) (L : Hp) (l : List DN) (hH : DstH uT l qb L) (hl : l.length ≤ 2 ^ 20) (x : Int) (d : DN) (h : dfind l x = some d) : TrR Tryz.prog 10 [.pointer (some ⟨qb, 0, none⟩), .int .i64 x] (L) (.int .i64 d.rad) := by
 obtain ⟨v, H, hs, rfl⟩ := hH
 obtain ⟨a, c0, rfl⟩ := hs.form
 have hv := hs.view
 obtain ⟨i, hi, hd, hid⟩ := dfind_some h
 have hlt := d_lt hd
 obtain ⟨b, o, cap, cc, T, f, hv1, hbv, hr⟩ := hv.open (by omega)
 cases hv1
 obtain ⟨q0, q1, q2, _⟩ := cel_reads (f := dnC) hr hd
 refine Tr.enter Tryz.func10 rfl Tryz.ntmps10 rfl (fun W F => ?_)
 refine Wp.app ?_
 refine Wr ?_
 refine Oa1 rfl rfl ?_
 refine On ?_
 refine Wr ?_
 refine Om1 rfl rfl ?_
 refine Om1 rfl rfl ?_
 refine Ops.ef rfl (ef_callr ((tr_dat uT qb _ l ⟨_, H, hs, rfl⟩ hl x).eq (by rw [hi])) rfl rfl) ?_
 rintro _ _ ⟨rfl, rfl⟩
 refine Oa1 rfl rfl ?_
 refine On ?_
 refine Wp.seq ?_
 refine Wr ?_
 refine Om1 rfl rfl ?_
 refine Ops.pv ((pv_lss rfl rfl).fls (by first | exact fun h => h rfl | decide | omega | assumption)) rfl ?_
 refine On ?_
 refine Wp.cond_false rfl ?_
 refine Wp.skip ?_
 refine Ends.seq ?_
 refine Wr ?_
 refine Om1 rfl rfl ?_
 refine Ops.pv (pv_nilCheck rfl) rfl ?_
 refine Of1 rfl rfl rfl ?_
 refine Ol1 rfl rfl rfl rfl ?_
 refine Om1 rfl rfl ?_
 refine Ops.pv (pv_indexAddr (i := i) rfl rfl rfl (by omega)) rfl ?_
 refine Ops.pv (pv_fieldAddr rfl rfl) rfl ?_
 refine Ops.pv (pv_load rfl rfl q1) rfl ?_
 refine Oa1 rfl rfl ?_
 refine On ?_
 refine Wp.ret ?_
 exact Ends.ret (res1 rfl rfl) ⟨rfl, rfl⟩
theorem tr_dradix (uT : Value) (qb : Nat) (L : Hp) (l : List DN) (hH : DstH uT l qb L) (hl : l.length ≤ 2 ^ 20) (x : Int) : TrR Tryz.prog 10 [.pointer (some ⟨qb, 0, none⟩), .int .i64 x] L (.int .i64 (dradix l x)) := by
 cases h : dfind l x with
 | none => exact (tr_dradix_none uT qb L l hH hl x h).eq (by simp [dradix, h])
 | some d => exact (tr_dradix_some uT qb L l hH hl x d h).eq (by simp [dradix, h])
theorem tr_dis_none (uT : Value) (qb : Nat) (L : Hp) (l : List DN) (hH : DstH uT l qb L) (hl : l.length ≤ 2 ^ 20) (s : SlotM) (h : dfind l s.1 = none) : TrR Tryz.prog 98 [.pointer (some ⟨qb, 0, none⟩), slotV s] (L) (.bool false) := by
 obtain ⟨v, H, hs, rfl⟩ := hH
 obtain ⟨a, c0, rfl⟩ := hs.form
 have hv := hs.view
 refine Tr.enter Tryz.func98 rfl Tryz.ntmps98 rfl (fun W F => ?_)
 refine Wp.app ?_
 refine Wr ?_
 refine Ops.ef rfl (ef_boxK rfl rfl) ?_
 rintro _ _ ⟨b1, rfl, rfl⟩
 refine Oa1 rfl rfl ?_
 refine On ?_
 refine Wr ?_
 refine Om1 rfl rfl ?_
 refine Of1 rfl rfl rfl ?_
 refine Ol1 rfl rfl rfl rfl ?_
 refine Ops.ef rfl (ef_callr ((tr_dat uT qb _ l ⟨_, H, hs, rfl⟩ hl s.1).eq (by rw [dfind_none h])) rfl rfl) ?_
 rintro _ _ ⟨rfl, rfl⟩
 refine Oa1 rfl rfl ?_
 refine On ?_
 refine Wp.seq ?_
 refine AnyH.startL 22 rfl ?_
 refine Tk 0 rfl rfl (pv_move rfl) rfl ?_
 refine Tk 1 rfl rfl ((pv_geq rfl rfl).fls (by first | exact fun h => h rfl | decide | omega | assumption)) rfl ?_
 refine Tk 2 rfl rfl (pv_move rfl) rfl ?_
 refine Ts 3 rfl ⟨_, _, rfl, rfl, rfl⟩ rfl ?_
 refine Ts 4 rfl ⟨_, _, rfl, rfl, rfl⟩ rfl ?_
 refine Ts 5 rfl ⟨_, _, rfl, rfl, rfl⟩ rfl ?_
 refine Tk 6 rfl rfl (pv_pick_false rfl rfl) rfl ?_
 refine Tk 7 rfl rfl (pv_move rfl) rfl ?_
 refine Ts 8 rfl ⟨_, _, rfl, rfl, rfl⟩ rfl ?_
 refine Ts 9 rfl ⟨_, _, rfl, rfl, rfl⟩ rfl ?_
 refine Ts 10 rfl ⟨_, _, rfl, rfl, rfl⟩ rfl ?_
 refine Ts 11 rfl ⟨_, _, rfl, rfl, rfl⟩ rfl ?_
 refine Ts 12 rfl ⟨_, _, rfl, rfl, rfl⟩ rfl ?_
 refine Ts 13 rfl ⟨_, _, rfl, rfl, rfl⟩ rfl ?_
 refine Ts 14 rfl ⟨_, _, rfl, rfl, rfl⟩ rfl ?_
 refine Ts 15 rfl ⟨_, _, rfl, rfl, rfl⟩ rfl ?_
 refine Ts 16 rfl ⟨_, _, rfl, rfl, rfl⟩ rfl ?_
 refine Ts 17 rfl ⟨_, _, rfl, rfl, rfl⟩ rfl ?_
 refine Ts 18 rfl ⟨_, _, rfl, rfl, rfl⟩ rfl ?_
 refine Ts 19 rfl ⟨_, _, rfl, rfl, rfl⟩ rfl ?_
 refine Tk 20 rfl rfl (pv_pick_false rfl rfl) rfl ?_
 refine Tk 21 rfl rfl (pv_assign rfl) rfl ?_
 refine AnyH.done (by kernel_rfl) ?_
 refine Ends.seq ?_
 refine Wp.ret ?_
 exact Ends.ret (res1 rfl rfl) ⟨rfl, rfl⟩
theorem tr_dis_some (uT : Value) (qb : Nat) (L : Hp) (l : List DN) (hH : DstH uT l qb L) (hl : l.length ≤ 2 ^ 20) (s : SlotM) (d : DN) (h : dfind l s.1 = some d) : TrR Tryz.prog 98 [.pointer (some ⟨qb, 0, none⟩), slotV s] (L) (.bool (decide (0 ≤ s.2 ∧ s.2 < d.caps.length))) := by
 obtain ⟨v, H, hs, rfl⟩ := hH
 obtain ⟨a, c0, rfl⟩ := hs.form
 have hv := hs.view
 obtain ⟨i, hi, hd, hid⟩ := dfind_some h
 have hlt := d_lt hd
 obtain ⟨b, o, cap, cc, T, f, hv1, hbv, hr⟩ := hv.open (by omega)
 cases hv1
 obtain ⟨q0, q1, q2, _⟩ := cel_reads (f := dnC) hr hd
 refine Tr.enter Tryz.func98 rfl Tryz.ntmps98 rfl (fun W F => ?_)
 refine Wp.app ?_
 refine Wr ?_
 refine Ops.ef rfl (ef_boxK rfl rfl) ?_
 rintro _ _ ⟨b1, rfl, rfl⟩
 refine Oa1 rfl rfl ?_
 refine On ?_
 refine Wr ?_
 refine Om1 rfl rfl ?_
 refine Of1 rfl rfl rfl ?_
 refine Ol1 rfl rfl rfl rfl ?_
 refine Ops.ef rfl (ef_callr ((tr_dat uT qb _ l ⟨_, H, hs, rfl⟩ hl s.1).eq (by rw [hi])) rfl rfl) ?_
 rintro _ _ ⟨rfl, rfl⟩
 refine Oa1 rfl rfl ?_
 refine On ?_
 refine Wp.seq ?_
 refine AnyH.startL 22 rfl ?_
 refine Tk 0 rfl rfl (pv_move rfl) rfl ?_
 refine Tk 1 rfl rfl ((pv_geq rfl rfl).tru (by first | rfl | decide | omega | assumption | (simp; done) | (simp; omega))) rfl ?_
 refine Tk 2 rfl rfl (pv_move rfl) rfl ?_
 refine Tk 3 rfl ⟨_, _, rfl, rfl, rfl⟩ (pv_fieldAddr0 rfl rfl) rfl ?_
 refine Tk 4 rfl ⟨_, _, rfl, rfl, rfl⟩ (pv_load rfl rfl rfl) rfl ?_
 refine Tk 5 rfl ⟨_, _, rfl, rfl, rfl⟩ (pv_geq rfl rfl) rfl ?_
 refine Tk 6 rfl rfl (pv_pick_true rfl rfl) rfl ?_
 refine Tk 7 rfl rfl (pv_move rfl) rfl ?_
 refine AnyH.takec 8 rfl (by kernel_rfl) (by kernel_rfl) (by kernel_rfl) PF.pf rfl rfl (fun hg => pv_fieldAddr0 rfl rfl) rfl ?_
 refine AnyH.takec 9 rfl (by kernel_rfl) (by kernel_rfl) (by kernel_rfl) PF.pf rfl rfl (fun hg => Pv.setE (t := 18) rfl (cv_pos hg) (pv_load rfl rfl rfl)) rfl ?_
 refine AnyH.takec 10 rfl (by kernel_rfl) (by kernel_rfl) (by kernel_rfl) PF.pf rfl rfl (fun hg => Pv.setE (t := 18) rfl (cv_pos hg) (Pv.setE (t := 19) rfl (cv_pos hg) (pv_move rfl))) rfl ?_
 refine AnyH.takec 11 rfl (by kernel_rfl) (by kernel_rfl) (by kernel_rfl) PF.pf rfl rfl (fun hg => Pv.setE (t := 18) rfl (cv_pos hg) (Pv.setE (t := 19) rfl (cv_pos hg) (Pv.setE (t := 20) rfl (cv_pos hg) (pv_nilCheck rfl)))) rfl ?_
 refine AnyH.takec 12 rfl (by kernel_rfl) (by kernel_rfl) (by kernel_rfl) PF.pf rfl rfl (fun hg => Pv.setE (t := 18) rfl (cv_pos hg) (Pv.setE (t := 19) rfl (cv_pos hg) (Pv.setE (t := 20) rfl (cv_pos hg) (Pv.setE (t := 21) rfl (cv_pos hg) (pv_fieldAddr0 rfl rfl))))) rfl ?_
 refine AnyH.takec 13 rfl (by kernel_rfl) (by kernel_rfl) (by kernel_rfl) PF.pf rfl rfl (fun hg => Pv.setE (t := 18) rfl (cv_pos hg) (Pv.setE (t := 19) rfl (cv_pos hg) (Pv.setE (t := 20) rfl (cv_pos hg) (Pv.setE (t := 21) rfl (cv_pos hg) (Pv.setE (t := 22) rfl (cv_pos hg) (pv_load rfl rfl rfl)))))) rfl ?_
 refine AnyH.takec 14 rfl (by kernel_rfl) (by kernel_rfl) (by kernel_rfl) PF.pf rfl rfl (fun hg => Pv.setE (t := 18) rfl (cv_pos hg) (Pv.setE (t := 19) rfl (cv_pos hg) (Pv.setE (t := 20) rfl (cv_pos hg) (Pv.setE (t := 21) rfl (cv_pos hg) (Pv.setE (t := 22) rfl (cv_pos hg) (Pv.setE (t := 23) rfl (cv_pos hg) (pv_move rfl))))))) rfl ?_
 refine AnyH.takec 15 rfl (by kernel_rfl) (by kernel_rfl) (by kernel_rfl) PF.pf rfl rfl (fun hg => Pv.setE (t := 18) rfl (cv_pos hg) (Pv.setE (t := 19) rfl (cv_pos hg) (Pv.setE (t := 20) rfl (cv_pos hg) (Pv.setE (t := 21) rfl (cv_pos hg) (Pv.setE (t := 22) rfl (cv_pos hg) (Pv.setE (t := 23) rfl (cv_pos hg) (Pv.setE (t := 24) rfl (cv_pos hg) (pv_indexAddr (i := i) rfl rfl rfl (by omega))))))))) rfl ?_
 refine AnyH.takec 16 rfl (by kernel_rfl) (by kernel_rfl) (by kernel_rfl) PF.pf rfl rfl (fun hg => Pv.setE (t := 18) rfl (cv_pos hg) (Pv.setE (t := 19) rfl (cv_pos hg) (Pv.setE (t := 20) rfl (cv_pos hg) (Pv.setE (t := 21) rfl (cv_pos hg) (Pv.setE (t := 22) rfl (cv_pos hg) (Pv.setE (t := 23) rfl (cv_pos hg) (Pv.setE (t := 24) rfl (cv_pos hg) (Pv.setE (t := 25) rfl (cv_pos hg) (pv_fieldAddr rfl rfl))))))))) rfl ?_
 refine AnyH.takec 17 rfl (by kernel_rfl) (by kernel_rfl) (by kernel_rfl) PF.pf rfl rfl (fun hg => Pv.setE (t := 18) rfl (cv_pos hg) (Pv.setE (t := 19) rfl (cv_pos hg) (Pv.setE (t := 20) rfl (cv_pos hg) (Pv.setE (t := 21) rfl (cv_pos hg) (Pv.setE (t := 22) rfl (cv_pos hg) (Pv.setE (t := 23) rfl (cv_pos hg) (Pv.setE (t := 24) rfl (cv_pos hg) (Pv.setE (t := 25) rfl (cv_pos hg) (Pv.setE (t := 26) rfl (cv_pos hg) (pv_load rfl rfl q2)))))))))) rfl ?_
 refine AnyH.takec 18 rfl (by kernel_rfl) (by kernel_rfl) (by kernel_rfl) PF.pf rfl rfl (fun hg => Pv.setE (t := 18) rfl (cv_pos hg) (Pv.setE (t := 19) rfl (cv_pos hg) (Pv.setE (t := 20) rfl (cv_pos hg) (Pv.setE (t := 21) rfl (cv_pos hg) (Pv.setE (t := 22) rfl (cv_pos hg) (Pv.setE (t := 23) rfl (cv_pos hg) (Pv.setE (t := 24) rfl (cv_pos hg) (Pv.setE (t := 25) rfl (cv_pos hg) (Pv.setE (t := 26) rfl (cv_pos hg) (Pv.setE (t := 27) rfl (cv_pos hg) (pv_len_slice (T := 67) rfl rfl))))))))))) rfl ?_
 refine AnyH.takec 19 rfl (by kernel_rfl) (by kernel_rfl) (by kernel_rfl) PF.pf rfl rfl (fun hg => Pv.setE (t := 18) rfl (cv_pos hg) (Pv.setE (t := 19) rfl (cv_pos hg) (Pv.setE (t := 20) rfl (cv_pos hg) (Pv.setE (t := 21) rfl (cv_pos hg) (Pv.setE (t := 22) rfl (cv_pos hg) (Pv.setE (t := 23) rfl (cv_pos hg) (Pv.setE (t := 24) rfl (cv_pos hg) (Pv.setE (t := 25) rfl (cv_pos hg) (Pv.setE (t := 26) rfl (cv_pos hg) (Pv.setE (t := 27) rfl (cv_pos hg) (Pv.setE (t := 28) rfl (cv_pos hg) (pv_lss rfl rfl)))))))))))) rfl ?_
 refine Tk 20 rfl rfl (pv_pick_and rfl rfl) rfl ?_
 refine Tk 21 rfl rfl (pv_assign rfl) rfl ?_
 refine AnyH.done (by kernel_rfl) ?_
 refine Ends.seq ?_
 refine Wp.ret ?_
 exact Ends.ret (res1 rfl rfl) ⟨rfl, rfl⟩
theorem tr_dis_no (uT : Value) (qb : Nat) (L : Hp) (l : List DN) (hH : DstH uT l qb L) (hl : l.length ≤ 2 ^ 20) (s : SlotM) (h : dcap? l s = none) : TrR Tryz.prog 98 [.pointer (some ⟨qb, 0, none⟩), slotV s] L (.bool false) := by
 cases e : dfind l s.1 with
 | none => exact tr_dis_none uT qb L l hH hl s e
 | some d => exact (tr_dis_some uT qb L l hH hl s d e).eq (by rw [decide_eq_false (dcap_none h e)])
theorem tr_dis_yes (uT : Value) (qb : Nat) (L : Hp) (l : List DN) (hH : DstH uT l qb L) (hl : l.length ≤ 2 ^ 20) (s : SlotM) (x : CapM) (h : dcap? l s = some x) : TrR Tryz.prog 98 [.pointer (some ⟨qb, 0, none⟩), slotV s] L (.bool true) := by
 obtain ⟨d, e, hh, _⟩ := dcap_some h
 exact (tr_dis_some uT qb L l hH hl s d e).eq (by rw [decide_eq_true hh])
theorem tr_dget_none (uT : Value) (qb : Nat) (L : Hp) (l : List DN) (hH : DstH uT l qb L) (hl : l.length ≤ 2 ^ 20) (s : SlotM) (h : dcap? l s = none) : TrR Tryz.prog 52 [.pointer (some ⟨qb, 0, none⟩), slotV s] (L) (.tuple #[CapM.zero.v, .int .i64 6]) := by
 obtain ⟨v, H, hs, rfl⟩ := hH
 obtain ⟨a, c0, rfl⟩ := hs.form
 have hv := hs.view
 refine Tr.enter Tryz.func52 rfl Tryz.ntmps52 rfl (fun W F => ?_)
 refine Wp.app ?_
 refine Wr ?_
 refine Ops.ef rfl (ef_boxK rfl rfl) ?_
 rintro _ _ ⟨b1, rfl, rfl⟩
 refine Ops.ef rfl (ef_allocK tyZ25 rfl) ?_
 rintro _ _ ⟨b2, rfl, rfl⟩
 refine Oa1 rfl rfl ?_
 refine On ?_
 refine Wp.seq ?_
 refine Wr ?_
 refine Om1 rfl rfl ?_
 refine Ops.pv (pv_loadK [_, _] rfl rfl rfl ⟨rfl, rfl, trivial⟩) rfl ?_
 refine Ops.ef rfl (ef_callr (tr_dis_no uT qb _ l ⟨_, H, hs, rfl⟩ hl s h) rfl rfl) ?_
 rintro _ _ ⟨rfl, rfl⟩
 refine Ops.pv (pv_not rfl) rfl ?_
 refine On ?_
 refine Wp.cond_true rfl ?_
 refine Wr ?_
 refine Ops.pv (pv_build rfl) rfl ?_
 refine Ops.ef rfl (ef_storeK rfl rfl rfl rfl) ?_
 rintro _ _ ⟨rfl, rfl⟩
 refine Oa1 rfl rfl ?_
 refine On ?_
 refine Wp.ret ?_
 refine Ends.then_ret ?_
 exact Ends.ret (res_list (rs := [.cell 4 25, .tmp 5]) rfl ⟨_, _, rfl, rv_cellK [_, _, _, _, _, _] rfl rfl rfl ⟨rfl, rfl, rfl, rfl, rfl, rfl, trivial⟩, ⟨_, _, rfl, rv_tmp rfl, rfl⟩⟩ rfl) ⟨rfl, rfl⟩
theorem tr_dget_some (uT : Value) (qb : Nat) (L : Hp) (l : List DN) (hH : DstH uT l qb L) (hl : l.length ≤ 2 ^ 20) (s : SlotM) (x : CapM) (h : dcap? l s = some x) : TrR Tryz.prog 52 [.pointer (some ⟨qb, 0, none⟩), slotV s] (L) (.tuple #[x.v, .int .i64 0]) := by
 obtain ⟨v, H, hs, rfl⟩ := hH
 obtain ⟨a, c0, rfl⟩ := hs.form
 have hv := hs.view
 obtain ⟨d, hf, hh, hx⟩ := dcap_some h
 obtain ⟨i, hi, hd, hid⟩ := dfind_some hf
 have hlt := d_lt hd
 obtain ⟨j, hj⟩ : ∃ j : Nat, s.2 = j := ⟨s.2.toNat, by omega⟩
 have hblk := dCaps_blk hd
 rw [hj, Int.toNat_natCast] at hx
 obtain ⟨b, o, cap, cc, T, f, hv1, hbv, hr⟩ := hv.open (by omega)
 cases hv1
 obtain ⟨q0, q1, q2, _⟩ := cel_reads (f := dnC) hr hd
 refine Tr.enter Tryz.func52 rfl Tryz.ntmps52 rfl (fun W F => ?_)
 refine Wp.app ?_
 refine Wr ?_
 refine Ops.ef rfl (ef_boxK rfl rfl) ?_
 rintro _ _ ⟨b1, rfl, rfl⟩
 refine Ops.ef rfl (ef_allocK tyZ25 rfl) ?_
 rintro _ _ ⟨b2, rfl, rfl⟩
 refine Oa1 rfl rfl ?_
 refine On ?_
 refine Wp.seq ?_
 refine Wr ?_
 refine Om1 rfl rfl ?_
 refine Ops.pv (pv_loadK [_, _] rfl rfl rfl ⟨rfl, rfl, trivial⟩) rfl ?_
 refine Ops.ef rfl (ef_callr (tr_dis_yes uT qb _ l ⟨_, H, hs, rfl⟩ hl s x h) rfl rfl) ?_
 rintro _ _ ⟨rfl, rfl⟩
 refine Ops.pv (pv_not rfl) rfl ?_
 refine On ?_
 refine Wp.cond_false rfl ?_
 refine Wp.skip ?_
 refine Ends.seq ?_
 refine Wp.seq ?_
 refine AnyH.start ((b1, .cells [.int .i64 s.1, .int .i64 s.2].toArray 31) :: (dBlk uT qb (.slice (some ⟨b, o, none⟩) l.length c0) :: (H ++ dCaps l))) 17 rfl ?_
 refine Tk 0 rfl rfl (pv_move rfl) rfl ?_
 refine Tk 1 rfl rfl (pv_nilCheck rfl) rfl ?_
 refine Tk 2 rfl rfl (pv_fieldAddr0 rfl rfl) rfl ?_
 refine Tk 3 rfl rfl (pv_load rfl rfl rfl) rfl ?_
 refine Tk 4 rfl rfl (pv_move rfl) rfl ?_
 refine Tk 5 rfl rfl (pv_fieldAddr0 rfl rfl) rfl ?_
 refine Tk 6 rfl rfl (pv_load rfl rfl rfl) rfl ?_
 refine Tk 11 rfl rfl (pv_fieldAddr0 rfl rfl) rfl ?_
 refine Tk 12 rfl rfl (pv_load rfl rfl rfl) rfl ?_
 refine AnyH.one 7 (by kernel_rfl) ?_
 refine Turn.ef rfl rfl (ef_callr ((tr_dat uT qb _ l ⟨_, H, hs, rfl⟩ hl s.1).eq (by rw [hi])) rfl rfl) ?_ ?_
 ·
  rintro _ _ ⟨rfl, rfl⟩; infer_instance
 rintro _ _ ⟨rfl, rfl⟩
 refine Tk 8 rfl rfl (pv_indexAddr (i := i) rfl rfl rfl (by omega)) rfl ?_
 refine Tk 9 rfl rfl (pv_fieldAddr rfl rfl) rfl ?_
 refine Tk 10 rfl rfl (pv_load rfl rfl q2) rfl ?_
 refine Tk 13 rfl rfl (pv_indexAddr (i := j) rfl (congrArg (fun z => some (Value.int .i64 z)) hj) rfl (by omega)) rfl ?_
 refine Tk 14 rfl rfl (pv_loadK x.cells rfl rfl rfl (caps_reads0 hx)) rfl ?_
 refine AnyH.one 15 (by kernel_rfl) ?_
 refine Turn.ef rfl rfl (ef_storeK rfl rfl rfl rfl) ?_ ?_
 ·
  rintro _ _ ⟨rfl, rfl⟩; infer_instance
 rintro _ _ ⟨rfl, rfl⟩
 refine Tk 16 rfl rfl (pv_assign rfl) rfl ?_
 refine AnyH.done (by kernel_rfl) ?_
 refine Ends.seq ?_
 refine Wp.ret ?_
 exact Ends.ret (res_list (rs := [.cell 4 25, .tmp 5]) rfl ⟨_, _, rfl, rv_cellK [_, _, _, _, _, _] rfl rfl rfl ⟨rfl, rfl, rfl, rfl, rfl, rfl, trivial⟩, ⟨_, _, rfl, rv_tmp rfl, rfl⟩⟩ rfl) ⟨rfl, rfl⟩
theorem tr_dget (uT : Value) (qb : Nat) (L : Hp) (l : List DN) (hH : DstH uT l qb L) (hl : l.length ≤ 2 ^ 20) (s : SlotM) : TrR Tryz.prog 52 [.pointer (some ⟨qb, 0, none⟩), slotV s] L (.tuple #[(dget l s).1.v, .int .i64 (dget l s).2]) := by
 cases h : dcap? l s with
 | none => exact (tr_dget_none uT qb L l hH hl s h).eq (by rw [dget_none h])
 | some x => exact (tr_dget_some uT qb L l hH hl s x h).eq (by rw [dget_some h])
theorem tr_dput_none (uT : Value) (qb : Nat) (L : Hp) (l : List DN) (hH : DstH uT l qb L) (hl : l.length ≤ 2 ^ 20) (s : SlotM) (c : CapM) (hrg : c.Rg) (h : dcap? l s = none) : Tr Tryz.prog 79 [.pointer (some ⟨qb, 0, none⟩), slotV s, c.v] (L) (fun u L' => u = .int .i64 (dput l s c).1 ∧ DstH uT (dput l s c).2 qb L') := by
 obtain ⟨v, H, hs, rfl⟩ := hH
 obtain ⟨a, c0, rfl⟩ := hs.form
 have hv := hs.view
 refine Tr.enter Tryz.func79 rfl Tryz.ntmps79 rfl (fun W F => ?_)
 refine Wp.app ?_
 refine Wr ?_
 refine Ops.ef rfl (ef_boxK rfl rfl) ?_
 rintro _ _ ⟨b1, rfl, rfl⟩
 refine Ops.ef rfl (ef_boxK rfl rfl) ?_
 rintro _ _ ⟨b2, rfl, rfl⟩
 refine Oa1 rfl rfl ?_
 refine On ?_
 refine Wp.seq ?_
 refine Wr ?_
 refine Om1 rfl rfl ?_
 refine Ops.pv (pv_loadK [_, _] rfl rfl rfl ⟨rfl, rfl, trivial⟩) rfl ?_
 refine Ops.ef rfl (ef_callr (tr_dis_no uT qb _ l ⟨_, H, hs, rfl⟩ hl s h) rfl rfl) ?_
 rintro _ _ ⟨rfl, rfl⟩
 refine Ops.pv (pv_not rfl) rfl ?_
 refine On ?_
 refine Wp.cond_true rfl ?_
 refine Wr ?_
 refine Oa1 rfl rfl ?_
 refine On ?_
 refine Wp.ret ?_
 refine Ends.then_ret ?_
 have he : dput l s c = (6, l) := dput_none h c
 exact Ends.ret (L' := dBlk uT qb (.slice a l.length c0) :: (H ++ dCaps l)) (res1 rfl rfl) ⟨by rw [he], by rw [he]; exact ⟨_, H, hs, rfl⟩⟩
set_option maxHeartbeats 1000000 in
theorem tr_dput_some (uT : Value) (qb : Nat) (L : Hp) (l : List DN) (hH : DstH uT l qb L) (hl : l.length ≤ 2 ^ 20) (s : SlotM) (x c : CapM) (hrg : c.Rg) (h : dcap? l s = some x) : Tr Tryz.prog 79 [.pointer (some ⟨qb, 0, none⟩), slotV s, c.v] (L) (fun u L' => u = .int .i64 (dput l s c).1 ∧ DstH uT (dput l s c).2 qb L') := by
 obtain ⟨v, H, hs, rfl⟩ := hH
 obtain ⟨a, c0, rfl⟩ := hs.form
 have hv := hs.view
 obtain ⟨d, hf, hh, hx⟩ := dcap_some h
 obtain ⟨i, hi, hd, hid⟩ := dfind_some hf
 have hlt := d_lt hd
 obtain ⟨j, hj⟩ : ∃ j : Nat, s.2 = j := ⟨s.2.toNat, by omega⟩
 have hblk := dCaps_blk hd
 rw [hj, Int.toNat_natCast] at hx
 obtain ⟨b, o, cap, cc, T, f, hv1, hbv, hr⟩ := hv.open (by omega)
 cases hv1
 obtain ⟨q0, q1, q2, _⟩ := cel_reads (f := dnC) hr hd
 have hupd := dCaps_upd (d' := { d with caps := d.caps.set j c }) hd rfl rfl
 have hset := caps_setL (c' := c) hx
 refine Tr.enter Tryz.func79 rfl Tryz.ntmps79 rfl (fun W F => ?_)
 refine Wp.app ?_
 refine Wr ?_
 refine Ops.ef rfl (ef_boxK rfl rfl) ?_
 rintro _ _ ⟨b1, rfl, rfl⟩
 refine Ops.ef rfl (ef_boxK rfl rfl) ?_
 rintro _ _ ⟨b2, rfl, rfl⟩
 refine Oa1 rfl rfl ?_
 refine On ?_
 refine Wp.seq ?_
 refine Wr ?_
 refine Om1 rfl rfl ?_
 refine Ops.pv (pv_loadK [_, _] rfl rfl rfl ⟨rfl, rfl, trivial⟩) rfl ?_
 refine Ops.ef rfl (ef_callr (tr_dis_yes uT qb _ l ⟨_, H, hs, rfl⟩ hl s x h) rfl rfl) ?_
 rintro _ _ ⟨rfl, rfl⟩
 refine Ops.pv (pv_not rfl) rfl ?_
 refine On ?_
 refine Wp.cond_false rfl ?_
 refine Wp.skip ?_
 refine Ends.seq ?_
 refine Wr ?_
 refine Ops.pv (pv_loadK [_, _, _, _, _, _] rfl rfl rfl ⟨rfl, rfl, rfl, rfl, rfl, rfl, trivial⟩) rfl ?_
 refine Ops.ef rfl (ef_callr (tr_dcheck c hrg) rfl rfl) ?_
 rintro _ _ ⟨rfl, rfl⟩
 refine Oa1 rfl rfl ?_
 refine On ?_
 refine Wr ?_
 refine Om1 rfl rfl ?_
 refine Of1 rfl rfl rfl ?_
 refine Ol1 rfl rfl rfl rfl ?_
 refine Ops.ef rfl (ef_callr ((tr_dat uT qb _ l ⟨_, H, hs, rfl⟩ hl s.1).eq (by rw [hi])) rfl rfl) ?_
 rintro _ _ ⟨rfl, rfl⟩
 refine Oa1 rfl rfl ?_
 refine On ?_
 refine Wp.seq ?_
 refine Wp.block ?_
 refine Wr ?_
 refine Om1 rfl rfl ?_
 refine Ops.pv (pv_neq rfl rfl) rfl ?_
 refine Oa1 rfl rfl ?_
 refine On ?_
 refine Wp.cond_dect rfl (fun h1 => ?_) (fun h1 => ?_)
 ·
  refine Wr ?_
  refine Om1 rfl rfl ?_
  refine Oa1 rfl rfl ?_
  refine On ?_
  refine Wp.ret ?_
  refine Ends.block_ret ?_
  refine Ends.then_ret ?_
  have he : dput l s c = (checkM c, l) := by rw [dput_some h c, if_pos (by assumption)]
  exact Ends.ret (L' := dBlk uT qb (.slice (some ⟨b, o, none⟩) l.length c0) :: (H ++ dCaps l)) (res1 rfl rfl) ⟨by rw [he], by rw [he]; exact ⟨_, H, hs, rfl⟩⟩
 refine Wr ?_
 refine Of1 rfl rfl rfl ?_
 refine Ol1 rfl rfl rfl rfl ?_
 refine Ops.pv (pv_eql rfl rfl) rfl ?_
 refine Oa1 rfl rfl ?_
 refine On ?_
 refine Wp.cond_dect rfl (fun h2 => ?_) (fun h2 => ?_)
 ·
  refine Wr ?_
  refine Oa1 rfl rfl ?_
  refine On ?_
  refine Wp.ret ?_
  refine Ends.block_ret ?_
  refine Ends.then_ret ?_
  have he : dput l s c = (3, l) := by rw [dput_some h c, if_neg (by assumption), if_pos (by assumption)]
  exact Ends.ret (L' := dBlk uT qb (.slice (some ⟨b, o, none⟩) l.length c0) :: (H ++ dCaps l)) (res1 rfl rfl) ⟨by rw [he], by rw [he]; exact ⟨_, H, hs, rfl⟩⟩
 refine Wp.seq ?_
 refine AnyH.start ((b1, .cells [.int .i64 s.1, .int .i64 s.2].toArray 31) :: (dBlk uT qb (.slice (some ⟨b, o, none⟩) l.length c0) :: (H ++ dCaps l))) 15 rfl ?_
 refine Tk 0 rfl rfl (pv_move rfl) rfl ?_
 refine Tk 1 rfl rfl (pv_nilCheck rfl) rfl ?_
 refine Tk 2 rfl rfl (pv_fieldAddr0 rfl rfl) rfl ?_
 refine Tk 3 rfl rfl (pv_load rfl rfl rfl) rfl ?_
 refine Tk 4 rfl rfl (pv_move rfl) rfl ?_
 refine Tk 5 rfl rfl (pv_indexAddr (i := i) rfl rfl rfl (by omega)) rfl ?_
 refine Tk 6 rfl rfl (pv_fieldAddr rfl rfl) rfl ?_
 refine Tk 7 rfl rfl (pv_load rfl rfl q2) rfl ?_
 refine Tk 8 rfl rfl (pv_fieldAddr0 rfl rfl) rfl ?_
 refine Tk 9 rfl rfl (pv_load rfl rfl rfl) rfl ?_
 refine Tk 10 rfl rfl (pv_indexAddr (i := j) rfl (congrArg (fun z => some (Value.int .i64 z)) hj) rfl (by omega)) rfl ?_
 refine Tk 11 rfl rfl (pv_fieldAddr rfl rfl) rfl ?_
 refine Tk 12 rfl rfl (pv_load rfl rfl (caps_reads0 hx).1) rfl ?_
 refine Tk 13 rfl rfl (pv_neq rfl rfl) rfl ?_
 refine Tk 14 rfl rfl (pv_assign rfl) rfl ?_
 refine AnyH.done (by kernel_rfl) ?_
 refine Ends.seq ?_
 refine Wp.cond_dect rfl (fun h3 => ?_) (fun h3 => ?_)
 ·
  refine Wr ?_
  refine Oa1 rfl rfl ?_
  refine On ?_
  refine Wp.ret ?_
  refine Ends.block_ret ?_
  refine Ends.then_ret ?_
  have he : dput l s c = (4, l) := by rw [dput_some h c, if_neg (by assumption), if_neg (by assumption), if_pos (by assumption)]
  exact Ends.ret (L' := dBlk uT qb (.slice (some ⟨b, o, none⟩) l.length c0) :: (H ++ dCaps l)) (res1 rfl rfl) ⟨by rw [he], by rw [he]; exact ⟨_, H, hs, rfl⟩⟩
 refine Wp.skip ?_
 refine Ends.block_normal ?_
 refine Ends.seq ?_
 refine Wp.seq ?_
 refine AnyH.start ((b1, .cells [.int .i64 s.1, .int .i64 s.2].toArray 31) :: (b2, .cells c.cells.toArray 25) :: dBlk uT qb (.slice (some ⟨b, o, none⟩) l.length c0) :: H) 13 rfl ?_
 refine Tk 0 rfl rfl (pv_move rfl) rfl ?_
 refine Tk 1 rfl rfl (pv_nilCheck rfl) rfl ?_
 refine Tk 2 rfl rfl (pv_fieldAddr0 rfl rfl) rfl ?_
 refine Tk 3 rfl rfl (pv_load rfl rfl rfl) rfl ?_
 refine Tk 4 rfl rfl (pv_move rfl) rfl ?_
 refine Tk 5 rfl rfl (pv_indexAddr (i := i) rfl rfl rfl (by omega)) rfl ?_
 refine Tk 6 rfl rfl (pv_fieldAddr rfl rfl) rfl ?_
 refine Tk 7 rfl rfl (pv_load rfl rfl q2) rfl ?_
 refine Tk 8 rfl rfl (pv_fieldAddr0 rfl rfl) rfl ?_
 refine Tk 9 rfl rfl (pv_load rfl rfl rfl) rfl ?_
 refine Tk 10 rfl rfl (pv_loadK [_, _, _, _, _, _] rfl rfl rfl ⟨rfl, rfl, rfl, rfl, rfl, rfl, trivial⟩) rfl ?_
 refine Tk 11 rfl rfl (pv_indexAddr (i := j) rfl (congrArg (fun z => some (Value.int .i64 z)) hj) rfl (by omega)) rfl ?_
 refine AnyH.one 12 (by kernel_rfl) ?_
 refine Turn.ef rfl rfl (ef_storeK rfl rfl rfl rfl) ?_ ?_
 ·
  rintro _ _ ⟨rfl, rfl⟩; infer_instance
 rintro _ _ ⟨rfl, rfl⟩
 refine AnyH.done (by kernel_rfl) ?_
 refine Ends.seq ?_
 refine Wr ?_
 refine Oa1 rfl rfl ?_
 refine On ?_
 refine Wp.ret ?_
 have he : dput l s c = (0, dsetC l s c) := by rw [dput_some h c, if_neg (by assumption), if_neg (by assumption), if_neg (by assumption)]
 exact Ends.ret (L' := dBlk uT qb (.slice (some ⟨b, o, none⟩) l.length c0) :: (H ++ dCaps (l.set i { d with caps := d.caps.set j c }))) (res1 rfl rfl) ⟨by rw [he], by rw [he]; exact (by have := DstH.setC (uT := uT) (qb := qb) (c := c) hs hf hi hd; rw [hj, Int.toNat_natCast] at this; exact this)⟩
end Go.Proofs.YtdodfnjmkpgdbaaGreat
end
section
set_option linter.unusedVariables false
set_option linter.unusedSimpArgs false
namespace Go.Proofs.YtdodfnjmkpgdbaaGreat
open Go.SL
theorem tr_dtake_none (uT : Value) (qb : Nat) (L : Hp) (l : List DN) (hH : DstH uT l qb L) (hl : l.length ≤ 2 ^ 20) (s : SlotM) (h : dcap? l s = none) : Tr Tryz.prog 94 [.pointer (some ⟨qb, 0, none⟩), slotV s] (L) (fun u L' => u = .tuple #[(dtake l s).1.v, .int .i64 (dtake l s).2.1] ∧ DstH uT (dtake l s).2.2 qb L') := by
 obtain ⟨v, H, hs, rfl⟩ := hH
 obtain ⟨a, c0, rfl⟩ := hs.form
 have hv := hs.view
 refine Tr.enter Tryz.func94 rfl Tryz.ntmps94 rfl (fun W F => ?_)
 refine Wp.app ?_
 refine Wr ?_
 refine Ops.ef rfl (ef_boxK rfl rfl) ?_
 rintro _ _ ⟨b1, rfl, rfl⟩
 refine Ops.ef rfl (ef_allocK tyZ25 rfl) ?_
 rintro _ _ ⟨b2, rfl, rfl⟩
 refine Oa1 rfl rfl ?_
 refine On ?_
 refine Wr ?_
 refine Om1 rfl rfl ?_
 refine Ops.pv (pv_loadK [_, _] rfl rfl rfl ⟨rfl, rfl, trivial⟩) rfl ?_
 refine Ops.ef rfl (ef_callr ((tr_dget uT qb _ l ⟨_, H, hs, rfl⟩ hl s).eq (by rw [dget_none h])) rfl rfl) ?_
 rintro _ _ ⟨rfl, rfl⟩
 refine Om1 rfl rfl ?_
 refine Ops.pv (pv_extract rfl rfl) rfl ?_
 refine Ops.pv (pv_extract rfl rfl) rfl ?_
 refine Ops.ef rfl (ef_allocK tyZ25 rfl) ?_
 rintro _ _ ⟨b3, rfl, rfl⟩
 refine Ops.ef rfl (ef_storeK rfl rfl rfl rfl) ?_
 rintro _ _ ⟨rfl, rfl⟩
 refine Oa1 rfl rfl ?_
 refine On ?_
 refine Wp.seq ?_
 refine Wr ?_
 refine Om1 rfl rfl ?_
 refine Ops.pv ((pv_neq rfl rfl).tru (by first | rfl | decide | omega | assumption | (simp; done) | (simp; omega))) rfl ?_
 refine On ?_
 refine Wp.cond_true rfl ?_
 refine Wr ?_
 refine Ops.pv (pv_loadK [_, _, _, _, _, _] rfl rfl rfl ⟨rfl, rfl, rfl, rfl, rfl, rfl, trivial⟩) rfl ?_
 refine Om1 rfl rfl ?_
 refine Ops.ef rfl (ef_storeK rfl rfl rfl rfl) ?_
 rintro _ _ ⟨rfl, rfl⟩
 refine Oa1 rfl rfl ?_
 refine On ?_
 refine Wp.ret ?_
 refine Ends.then_ret ?_
 have he : dtake l s = (CapM.zero, 6, l) := dtake_none h
 exact Ends.ret (L' := dBlk uT qb (.slice a l.length c0) :: (H ++ dCaps l)) (res_list (rs := [.cell 4 25, .tmp 5]) rfl ⟨_, _, rfl, rv_cellK [_, _, _, _, _, _] rfl rfl rfl ⟨rfl, rfl, rfl, rfl, rfl, rfl, trivial⟩, ⟨_, _, rfl, rv_tmp rfl, rfl⟩⟩ rfl) ⟨by rw [he], by rw [he]; exact ⟨_, H, hs, rfl⟩⟩
set_option maxHeartbeats 1000000 in
theorem tr_dtake_some (uT : Value) (qb : Nat) (L : Hp) (l : List DN) (hH : DstH uT l qb L) (hl : l.length ≤ 2 ^ 20) (s : SlotM) (x : CapM) (h : dcap? l s = some x) : Tr Tryz.prog 94 [.pointer (some ⟨qb, 0, none⟩), slotV s] (L) (fun u L' => u = .tuple #[(dtake l s).1.v, .int .i64 (dtake l s).2.1] ∧ DstH uT (dtake l s).2.2 qb L') := by
 obtain ⟨v, H, hs, rfl⟩ := hH
 obtain ⟨a, c0, rfl⟩ := hs.form
 have hv := hs.view
 obtain ⟨d, hf, hh, hx⟩ := dcap_some h
 obtain ⟨i, hi, hd, hid⟩ := dfind_some hf
 have hlt := d_lt hd
 obtain ⟨j, hj⟩ : ∃ j : Nat, s.2 = j := ⟨s.2.toNat, by omega⟩
 have hblk := dCaps_blk hd
 rw [hj, Int.toNat_natCast] at hx
 obtain ⟨b, o, cap, cc, T, f, hv1, hbv, hr⟩ := hv.open (by omega)
 cases hv1
 obtain ⟨q0, q1, q2, _⟩ := cel_reads (f := dnC) hr hd
 have hupd := dCaps_upd (d' := { d with caps := d.caps.set j CapM.zero }) hd rfl rfl
 have hset := caps_setL (c' := CapM.zero) hx
 refine Tr.enter Tryz.func94 rfl Tryz.ntmps94 rfl (fun W F => ?_)
 refine Wp.app ?_
 refine Wr ?_
 refine Ops.ef rfl (ef_boxK rfl rfl) ?_
 rintro _ _ ⟨b1, rfl, rfl⟩
 refine Ops.ef rfl (ef_allocK tyZ25 rfl) ?_
 rintro _ _ ⟨b2, rfl, rfl⟩
 refine Oa1 rfl rfl ?_
 refine On ?_
 refine Wr ?_
 refine Om1 rfl rfl ?_
 refine Ops.pv (pv_loadK [_, _] rfl rfl rfl ⟨rfl, rfl, trivial⟩) rfl ?_
 refine Ops.ef rfl (ef_callr ((tr_dget uT qb _ l ⟨_, H, hs, rfl⟩ hl s).eq (by rw [dget_some h])) rfl rfl) ?_
 rintro _ _ ⟨rfl, rfl⟩
 refine Om1 rfl rfl ?_
 refine Ops.pv (pv_extract rfl rfl) rfl ?_
 refine Ops.pv (pv_extract rfl rfl) rfl ?_
 refine Ops.ef rfl (ef_allocK tyZ25 rfl) ?_
 rintro _ _ ⟨b3, rfl, rfl⟩
 refine Ops.ef rfl (ef_storeK rfl rfl rfl rfl) ?_
 rintro _ _ ⟨rfl, rfl⟩
 refine Oa1 rfl rfl ?_
 refine On ?_
 refine Wp.seq ?_
 refine Wr ?_
 refine Om1 rfl rfl ?_
 refine Ops.pv ((pv_neq rfl rfl).fls (by first | exact fun h => h rfl | decide | omega | assumption)) rfl ?_
 refine On ?_
 refine Wp.cond_false rfl ?_
 refine Wp.skip ?_
 refine Ends.seq ?_
 refine Wp.seq ?_
 refine Wr ?_
 refine Of1 rfl rfl rfl ?_
 refine Ol1 rfl rfl rfl rfl ?_
 refine Ops.pv (pv_eql rfl rfl) rfl ?_
 refine On ?_
 refine Wp.cond_dect rfl (fun h1 => ?_) (fun h1 => ?_)
 ·
  refine Wr ?_
  refine Ops.pv (pv_loadK [_, _, _, _, _, _] rfl rfl rfl ⟨rfl, rfl, rfl, rfl, rfl, rfl, trivial⟩) rfl ?_
  refine Ops.ef rfl (ef_storeK rfl rfl rfl rfl) ?_
  rintro _ _ ⟨rfl, rfl⟩
  refine Oa1 rfl rfl ?_
  refine On ?_
  refine Wp.ret ?_
  refine Ends.then_ret ?_
  have he : dtake l s = (x, 3, l) := by rw [dtake_some h, if_pos (by assumption)]
  exact Ends.ret (L' := dBlk uT qb (.slice (some ⟨b, o, none⟩) l.length c0) :: (H ++ dCaps l)) (res_list (rs := [.cell 4 25, .tmp 5]) rfl ⟨_, _, rfl, rv_cellK [_, _, _, _, _, _] rfl rfl rfl ⟨rfl, rfl, rfl, rfl, rfl, rfl, trivial⟩, ⟨_, _, rfl, rv_tmp rfl, rfl⟩⟩ rfl) ⟨by rw [he], by rw [he]; exact ⟨_, H, hs, rfl⟩⟩
 refine Wp.skip ?_
 refine Ends.seq ?_
 refine Wp.seq ?_
 refine AnyH.start ((b1, .cells [.int .i64 s.1, .int .i64 s.2].toArray 31) :: dBlk uT qb (.slice (some ⟨b, o, none⟩) l.length c0) :: H) 16 rfl ?_
 refine Tk 0 rfl rfl (pv_move rfl) rfl ?_
 refine Tk 1 rfl rfl (pv_nilCheck rfl) rfl ?_
 refine Tk 2 rfl rfl (pv_fieldAddr0 rfl rfl) rfl ?_
 refine Tk 3 rfl rfl (pv_load rfl rfl rfl) rfl ?_
 refine Tk 4 rfl rfl (pv_move rfl) rfl ?_
 refine Tk 5 rfl rfl (pv_fieldAddr0 rfl rfl) rfl ?_
 refine Tk 6 rfl rfl (pv_load rfl rfl rfl) rfl ?_
 refine Tk 11 rfl rfl (pv_fieldAddr0 rfl rfl) rfl ?_
 refine Tk 12 rfl rfl (pv_load rfl rfl rfl) rfl ?_
 refine Tk 13 rfl rfl (pv_build rfl) rfl ?_
 refine AnyH.one 7 (by kernel_rfl) ?_
 refine Turn.ef rfl rfl (ef_callr ((tr_dat uT qb _ l ⟨_, H, hs, rfl⟩ hl s.1).eq (by rw [hi])) rfl rfl) ?_ ?_
 ·
  rintro _ _ ⟨rfl, rfl⟩; infer_instance
 rintro _ _ ⟨rfl, rfl⟩
 refine Tk 8 rfl rfl (pv_indexAddr (i := i) rfl rfl rfl (by omega)) rfl ?_
 refine Tk 9 rfl rfl (pv_fieldAddr rfl rfl) rfl ?_
 refine Tk 10 rfl rfl (pv_load rfl rfl q2) rfl ?_
 refine Tk 14 rfl rfl (pv_indexAddr (i := j) rfl (congrArg (fun z => some (Value.int .i64 z)) hj) rfl (by omega)) rfl ?_
 refine AnyH.one 15 (by kernel_rfl) ?_
 refine Turn.ef rfl rfl (ef_storeK rfl rfl rfl rfl) ?_ ?_
 ·
  rintro _ _ ⟨rfl, rfl⟩; infer_instance
 rintro _ _ ⟨rfl, rfl⟩
 refine AnyH.done (by kernel_rfl) ?_
 refine Ends.seq ?_
 refine Wr ?_
 refine Ops.pv (pv_loadK [_, _, _, _, _, _] rfl rfl rfl ⟨rfl, rfl, rfl, rfl, rfl, rfl, trivial⟩) rfl ?_
 refine Ops.ef rfl (ef_storeK rfl rfl rfl rfl) ?_
 rintro _ _ ⟨rfl, rfl⟩
 refine Oa1 rfl rfl ?_
 refine On ?_
 refine Wp.ret ?_
 have he : dtake l s = (x, 0, dsetC l s CapM.zero) := by rw [dtake_some h, if_neg (by assumption)]
 exact Ends.ret (L' := dBlk uT qb (.slice (some ⟨b, o, none⟩) l.length c0) :: (H ++ dCaps (l.set i { d with caps := d.caps.set j CapM.zero }))) (res_list (rs := [.cell 4 25, .tmp 5]) rfl ⟨_, _, rfl, rv_cellK [_, _, _, _, _, _] rfl rfl rfl ⟨rfl, rfl, rfl, rfl, rfl, rfl, trivial⟩, ⟨_, _, rfl, rv_tmp rfl, rfl⟩⟩ rfl) ⟨by rw [he], by rw [he]; exact (by have := DstH.setC (uT := uT) (qb := qb) (c := CapM.zero) hs hf hi hd; rw [hj, Int.toNat_natCast] at this; exact this)⟩
theorem tr_dput (uT : Value) (qb : Nat) (L : Hp) (l : List DN) (hH : DstH uT l qb L) (hl : l.length ≤ 2 ^ 20) (s : SlotM) (c : CapM) (hrg : c.Rg) : Tr Tryz.prog 79 [.pointer (some ⟨qb, 0, none⟩), slotV s, c.v] L (fun u L' => u = .int .i64 (dput l s c).1 ∧ DstH uT (dput l s c).2 qb L') := by
 cases h : dcap? l s with
 | none => exact tr_dput_none uT qb L l hH hl s c hrg h
 | some x => exact tr_dput_some uT qb L l hH hl s x c hrg h
theorem tr_dtake (uT : Value) (qb : Nat) (L : Hp) (l : List DN) (hH : DstH uT l qb L) (hl : l.length ≤ 2 ^ 20) (s : SlotM) : Tr Tryz.prog 94 [.pointer (some ⟨qb, 0, none⟩), slotV s] L (fun u L' => u = .tuple #[(dtake l s).1.v, .int .i64 (dtake l s).2.1] ∧ DstH uT (dtake l s).2.2 qb L') := by
 cases h : dcap? l s with
 | none => exact tr_dtake_none uT qb L l hH hl s h
 | some x => exact tr_dtake_some uT qb L l hH hl s x h
set_option maxHeartbeats 1000000 in
theorem tr_dfull (uT : Value) (qb : Nat) (L : Hp) (l : List DN) (hH : DstH uT l qb L) (hl : l.length ≤ 2 ^ 20) (hsm : dSmall l) : Tr Tryz.prog 49 [.pointer (some ⟨qb, 0, none⟩)] (L) (fun u L' => ∃ K, Slc 31 2 u (dfull l).length (slotsCells (dfull l)) K ∧ L' = K ++ L) := by
 obtain ⟨v, H, hs, rfl⟩ := hH
 obtain ⟨a, c0, rfl⟩ := hs.form
 have hv := hs.view
 refine Tr.enter Tryz.func49 rfl Tryz.ntmps49 rfl (fun W F => ?_)
 refine Wp.app ?_
 refine Wr ?_
 refine Oa1 rfl rfl ?_
 refine On ?_
 refine Wr ?_
 refine Oa1 rfl rfl ?_
 refine On ?_
 refine Wp.seq ?_
 refine Wr ?_
 refine Oa1 rfl rfl ?_
 refine On ?_
 refine Wp.block ?_
 refine Wp.loopK (σ := Nat × Value × Hp) [(0, _)] (fun s => [(3, s.2.1), (4, .int .i64 s.1)]) (fun s => s.2.2 ++ (dBlk uT qb (.slice a l.length c0) :: (H ++ (dCaps l ++ F)))) (fun s => s.1 ≤ l.length ∧ Slc 31 2 s.2.1 (dfullTo l s.1).length (slotsCells (dfullTo l s.1)) s.2.2) (fun s => l.length - s.1) (0, .slice none 0 0, []) ⟨Nat.zero_le _, Slc.nil _ _⟩ ⟨rfl, trivial⟩ ⟨rfl, rfl, trivial⟩ (by intro w ho; (try dsimp only [List.nil_append, List.cons_append]); exact Drop.own ho) ?_
 rintro ⟨i, u, K⟩ KK ⟨hi, hks⟩ hK
 dsimp only [List.cons_append, List.nil_append] at hK ⊢
 dsimp only at hi hks ⊢
 refine Wp.seq ?_
 refine Wr ?_
 refine Om1 rfl rfl ?_
 refine Om1 rfl rfl ?_
 refine Ops.pv (pv_nilCheck rfl) rfl ?_
 refine Of1 rfl rfl rfl ?_
 refine Ol1 rfl rfl rfl rfl ?_
 refine Ops.pv (pv_len_slice (T := 43) rfl rfl) rfl ?_
 refine Ops.pv (pv_lss rfl rfl) rfl ?_
 refine On ?_
 refine Wp.cond_dect rfl (fun h1 => ?_) (fun h1 => ?_)
 ·
  obtain ⟨b, o, cap, cc, T, f, hv1, hbv, hr⟩ := hv.open (by omega)
  cases hv1
  obtain ⟨d, hd⟩ : ∃ d, l[i]? = some d := ⟨_, List.getElem?_eq_getElem (by omega)⟩
  have hblk := dCaps_blk hd
  have hd16 := hsm d (List.mem_of_getElem? hd)
  obtain ⟨q0, q1, q2, _⟩ := cel_reads (f := dnC) hr hd
  refine Wp.skip ?_
  refine Ends.seq ?_
  refine Wp.seq ?_
  refine Wp.block ?_
  refine Wr ?_
  refine Oa1 rfl rfl ?_
  refine On ?_
  refine Wp.block ?_
  refine Wp.loopK (σ := Nat × Value × Hp) [(0, _), (4, _)] (fun s => [(3, s.2.1), (5, .int .i64 s.1)]) (fun s => s.2.2 ++ (dBlk uT qb (.slice (some ⟨b, o, none⟩) l.length c0) :: (H ++ (dCaps l ++ F)))) (fun s => s.1 ≤ d.caps.length ∧ Slc 31 2 s.2.1 (dfullTo l i ++ nodeFull d.id d.caps s.1).length (slotsCells (dfullTo l i ++ nodeFull d.id d.caps s.1)) s.2.2) (fun s => d.caps.length - s.1) (0, u, K) ⟨Nat.zero_le _, by simpa [nodeFull] using hks⟩ ⟨rfl, rfl, trivial⟩ ⟨rfl, rfl, trivial⟩ (by intro w ho; (try dsimp only [List.nil_append, List.cons_append]); exact Drop.own ho) ?_
  rintro ⟨j, u, K⟩ KK ⟨hj, hks⟩ hK1
  dsimp only [List.cons_append, List.nil_append] at hK1 ⊢
  dsimp only at hj hks ⊢
  refine Wp.seq ?_
  refine Wr ?_
  refine Om1 rfl rfl ?_
  refine Om1 rfl rfl ?_
  refine Ops.pv (pv_nilCheck rfl) rfl ?_
  refine Of1 rfl rfl rfl ?_
  refine Ol1 rfl rfl rfl rfl ?_
  refine Om1 rfl rfl ?_
  refine Ops.pv (pv_indexAddr (i := i) rfl rfl rfl (by omega)) rfl ?_
  refine Ops.pv (pv_fieldAddr rfl rfl) rfl ?_
  refine Ops.pv (pv_load rfl rfl q2) rfl ?_
  refine Ops.pv (pv_len_slice (T := 67) rfl rfl) rfl ?_
  refine Ops.pv (pv_lss rfl rfl) rfl ?_
  refine On ?_
  refine Wp.cond_dect rfl (fun h2 => ?_) (fun h2 => ?_)
  ·
   obtain ⟨c, hc⟩ : ∃ c, d.caps[j]? = some c := ⟨_, List.getElem?_eq_getElem (by omega)⟩
   refine Wp.skip ?_
   refine Ends.seq ?_
   refine Wp.seq ?_
   refine Wp.block ?_
   refine Wr ?_
   refine Om1 rfl rfl ?_
   refine Ops.pv (pv_nilCheck rfl) rfl ?_
   refine Of1 rfl rfl rfl ?_
   refine Ol1 rfl rfl rfl rfl ?_
   refine Om1 rfl rfl ?_
   refine Ops.pv (pv_indexAddr (i := i) rfl rfl rfl (by omega)) rfl ?_
   refine Ops.pv (pv_fieldAddr rfl rfl) rfl ?_
   refine Ops.pv (pv_load rfl rfl q2) rfl ?_
   refine Om1 rfl rfl ?_
   refine Ops.pv (pv_indexAddr (i := j) rfl rfl rfl (by omega)) rfl ?_
   refine Ops.pv (pv_fieldAddr rfl rfl) rfl ?_
   refine Ops.pv (pv_load rfl rfl (caps_reads0 hc).1) rfl ?_
   refine Ops.pv (pv_neq rfl rfl) rfl ?_
   refine On ?_
   refine Wp.cond_dect rfl (fun h3 => ?_) (fun h3 => ?_)
   ·
    refine Wp.region ?_
    refine Om1 rfl rfl ?_
    refine Om1 rfl rfl ?_
    refine Ops.pv (pv_nilCheck rfl) rfl ?_
    refine Of1 rfl rfl rfl ?_
    refine Ol1 rfl rfl rfl rfl ?_
    refine Om1 rfl rfl ?_
    refine Ops.pv (pv_indexAddr (i := i) rfl rfl rfl (by omega)) rfl ?_
    refine Ops.pv (pv_fieldAddr rfl rfl) rfl ?_
    refine Ops.pv (pv_load rfl rfl q0) rfl ?_
    refine Om1 rfl rfl ?_
    refine Ops.pv (pv_build rfl) rfl ?_
    refine Ops.ef rfl (ef_buildSlice1 (k := 2) rfl rfl rfl rfl rfl) ?_
    rintro _ _ ⟨b1, rfl, rfl⟩
    refine Ops.ef rfl (ef_append (H := K) (xs := slotCells (d.id, j)) rfl hks rfl ⟨rfl, rfl, trivial⟩ rfl rfl rfl (by have := dfullTo_len hsm i; have := nodeFull_len d.id d.caps j; rw [List.length_append]; omega) (by have := dfullTo_len hsm i; have := nodeFull_len d.id d.caps j; rw [List.length_append]; omega) rfl rfl) ?_
    rintro _ _ ⟨u1, K1, hks1, rfl, rfl⟩
    refine Ops.app ?_
    refine Oa1 rfl rfl ?_
    refine Ops.nil ?_
    refine Ends.block_normal ?_
    refine Ends.seq ?_
    refine Wp.region ?_
    refine Om1 rfl rfl ?_
    refine Ops.pv (pv_add rfl rfl (w64 (by omega) (by omega))) rfl ?_
    refine Oa1 rfl rfl ?_
    refine Ops.nil ?_
    refine Ends.goes ?_
    refine Goes.back (hK1 (j + 1, u1, K1) ⟨by dsimp only; omega, ?_⟩ (by dsimp only; omega)) ⟨rfl, rfl, rfl, rfl, trivial⟩
    dsimp only; rw [nodeFull_yes hc (by assumption), ← List.append_assoc, List.length_append, slotsCells_app]; exact hks1
   refine Wp.skip ?_
   refine Ends.block_normal ?_
   refine Ends.seq ?_
   refine Wp.region ?_
   refine Om1 rfl rfl ?_
   refine Ops.pv (pv_add rfl rfl (w64 (by omega) (by omega))) rfl ?_
   refine Oa1 rfl rfl ?_
   refine Ops.nil ?_
   refine Ends.goes ?_
   refine Goes.back (hK1 (j + 1, u, K) ⟨by dsimp only; omega, ?_⟩ (by dsimp only; omega)) ⟨rfl, rfl, rfl, rfl, trivial⟩
   dsimp only; rw [nodeFull_no hc (by assumption)]; exact hks
  refine Wp.exit ?_
  refine Ends.then_exit ?_
  refine Ends.then_exit ?_
  refine Ends.block_hit ?_
  refine Ends.block_normal ?_
  refine Ends.seq ?_
  refine Wp.region ?_
  refine Om1 rfl rfl ?_
  refine Ops.pv (pv_add rfl rfl (w64 (by omega) (by omega))) rfl ?_
  refine Oa1 rfl rfl ?_
  refine Ops.nil ?_
  refine Ends.goes ?_
  refine Goes.back (hK (i + 1, u, K) ⟨by dsimp only; omega, ?_⟩ (by dsimp only; omega)) ⟨rfl, rfl, rfl, trivial⟩
  obtain rfl : j = d.caps.length := by omega
  dsimp only; rw [dfullTo_succ hd]; exact hks
 refine Wp.exit ?_
 refine Ends.then_exit ?_
 refine Ends.then_exit ?_
 refine Ends.block_hit ?_
 refine Ends.seq ?_
 refine Wr ?_
 refine Om1 rfl rfl ?_
 refine Oa1 rfl rfl ?_
 refine On ?_
 refine Wp.ret ?_
 obtain rfl : i = l.length := by omega
 rw [dfullTo_all] at hks
 exact Ends.ret (L' := K ++ (dBlk uT qb (.slice a l.length c0) :: (H ++ dCaps l))) (res1 rfl rfl) ⟨K, hks, rfl⟩
set_option maxHeartbeats 1000000 in
theorem tr_dcount (uT : Value) (qb : Nat) (L : Hp) (l : List DN) (hH : DstH uT l qb L) (hl : l.length ≤ 2 ^ 20) (hsm : dSmall l) (k x : Int) : TrR Tryz.prog 12 [.pointer (some ⟨qb, 0, none⟩), .int .i64 k, .int .i64 x] (L) (.int .i64 (dcount l k x)) := by
 have hlen := dfull_len hsm
 obtain ⟨v, H, hs, rfl⟩ := hH
 refine Tr.enter Tryz.func12 rfl Tryz.ntmps12 rfl (fun W F => ?_)
 refine Wp.app ?_
 refine Wr ?_
 refine Oa1 rfl rfl ?_
 refine On ?_
 refine Wr ?_
 refine Oa1 rfl rfl ?_
 refine On ?_
 refine Wr ?_
 refine Om1 rfl rfl ?_
 refine Ops.ef rfl (ef_call (tr_dfull uT qb _ l ⟨_, H, hs, rfl⟩ hl hsm) rfl rfl) ?_
 rintro _ _ ⟨_, _, ⟨C1, hc1, rfl⟩, rfl, rfl⟩
 refine Ops.app ?_
 obtain ⟨p, q, rfl⟩ := hc1.form
 have hv := hc1.view
 refine Oa1 rfl rfl ?_
 refine On ?_
 refine Wp.seq ?_
 refine Wr ?_
 refine Oa1 rfl rfl ?_
 refine On ?_
 refine Wp.block ?_
 refine Wp.loopK (σ := Nat) [(0, _), (1, _), (2, _), (8, _)] (fun s => [(7, .int .i64 (dcntTo l k x s)), (9, .int .i64 s)]) (fun s => C1 ++ (dBlk uT qb v :: (H ++ (dCaps l ++ F)))) (fun s => s ≤ (dfull l).length) (fun s => (dfull l).length - s) 0 (Nat.zero_le _) ⟨rfl, rfl, rfl, rfl, trivial⟩ ⟨rfl, rfl, trivial⟩ (by intro w ho; (try dsimp only [List.nil_append, List.cons_append]); exact Drop.own ho) ?_
 rintro i KK hi hK
 dsimp only [List.cons_append, List.nil_append] at hK ⊢
 refine Wp.seq ?_
 refine Wr ?_
 refine Om1 rfl rfl ?_
 refine Om1 rfl rfl ?_
 refine Ops.pv (pv_len_slice (T := 53) rfl rfl) rfl ?_
 refine Ops.pv (pv_lss rfl rfl) rfl ?_
 refine On ?_
 refine Wp.cond_dect rfl (fun h1 => ?_) (fun h1 => ?_)
 ·
  obtain ⟨b, o, cap, cc, T, f, hv1, hbv, hr⟩ := hv.open (by omega)
  cases hv1
  obtain ⟨s, hsi⟩ : ∃ s, (dfull l)[i]? = some s := ⟨_, List.getElem?_eq_getElem (by omega)⟩
  have hre := hr.sub (i := i * 2) (l := 2)
  rw [slots_reads hsi] at hre
  have hsu := dcntTo_succ (k := k) (o := x) hsi
  have hcle := dcntTo_le (l := l) k x (i + 1)
  refine Wp.skip ?_
  refine Ends.seq ?_
  refine Wp.seq ?_
  refine Wp.block ?_
  refine Wr ?_
  refine Om1 rfl rfl ?_
  refine Om1 rfl rfl ?_
  refine Om1 rfl rfl ?_
  refine Ops.pv (pv_indexAddr (i := i) rfl rfl rfl (by omega)) rfl ?_
  refine Ops.pv (pv_loadK [.int .i64 s.1, .int .i64 s.2] rfl rfl rfl hre) rfl ?_
  refine Ops.ef rfl (ef_callr (tr_dget uT qb _ l ⟨_, H, hs, rfl⟩ hl s) rfl rfl) ?_
  rintro _ _ ⟨rfl, rfl⟩
  refine Om1 rfl rfl ?_
  refine Ops.pv (pv_extract rfl rfl) rfl ?_
  refine Ops.pv (pv_extract rfl rfl) rfl ?_
  refine Ops.ef rfl (ef_allocK tyZ25 rfl) ?_
  rintro _ _ ⟨b1, rfl, rfl⟩
  refine Ops.ef rfl (ef_storeK rfl rfl rfl rfl) ?_
  rintro _ _ ⟨rfl, rfl⟩
  refine Oa1 rfl rfl ?_
  refine On ?_
  refine Wr ?_
  refine Of1 rfl rfl rfl ?_
  refine Ol1 rfl rfl rfl rfl ?_
  refine Om1 rfl rfl ?_
  refine Ops.pv (pv_eql rfl rfl) rfl ?_
  refine Om1 rfl rfl ?_
  refine Ops.pvc rfl rfl (fun hg => pv_fieldAddr0 rfl rfl) rfl ?_
  refine Ops.pvc rfl rfl (fun hg => Pv.setE (t := 34) rfl (cv_pos hg) (pv_load rfl rfl rfl)) rfl ?_
  refine Ops.pvc rfl rfl (fun hg => Pv.setE (t := 34) rfl (cv_pos hg) (Pv.setE (t := 35) rfl (cv_pos hg) (pv_move rfl))) rfl ?_
  refine Ops.pvc rfl rfl (fun hg => Pv.setE (t := 34) rfl (cv_pos hg) (Pv.setE (t := 35) rfl (cv_pos hg) (Pv.setE (t := 36) rfl (cv_pos hg) (pv_eql rfl rfl)))) rfl ?_
  refine Ops.pv (pv_pick_and rfl rfl) rfl ?_
  refine On ?_
  refine Wp.cond_dect rfl (fun h2 => ?_) (fun h2 => ?_)
  ·
   refine Wp.region ?_
   refine Om1 rfl rfl ?_
   refine Ops.pv (pv_add rfl rfl (w64n (k := dcntTo l k x (i + 1)) (by rw [hsu, if_pos (by assumption)]; omega) (by omega))) rfl ?_
   refine Oa1 rfl rfl ?_
   refine Ops.nil ?_
   refine Ends.block_normal ?_
   refine Ends.seq ?_
   refine Wp.region ?_
   refine Om1 rfl rfl ?_
   refine Ops.pv (pv_add rfl rfl (w64 (by omega) (by omega))) rfl ?_
   refine Oa1 rfl rfl ?_
   refine Ops.nil ?_
   refine Ends.goes ?_
   refine Goes.back (hK (i + 1) (by omega) (by omega)) ⟨rfl, rfl, rfl, rfl, rfl, rfl, trivial⟩
  refine Wp.skip ?_
  refine Ends.block_normal ?_
  refine Ends.seq ?_
  refine Wp.region ?_
  refine Om1 rfl rfl ?_
  refine Ops.pv (pv_add rfl rfl (w64 (by omega) (by omega))) rfl ?_
  refine Oa1 rfl rfl ?_
  refine Ops.nil ?_
  refine Ends.goes ?_
  have e1 : dcntTo l k x (i + 1) = dcntTo l k x i := by rw [hsu, if_neg (by assumption)]; rfl
  rw [← e1]
  refine Goes.back (hK (i + 1) (by omega) (by omega)) ⟨rfl, rfl, rfl, rfl, rfl, rfl, trivial⟩
 refine Wp.exit ?_
 refine Ends.then_exit ?_
 refine Ends.then_exit ?_
 refine Ends.block_hit ?_
 refine Ends.seq ?_
 refine Wr ?_
 refine Om1 rfl rfl ?_
 refine Oa1 rfl rfl ?_
 refine On ?_
 refine Wp.ret ?_
 obtain rfl : i = (dfull l).length := by omega
 exact Ends.ret (res1 rfl rfl) ⟨by rw [dcntTo_all], rfl⟩
end Go.Proofs.YtdodfnjmkpgdbaaGreat
end
section
set_option linter.unusedVariables false
set_option linter.unusedSimpArgs false
namespace Go.Proofs.YtdodfnjmkpgdbaaGreat
open Go.SL
theorem tr_sameSlots (G : Hp) (a1 a2 : Option Addr) (c1 c2 : Nat) (l1 l2 : List SlotM) (hv1 : View G 2 (.slice a1 l1.length c1) l1.length (slotsCells l1)) (hv2 : View G 2 (.slice a2 l2.length c2) l2.length (slotsCells l2)) (hl : l1.length ≤ 2 ^ 40) : TrR Tryz.prog 13 [.slice a1 l1.length c1, .slice a2 l2.length c2] (G) (.bool (decide (l1 = l2))) := by
 refine Tr.enter Tryz.func13 rfl Tryz.ntmps13 rfl (fun W F => ?_)
 refine Wp.app ?_
 refine Wr ?_
 refine Oa1 rfl rfl ?_
 refine On ?_
 refine Wp.seq ?_
 refine Wr ?_
 refine Om1 rfl rfl ?_
 refine Ops.pv (pv_len_slice (T := 53) rfl rfl) rfl ?_
 refine Om1 rfl rfl ?_
 refine Ops.pv (pv_len_slice (T := 53) rfl rfl) rfl ?_
 refine Ops.pv (pv_neq rfl rfl) rfl ?_
 refine On ?_
 refine Wp.cond_dect rfl (fun h1 => ?_) (fun h1 => ?_)
 ·
  refine Wr ?_
  refine Oa1 rfl rfl ?_
  refine On ?_
  refine Wp.ret ?_
  refine Ends.then_ret ?_
  exact Ends.ret (res1 rfl rfl) ⟨by rw [decide_eq_false (fun e => by subst e; omega)], rfl⟩
 refine Wp.skip ?_
 refine Ends.seq ?_
 refine Wp.seq ?_
 refine Wr ?_
 refine Oa1 rfl rfl ?_
 refine On ?_
 refine Wp.block ?_
 refine Wp.loopK (σ := Nat) [(0, _), (1, _)] (fun s => [(5, .int .i64 s)]) (fun s => G ++ F) (fun s => s ≤ l1.length ∧ ∀ j, j < s → l1[j]? = l2[j]?) (fun s => l1.length - s) 0 ⟨Nat.zero_le _, fun j hj => absurd hj (Nat.not_lt_zero j)⟩ ⟨rfl, rfl, trivial⟩ ⟨rfl, trivial⟩ (by intro w ho; (try dsimp only [List.nil_append, List.cons_append]); exact Drop.own ho) ?_
 rintro i KK ⟨hi, hn⟩ hK
 dsimp only [List.cons_append, List.nil_append] at hK ⊢
 refine Wp.seq ?_
 refine Wr ?_
 refine Om1 rfl rfl ?_
 refine Om1 rfl rfl ?_
 refine Ops.pv (pv_len_slice (T := 53) rfl rfl) rfl ?_
 refine Ops.pv (pv_lss rfl rfl) rfl ?_
 refine On ?_
 refine Wp.cond_dect rfl (fun h2 => ?_) (fun h2 => ?_)
 ·
  obtain ⟨b6, o6, cap6, cc6, T6, f6, hw6, hbv6, hr6⟩ := hv1.open (by omega)
  cases hw6
  obtain ⟨s1, hs1⟩ : ∃ s, l1[i]? = some s := ⟨_, List.getElem?_eq_getElem (by omega)⟩
  have hre1 := hr6.sub (i := i * 2) (l := 2)
  rw [slots_reads hs1] at hre1
  obtain ⟨b7, o7, cap7, cc7, T7, f7, hw7, hbv7, hr7⟩ := hv2.open (by omega)
  cases hw7
  obtain ⟨s2, hs2⟩ : ∃ s, l2[i]? = some s := ⟨_, List.getElem?_eq_getElem (by omega)⟩
  have hre2 := hr7.sub (i := i * 2) (l := 2)
  rw [slots_reads hs2] at hre2
  refine Wp.skip ?_
  refine Ends.seq ?_
  refine Wp.seq ?_
  refine Wp.block ?_
  refine Wp.seq ?_
  refine AnyH.start G 9 rfl ?_
  refine Tk 0 rfl rfl (pv_move rfl) rfl ?_
  refine Tk 1 rfl rfl (pv_move rfl) rfl ?_
  refine Tk 2 rfl rfl (pv_indexAddr (i := i) rfl rfl rfl (by omega)) rfl ?_
  refine Tk 3 rfl rfl (pv_loadK [.int .i64 s1.1, .int .i64 s1.2] rfl rfl rfl hre1) rfl ?_
  refine Tk 4 rfl rfl (pv_move rfl) rfl ?_
  refine Tk 5 rfl rfl (pv_move rfl) rfl ?_
  refine Tk 6 rfl rfl (pv_indexAddr (i := i) rfl rfl rfl (by omega)) rfl ?_
  refine Tk 7 rfl rfl (pv_loadK [.int .i64 s2.1, .int .i64 s2.2] rfl rfl rfl hre2) rfl ?_
  refine Tk 8 rfl rfl (pv_neq_slot (a := s1) (b := s2) rfl rfl) rfl ?_
  refine AnyH.done (by kernel_rfl) ?_
  refine Ends.seq ?_
  refine Wp.cond_dect rfl (fun h3 => ?_) (fun h3 => ?_)
  ·
   refine Wr ?_
   refine Oa1 rfl rfl ?_
   refine On ?_
   refine Wp.ret ?_
   refine Ends.block_ret ?_
   refine Ends.then_ret ?_
   refine Ends.then_ret ?_
   refine Ends.block_ret ?_
   refine Ends.then_ret ?_
   exact Ends.ret (res1 rfl rfl) ⟨by rw [decide_eq_false (slots_neq hs1 hs2 (by assumption))], rfl⟩
  refine Wp.skip ?_
  refine Ends.block_normal ?_
  refine Ends.seq ?_
  refine Wp.region ?_
  refine Om1 rfl rfl ?_
  refine Ops.pv (pv_add rfl rfl (w64 (by omega) (by omega))) rfl ?_
  refine Oa1 rfl rfl ?_
  refine Ops.nil ?_
  refine Ends.goes ?_
  refine Goes.back (hK (i + 1) ⟨by omega, fun j hj => ?_⟩ (by omega)) ⟨rfl, rfl, rfl, trivial⟩
  rcases Nat.lt_succ_iff_lt_or_eq.1 hj with hj | rfl
  ·
   exact hn j hj
  rw [hs1, hs2, show s1 = s2 by simp_all]
 refine Wp.exit ?_
 refine Ends.then_exit ?_
 refine Ends.then_exit ?_
 refine Ends.block_hit ?_
 refine Ends.seq ?_
 refine Wr ?_
 refine Oa1 rfl rfl ?_
 refine On ?_
 refine Wp.ret ?_
 exact Ends.ret (res1 rfl rfl) ⟨by rw [decide_eq_true (slots_same (by omega) (fun j hj => hn j (by omega)))], rfl⟩
end Go.Proofs.YtdodfnjmkpgdbaaGreat
end
section
set_option linter.unusedVariables false
set_option linter.unusedSimpArgs false
namespace Go.Proofs.YtdodfnjmkpgdbaaGreat
open Go.SL
theorem tr_dadd_twice (uT : Value) (qb : Nat) (L : Hp) (l : List DN) (hH : DstH uT l qb L) (hl : l.length ≤ 2 ^ 20) (id r : Int) (d : DN) (h : dfind l id = some d) : Tr Tryz.prog 30 [.pointer (some ⟨qb, 0, none⟩), .int .i64 id, .int .i64 r] (L) (fun u L' => DAdd uT l id r qb u L') := by
 obtain ⟨v, H, hs, rfl⟩ := hH
 obtain ⟨a, c0, rfl⟩ := hs.form
 have hv := hs.view
 obtain ⟨i, hi, hd, hid⟩ := dfind_some h
 refine Tr.enter Tryz.func30 rfl Tryz.ntmps30 rfl (fun W F => ?_)
 refine Wp.app ?_
 refine Wr ?_
 refine Oa1 rfl rfl ?_
 refine On ?_
 refine Wp.seq ?_
 refine Wp.block ?_
 refine Wr ?_
 refine Om1 rfl rfl ?_
 refine Ops.pv (pv_lss rfl rfl) rfl ?_
 refine Om1 rfl rfl ?_
 refine Ops.split (t := 12) rfl (fun h1 => ?_) (fun h1 => ?_)
 ·
  refine Os1 rfl rfl rfl rfl ?_
  refine Os1 rfl rfl rfl rfl ?_
  refine Ops.pv (pv_pick_true rfl rfl) rfl ?_
  refine Om1 rfl rfl ?_
  refine Os1 rfl rfl rfl rfl ?_
  refine Os1 rfl rfl rfl rfl ?_
  refine Ops.pv (pv_pick_true rfl rfl) rfl ?_
  refine Om1 rfl rfl ?_
  refine Os1 rfl rfl rfl rfl ?_
  refine Os1 rfl rfl rfl rfl ?_
  refine Ops.pv (pv_pick_true rfl rfl) rfl ?_
  refine Oa1 rfl rfl ?_
  refine On ?_
  refine Wp.cond_true rfl ?_
  refine Wr ?_
  refine Oa1 rfl rfl ?_
  refine On ?_
  refine Wp.ret ?_
  refine Ends.block_ret ?_
  refine Ends.then_ret ?_
  have he : daddErr l id r = 1 := by unfold daddErr; rw [if_pos (by omega)]
  exact Ends.ret (L' := dBlk uT qb (.slice a l.length c0) :: (H ++ dCaps l)) (res1 rfl rfl) ⟨by rw [he], .inl ⟨by omega, _, H, hs, rfl⟩⟩
 refine Ops.pvg ⟨_, _, rfl, rfl, rfl⟩ (pv_move rfl) rfl ?_
 refine Ops.pvg ⟨_, _, rfl, rfl, rfl⟩ (pv_gtr rfl rfl) rfl ?_
 refine Ops.pv (pv_pick_false rfl rfl) rfl ?_
 refine Om1 rfl rfl ?_
 refine Ops.split (t := 16) rfl (fun h2 => ?_) (fun h2 => ?_)
 ·
  refine Os1 rfl rfl rfl rfl ?_
  refine Os1 rfl rfl rfl rfl ?_
  refine Ops.pv (pv_pick_true rfl rfl) rfl ?_
  refine Om1 rfl rfl ?_
  refine Os1 rfl rfl rfl rfl ?_
  refine Os1 rfl rfl rfl rfl ?_
  refine Ops.pv (pv_pick_true rfl rfl) rfl ?_
  refine Oa1 rfl rfl ?_
  refine On ?_
  refine Wp.cond_true rfl ?_
  refine Wr ?_
  refine Oa1 rfl rfl ?_
  refine On ?_
  refine Wp.ret ?_
  refine Ends.block_ret ?_
  refine Ends.then_ret ?_
  have he : daddErr l id r = 1 := by unfold daddErr; rw [if_pos (by omega)]
  exact Ends.ret (L' := dBlk uT qb (.slice a l.length c0) :: (H ++ dCaps l)) (res1 rfl rfl) ⟨by rw [he], .inl ⟨by omega, _, H, hs, rfl⟩⟩
 refine Ops.pvg ⟨_, _, rfl, rfl, rfl⟩ (pv_move rfl) rfl ?_
 refine Ops.pvg ⟨_, _, rfl, rfl, rfl⟩ (pv_lss rfl rfl) rfl ?_
 refine Ops.pv (pv_pick_false rfl rfl) rfl ?_
 refine Om1 rfl rfl ?_
 refine Ops.split (t := 20) rfl (fun h3 => ?_) (fun h3 => ?_)
 ·
  refine Os1 rfl rfl rfl rfl ?_
  refine Os1 rfl rfl rfl rfl ?_
  refine Ops.pv (pv_pick_true rfl rfl) rfl ?_
  refine Oa1 rfl rfl ?_
  refine On ?_
  refine Wp.cond_true rfl ?_
  refine Wr ?_
  refine Oa1 rfl rfl ?_
  refine On ?_
  refine Wp.ret ?_
  refine Ends.block_ret ?_
  refine Ends.then_ret ?_
  have he : daddErr l id r = 1 := by unfold daddErr; rw [if_pos (by omega)]
  exact Ends.ret (L' := dBlk uT qb (.slice a l.length c0) :: (H ++ dCaps l)) (res1 rfl rfl) ⟨by rw [he], .inl ⟨by omega, _, H, hs, rfl⟩⟩
 refine Ops.pvg ⟨_, _, rfl, rfl, rfl⟩ (pv_move rfl) rfl ?_
 refine Ops.pvg ⟨_, _, rfl, rfl, rfl⟩ (pv_gtr rfl rfl) rfl ?_
 refine Ops.pv (pv_pick_false rfl rfl) rfl ?_
 refine Oa1 rfl rfl ?_
 refine On ?_
 refine Wp.cond_dect rfl (fun h4 => ?_) (fun h4 => ?_)
 ·
  refine Wr ?_
  refine Oa1 rfl rfl ?_
  refine On ?_
  refine Wp.ret ?_
  refine Ends.block_ret ?_
  refine Ends.then_ret ?_
  have he : daddErr l id r = 1 := by unfold daddErr; rw [if_pos (by omega)]
  exact Ends.ret (L' := dBlk uT qb (.slice a l.length c0) :: (H ++ dCaps l)) (res1 rfl rfl) ⟨by rw [he], .inl ⟨by omega, _, H, hs, rfl⟩⟩
 refine Wr ?_
 refine Om1 rfl rfl ?_
 refine Om1 rfl rfl ?_
 refine Ops.ef rfl (ef_callr ((tr_dat uT qb _ l ⟨_, H, hs, rfl⟩ hl id).eq (by rw [hi])) rfl rfl) ?_
 rintro _ _ ⟨rfl, rfl⟩
 refine Ops.pv (pv_geq rfl rfl) rfl ?_
 refine Oa1 rfl rfl ?_
 refine On ?_
 refine Wp.cond_true rfl ?_
 refine Wr ?_
 refine Oa1 rfl rfl ?_
 refine On ?_
 refine Wp.ret ?_
 refine Ends.block_ret ?_
 refine Ends.then_ret ?_
 have he : daddErr l id r = 4 := by unfold daddErr; rw [if_neg (by omega), h]; rfl
 exact Ends.ret (L' := dBlk uT qb (.slice a l.length c0) :: (H ++ dCaps l)) (res1 rfl rfl) ⟨by rw [he], .inl ⟨by omega, _, H, hs, rfl⟩⟩
set_option maxHeartbeats 4000000 in
theorem tr_dadd_new (uT : Value) (qb : Nat) (L : Hp) (l : List DN) (hH : DstH uT l qb L) (hl : l.length ≤ 2 ^ 20) (id r : Int) (h : dfind l id = none) : Tr Tryz.prog 30 [.pointer (some ⟨qb, 0, none⟩), .int .i64 id, .int .i64 r] (L) (fun u L' => DAdd uT l id r qb u L') := by
 obtain ⟨v, H, hs, rfl⟩ := hH
 obtain ⟨a, c0, rfl⟩ := hs.form
 have hv := hs.view
 have hlc : l.length ≤ c0 := by obtain ⟨_, _, _, e, h, _⟩ := hv; cases e; exact h
 refine Tr.enter Tryz.func30 rfl Tryz.ntmps30 rfl (fun W F => ?_)
 refine Wp.app ?_
 refine Wr ?_
 refine Oa1 rfl rfl ?_
 refine On ?_
 refine Wp.seq ?_
 refine Wp.block ?_
 refine Wr ?_
 refine Om1 rfl rfl ?_
 refine Ops.pv (pv_lss rfl rfl) rfl ?_
 refine Om1 rfl rfl ?_
 refine Ops.split (t := 12) rfl (fun h1 => ?_) (fun h1 => ?_)
 ·
  refine Os1 rfl rfl rfl rfl ?_
  refine Os1 rfl rfl rfl rfl ?_
  refine Ops.pv (pv_pick_true rfl rfl) rfl ?_
  refine Om1 rfl rfl ?_
  refine Os1 rfl rfl rfl rfl ?_
  refine Os1 rfl rfl rfl rfl ?_
  refine Ops.pv (pv_pick_true rfl rfl) rfl ?_
  refine Om1 rfl rfl ?_
  refine Os1 rfl rfl rfl rfl ?_
  refine Os1 rfl rfl rfl rfl ?_
  refine Ops.pv (pv_pick_true rfl rfl) rfl ?_
  refine Oa1 rfl rfl ?_
  refine On ?_
  refine Wp.cond_true rfl ?_
  refine Wr ?_
  refine Oa1 rfl rfl ?_
  refine On ?_
  refine Wp.ret ?_
  refine Ends.block_ret ?_
  refine Ends.then_ret ?_
  have he : daddErr l id r = 1 := by unfold daddErr; rw [if_pos (by omega)]
  exact Ends.ret (L' := dBlk uT qb (.slice a l.length c0) :: (H ++ dCaps l)) (res1 rfl rfl) ⟨by rw [he], .inl ⟨by omega, _, H, hs, rfl⟩⟩
 refine Ops.pvg ⟨_, _, rfl, rfl, rfl⟩ (pv_move rfl) rfl ?_
 refine Ops.pvg ⟨_, _, rfl, rfl, rfl⟩ (pv_gtr rfl rfl) rfl ?_
 refine Ops.pv (pv_pick_false rfl rfl) rfl ?_
 refine Om1 rfl rfl ?_
 refine Ops.split (t := 16) rfl (fun h2 => ?_) (fun h2 => ?_)
 ·
  refine Os1 rfl rfl rfl rfl ?_
  refine Os1 rfl rfl rfl rfl ?_
  refine Ops.pv (pv_pick_true rfl rfl) rfl ?_
  refine Om1 rfl rfl ?_
  refine Os1 rfl rfl rfl rfl ?_
  refine Os1 rfl rfl rfl rfl ?_
  refine Ops.pv (pv_pick_true rfl rfl) rfl ?_
  refine Oa1 rfl rfl ?_
  refine On ?_
  refine Wp.cond_true rfl ?_
  refine Wr ?_
  refine Oa1 rfl rfl ?_
  refine On ?_
  refine Wp.ret ?_
  refine Ends.block_ret ?_
  refine Ends.then_ret ?_
  have he : daddErr l id r = 1 := by unfold daddErr; rw [if_pos (by omega)]
  exact Ends.ret (L' := dBlk uT qb (.slice a l.length c0) :: (H ++ dCaps l)) (res1 rfl rfl) ⟨by rw [he], .inl ⟨by omega, _, H, hs, rfl⟩⟩
 refine Ops.pvg ⟨_, _, rfl, rfl, rfl⟩ (pv_move rfl) rfl ?_
 refine Ops.pvg ⟨_, _, rfl, rfl, rfl⟩ (pv_lss rfl rfl) rfl ?_
 refine Ops.pv (pv_pick_false rfl rfl) rfl ?_
 refine Om1 rfl rfl ?_
 refine Ops.split (t := 20) rfl (fun h3 => ?_) (fun h3 => ?_)
 ·
  refine Os1 rfl rfl rfl rfl ?_
  refine Os1 rfl rfl rfl rfl ?_
  refine Ops.pv (pv_pick_true rfl rfl) rfl ?_
  refine Oa1 rfl rfl ?_
  refine On ?_
  refine Wp.cond_true rfl ?_
  refine Wr ?_
  refine Oa1 rfl rfl ?_
  refine On ?_
  refine Wp.ret ?_
  refine Ends.block_ret ?_
  refine Ends.then_ret ?_
  have he : daddErr l id r = 1 := by unfold daddErr; rw [if_pos (by omega)]
  exact Ends.ret (L' := dBlk uT qb (.slice a l.length c0) :: (H ++ dCaps l)) (res1 rfl rfl) ⟨by rw [he], .inl ⟨by omega, _, H, hs, rfl⟩⟩
 refine Ops.pvg ⟨_, _, rfl, rfl, rfl⟩ (pv_move rfl) rfl ?_
 refine Ops.pvg ⟨_, _, rfl, rfl, rfl⟩ (pv_gtr rfl rfl) rfl ?_
 refine Ops.pv (pv_pick_false rfl rfl) rfl ?_
 refine Oa1 rfl rfl ?_
 refine On ?_
 refine Wp.cond_dect rfl (fun h4 => ?_) (fun h4 => ?_)
 ·
  refine Wr ?_
  refine Oa1 rfl rfl ?_
  refine On ?_
  refine Wp.ret ?_
  refine Ends.block_ret ?_
  refine Ends.then_ret ?_
  have he : daddErr l id r = 1 := by unfold daddErr; rw [if_pos (by omega)]
  exact Ends.ret (L' := dBlk uT qb (.slice a l.length c0) :: (H ++ dCaps l)) (res1 rfl rfl) ⟨by rw [he], .inl ⟨by omega, _, H, hs, rfl⟩⟩
 refine Wr ?_
 refine Om1 rfl rfl ?_
 refine Om1 rfl rfl ?_
 refine Ops.ef rfl (ef_callr ((tr_dat uT qb _ l ⟨_, H, hs, rfl⟩ hl id).eq (by rw [dfind_none h])) rfl rfl) ?_
 rintro _ _ ⟨rfl, rfl⟩
 refine Ops.pv (pv_geq rfl rfl) rfl ?_
 refine Oa1 rfl rfl ?_
 refine On ?_
 refine Wp.cond_false rfl ?_
 refine Wp.skip ?_
 refine Ends.block_normal ?_
 refine Ends.seq ?_
 refine Wr ?_
 refine Oa1 rfl rfl ?_
 refine On ?_
 refine Wp.seq ?_
 refine Wp.block ?_
 refine Wp.loopK (σ := Nat) [(0, _), (1, _), (2, _)] (fun s => [(7, .int .i64 s)]) (fun s => dBlk uT qb (.slice a l.length c0) :: (H ++ (dCaps l ++ F))) (fun s => s ≤ l.length ∧ ∀ j d, j < s → l[j]? = some d → (d.id : Int) < id) (fun s => l.length - s) 0 ⟨Nat.zero_le _, fun j d hj => absurd hj (Nat.not_lt_zero j)⟩ ⟨rfl, rfl, rfl, trivial⟩ ⟨rfl, trivial⟩ (by intro w ho; (try dsimp only [List.nil_append, List.cons_append]); exact Drop.own ho) ?_
 rintro n KK ⟨hn, hb⟩ hK
 dsimp only [List.cons_append, List.nil_append] at hK ⊢
 refine Wp.seq ?_
 refine Wr ?_
 refine Om1 rfl rfl ?_
 refine Om1 rfl rfl ?_
 refine Ops.pv (pv_nilCheck rfl) rfl ?_
 refine Of1 rfl rfl rfl ?_
 refine Ol1 rfl rfl rfl rfl ?_
 refine Ops.pv (pv_len_slice (T := 43) rfl rfl) rfl ?_
 refine Ops.pv (pv_lss rfl rfl) rfl ?_
 refine Om1 rfl rfl ?_
 refine Ops.split (t := 36) rfl (fun h5 => ?_) (fun h5 => ?_)
 ·
  obtain ⟨b, o, cap, cc, T, f, hv1, hbv, hr⟩ := hv.open (by omega)
  cases hv1
  obtain ⟨d, hd⟩ : ∃ d, l[n]? = some d := ⟨_, List.getElem?_eq_getElem (by omega)⟩
  obtain ⟨q0, q1, q2, _⟩ := cel_reads (f := dnC) hr hd
  refine Ops.pvg ⟨_, _, rfl, rfl, rfl⟩ (pv_move rfl) rfl ?_
  refine Ops.pvg ⟨_, _, rfl, rfl, rfl⟩ (pv_nilCheck rfl) rfl ?_
  refine Ops.pvg ⟨_, _, rfl, rfl, rfl⟩ (pv_fieldAddr0 rfl rfl) rfl ?_
  refine Ops.pvg ⟨_, _, rfl, rfl, rfl⟩ (pv_load rfl rfl rfl) rfl ?_
  refine Ops.pvg ⟨_, _, rfl, rfl, rfl⟩ (pv_move rfl) rfl ?_
  refine Ops.pvg ⟨_, _, rfl, rfl, rfl⟩ (pv_indexAddr (i := n) rfl rfl rfl (by omega)) rfl ?_
  refine Ops.pvg ⟨_, _, rfl, rfl, rfl⟩ (pv_fieldAddr rfl rfl) rfl ?_
  refine Ops.pvg ⟨_, _, rfl, rfl, rfl⟩ (pv_load rfl rfl q0) rfl ?_
  refine Ops.pvg ⟨_, _, rfl, rfl, rfl⟩ (pv_move rfl) rfl ?_
  refine Ops.pvg ⟨_, _, rfl, rfl, rfl⟩ (pv_lss rfl rfl) rfl ?_
  refine Ops.pv (pv_pick_true rfl rfl) rfl ?_
  refine On ?_
  refine Wp.cond_dect rfl (fun h6 => ?_) (fun h6 => ?_)
  ·
   refine Wp.skip ?_
   refine Ends.seq ?_
   refine Wp.block ?_
   refine Wp.region ?_
   refine Om1 rfl rfl ?_
   refine Ops.pv (pv_add rfl rfl (w64 (by omega) (by omega))) rfl ?_
   refine Oa1 rfl rfl ?_
   refine Ops.nil ?_
   refine Ends.block_normal ?_
   refine Ends.goes ?_
   refine Goes.back (hK (n + 1) ⟨by omega, fun j d0 hj hd0 => ?_⟩ (by omega)) ⟨rfl, rfl, rfl, rfl, trivial⟩
   rcases Nat.lt_succ_iff_lt_or_eq.1 hj with hj | rfl
   ·
    exact hb j d0 hj hd0
   rw [hd] at hd0; cases hd0; assumption
  refine Wp.exit ?_
  refine Ends.then_exit ?_
  refine Ends.then_exit ?_
  refine Ends.block_hit ?_
  refine Ends.seq ?_
  refine Wr ?_
  obtain ⟨m, rfl⟩ : ∃ m : Nat, id = m := ⟨id.toNat, by omega⟩
  obtain ⟨k, rfl⟩ : ∃ k : Nat, r = k := ⟨r.toNat, by omega⟩
  obtain ⟨hp1, hp2⟩ := pow4 (k := k) (by omega)
  have hA := hv.part (i := 0) (j := n) (Nat.zero_le _) (by omega)
  have hB := hv.part (i := n) (j := l.length) (by omega) (Nat.le_refl _)
  have eA : (l.drop 0).take (n - 0) = l.take n := by simp
  have eB : (l.drop n).take (l.length - n) = l.drop n := List.take_of_length_le (by simp)
  rw [eA] at hA
  rw [eB] at hB
  have lA : (l.take n).length = n := by rw [List.length_take]; omega
  have lB : (l.drop n).length = l.length - n := by simp
  refine Ops.ef rfl (ef_buildSlice0 rfl) ?_
  rintro _ _ ⟨b1, rfl, rfl⟩
  refine Om1 rfl rfl ?_
  refine Ops.pv (pv_nilCheck rfl) rfl ?_
  refine Of1 rfl rfl rfl ?_
  refine Ol1 rfl rfl rfl rfl ?_
  refine Om1 rfl rfl ?_
  refine Ops.pv (pv_sliceL (i := 0) (j := n) (r := (l.take n).length) rfl rfl ⟨_, rfl⟩ (Nat.zero_le _) (by omega) (by omega)) rfl ?_
  refine Ops.ef rfl (ef_appendV (H := [(b1, .cells ([] : List Value).toArray 99)]) rfl (slc_empty' 99 3 b1) rfl (hA.mono (by intro p hp; simp [hp])) (cel_one _) (by omega) (by omega) rfl rfl) ?_
  rintro _ _ ⟨u1, K1, hu1, rfl, rfl⟩
  refine Ops.app ?_
  rw [Nat.zero_add, List.nil_append] at hu1
  refine Oa1 rfl rfl ?_
  refine On ?_
  refine Wr ?_
  refine Om1 rfl rfl ?_
  refine Om1 rfl rfl ?_
  refine Om1 rfl rfl ?_
  refine Om1 rfl rfl ?_
  refine Ops.pv (pv_shl rfl rfl (by omega) (sh1N (by omega))) rfl ?_
  refine Ops.ef rfl (ef_makeSlice (r := 2 ^ k) CapM.zero.cells rfl rfl rfl rfl (by decide) hp1 hp2 (by decide) rfl) ?_
  rintro _ _ ⟨cb1, rfl, rfl⟩
  rw [replicate_caps]
  refine Ops.pv (pv_build rfl) rfl ?_
  refine Ops.ef rfl (ef_buildSlice1 (k := 3) rfl rfl rfl rfl rfl) ?_
  rintro _ _ ⟨b2, rfl, rfl⟩
  refine Ops.ef rfl (ef_append (H := K1) (xs := [.int .i64 (m : Int), .int .i64 (k : Int), .slice (some ⟨cb1, 0, none⟩) (2 ^ k) (2 ^ k)]) rfl hu1 rfl ⟨rfl, rfl, rfl, trivial⟩ rfl rfl rfl (by omega) (by omega) rfl rfl) ?_
  rintro _ _ ⟨u2, K2, hu2, rfl, rfl⟩
  refine Ops.app ?_
  refine Oa1 rfl rfl ?_
  refine On ?_
  refine Wr ?_
  refine Om1 rfl rfl ?_
  refine Om1 rfl rfl ?_
  refine Om1 rfl rfl ?_
  refine Ops.pv (pv_nilCheck rfl) rfl ?_
  refine Of1 rfl rfl rfl ?_
  refine Ol1 rfl rfl rfl rfl ?_
  refine Om1 rfl rfl ?_
  refine Ops.pv (pv_sliceL (i := n) (j := l.length) (r := (l.drop n).length) rfl ⟨_, rfl⟩ rfl (by omega) (by omega) lB.symm) rfl ?_
  refine Ops.ef rfl (ef_appendV (H := K2) rfl hu2 rfl (hB.mono (by intro p hp; simp [hp])) (cel_one _) (by omega) (by omega) rfl rfl) ?_
  rintro _ _ ⟨u3, K3, hu3, rfl, rfl⟩
  refine Ops.app ?_
  have ho1 := hu3.one
  have ho2 := hu3.cells1
  refine Ops.pv (pv_nilCheck rfl) rfl ?_
  refine Of1 rfl rfl rfl ?_
  refine Ops.ef rfl (ef_store1 rfl rfl (by first | rfl | assumption) (by first | rfl | assumption)) ?_
  rintro _ _ ⟨rfl, rfl⟩
  refine On ?_
  refine Wr ?_
  refine Oa1 rfl rfl ?_
  refine On ?_
  refine Wp.ret ?_
  have he : daddErr l (m : Int) (k : Int) = 0 := by unfold daddErr; rw [if_neg (by omega), h]; rfl
  have hpl : dPlace l (m : Int) n := ⟨by omega, hb, fun d0 hd0 => by first | (rw [List.getElem?_eq_none (by omega)] at hd0; cases hd0) | (rw [hd] at hd0; cases hd0; assumption)⟩
  rw [← newN_c m k cb1, cel_ins, len_ins (newN m k cb1) (by omega)] at hu3
  refine Ends.heap (L' := dBlk uT qb u3 :: (K3 ++ (dCaps (l.take n ++ newN m k cb1 :: l.drop n) ++ F))) (fun w ho => ?_) ?_
  ·
   have h2 : Own W w ((cb1, .cells (capsCells (List.replicate (2 ^ k) CapM.zero)).toArray 25) :: (K3 ++ (dCaps l ++ (dBlk uT qb u3 :: F)))) := Drop.own ho
   have h3 := h2.perm (dadd_perm (d := newN m k cb1) (n := n))
   exact (Drop.own h3 : Own W w (dBlk uT qb u3 :: (K3 ++ (dCaps (l.take n ++ newN m k cb1 :: l.drop n) ++ F))))
  exact Ends.ret (L' := dBlk uT qb u3 :: (K3 ++ dCaps (l.take n ++ newN m k cb1 :: l.drop n))) (res1 rfl rfl) ⟨by rw [he], .inr ⟨he, n, cb1, hpl, _, _, hu3, rfl⟩⟩
 refine Os1 rfl rfl rfl rfl ?_
 refine Os1 rfl rfl rfl rfl ?_
 refine Os1 rfl rfl rfl rfl ?_
 refine Os1 rfl rfl rfl rfl ?_
 refine Os1 rfl rfl rfl rfl ?_
 refine Os1 rfl rfl rfl rfl ?_
 refine Os1 rfl rfl rfl rfl ?_
 refine Os1 rfl rfl rfl rfl ?_
 refine Os1 rfl rfl rfl rfl ?_
 refine Os1 rfl rfl rfl rfl ?_
 refine Ops.pv (pv_pick_false rfl rfl) rfl ?_
 refine On ?_
 refine Wp.cond_false rfl ?_
 refine Wp.exit ?_
 refine Ends.then_exit ?_
 refine Ends.then_exit ?_
 refine Ends.block_hit ?_
 refine Ends.seq ?_
 refine Wr ?_
 obtain ⟨m, rfl⟩ : ∃ m : Nat, id = m := ⟨id.toNat, by omega⟩
 obtain ⟨k, rfl⟩ : ∃ k : Nat, r = k := ⟨r.toNat, by omega⟩
 obtain ⟨hp1, hp2⟩ := pow4 (k := k) (by omega)
 have hA := hv.part (i := 0) (j := n) (Nat.zero_le _) (by omega)
 have hB := hv.part (i := n) (j := l.length) (by omega) (Nat.le_refl _)
 have eA : (l.drop 0).take (n - 0) = l.take n := by simp
 have eB : (l.drop n).take (l.length - n) = l.drop n := List.take_of_length_le (by simp)
 rw [eA] at hA
 rw [eB] at hB
 have lA : (l.take n).length = n := by rw [List.length_take]; omega
 have lB : (l.drop n).length = l.length - n := by simp
 refine Ops.ef rfl (ef_buildSlice0 rfl) ?_
 rintro _ _ ⟨b3, rfl, rfl⟩
 refine Om1 rfl rfl ?_
 refine Ops.pv (pv_nilCheck rfl) rfl ?_
 refine Of1 rfl rfl rfl ?_
 refine Ol1 rfl rfl rfl rfl ?_
 refine Om1 rfl rfl ?_
 refine Ops.pv (pv_sliceL (i := 0) (j := n) (r := (l.take n).length) rfl rfl ⟨_, rfl⟩ (Nat.zero_le _) (by omega) (by omega)) rfl ?_
 refine Ops.ef rfl (ef_appendV (H := [(b3, .cells ([] : List Value).toArray 99)]) rfl (slc_empty' 99 3 b3) rfl (hA.mono (by intro p hp; simp [hp])) (cel_one _) (by omega) (by omega) rfl rfl) ?_
 rintro _ _ ⟨u4, K4, hu4, rfl, rfl⟩
 refine Ops.app ?_
 rw [Nat.zero_add, List.nil_append] at hu4
 refine Oa1 rfl rfl ?_
 refine On ?_
 refine Wr ?_
 refine Om1 rfl rfl ?_
 refine Om1 rfl rfl ?_
 refine Om1 rfl rfl ?_
 refine Om1 rfl rfl ?_
 refine Ops.pv (pv_shl rfl rfl (by omega) (sh1N (by omega))) rfl ?_
 refine Ops.ef rfl (ef_makeSlice (r := 2 ^ k) CapM.zero.cells rfl rfl rfl rfl (by decide) hp1 hp2 (by decide) rfl) ?_
 rintro _ _ ⟨cb2, rfl, rfl⟩
 rw [replicate_caps]
 refine Ops.pv (pv_build rfl) rfl ?_
 refine Ops.ef rfl (ef_buildSlice1 (k := 3) rfl rfl rfl rfl rfl) ?_
 rintro _ _ ⟨b4, rfl, rfl⟩
 refine Ops.ef rfl (ef_append (H := K4) (xs := [.int .i64 (m : Int), .int .i64 (k : Int), .slice (some ⟨cb2, 0, none⟩) (2 ^ k) (2 ^ k)]) rfl hu4 rfl ⟨rfl, rfl, rfl, trivial⟩ rfl rfl rfl (by omega) (by omega) rfl rfl) ?_
 rintro _ _ ⟨u5, K5, hu5, rfl, rfl⟩
 refine Ops.app ?_
 refine Oa1 rfl rfl ?_
 refine On ?_
 refine Wr ?_
 refine Om1 rfl rfl ?_
 refine Om1 rfl rfl ?_
 refine Om1 rfl rfl ?_
 refine Ops.pv (pv_nilCheck rfl) rfl ?_
 refine Of1 rfl rfl rfl ?_
 refine Ol1 rfl rfl rfl rfl ?_
 refine Om1 rfl rfl ?_
 refine Ops.pv (pv_sliceL (i := n) (j := l.length) (r := (l.drop n).length) rfl ⟨_, rfl⟩ rfl (by omega) (by omega) lB.symm) rfl ?_
 refine Ops.ef rfl (ef_appendV (H := K5) rfl hu5 rfl (hB.mono (by intro p hp; simp [hp])) (cel_one _) (by omega) (by omega) rfl rfl) ?_
 rintro _ _ ⟨u6, K6, hu6, rfl, rfl⟩
 refine Ops.app ?_
 have ho1 := hu6.one
 have ho2 := hu6.cells1
 refine Ops.pv (pv_nilCheck rfl) rfl ?_
 refine Of1 rfl rfl rfl ?_
 refine Ops.ef rfl (ef_store1 rfl rfl (by first | rfl | assumption) (by first | rfl | assumption)) ?_
 rintro _ _ ⟨rfl, rfl⟩
 refine On ?_
 refine Wr ?_
 refine Oa1 rfl rfl ?_
 refine On ?_
 refine Wp.ret ?_
 have he : daddErr l (m : Int) (k : Int) = 0 := by unfold daddErr; rw [if_neg (by omega), h]; rfl
 have hpl : dPlace l (m : Int) n := ⟨by omega, hb, fun d0 hd0 => by first | (rw [List.getElem?_eq_none (by omega)] at hd0; cases hd0) | (rw [hd] at hd0; cases hd0; assumption)⟩
 rw [← newN_c m k cb2, cel_ins, len_ins (newN m k cb2) (by omega)] at hu6
 refine Ends.heap (L' := dBlk uT qb u6 :: (K6 ++ (dCaps (l.take n ++ newN m k cb2 :: l.drop n) ++ F))) (fun w ho => ?_) ?_
 ·
  have h2 : Own W w ((cb2, .cells (capsCells (List.replicate (2 ^ k) CapM.zero)).toArray 25) :: (K6 ++ (dCaps l ++ (dBlk uT qb u6 :: F)))) := Drop.own ho
  have h3 := h2.perm (dadd_perm (d := newN m k cb2) (n := n))
  exact (Drop.own h3 : Own W w (dBlk uT qb u6 :: (K6 ++ (dCaps (l.take n ++ newN m k cb2 :: l.drop n) ++ F))))
 exact Ends.ret (L' := dBlk uT qb u6 :: (K6 ++ dCaps (l.take n ++ newN m k cb2 :: l.drop n))) (res1 rfl rfl) ⟨by rw [he], .inr ⟨he, n, cb2, hpl, _, _, hu6, rfl⟩⟩
theorem tr_dadd (uT : Value) (qb : Nat) (L : Hp) (l : List DN) (hH : DstH uT l qb L) (hl : l.length ≤ 2 ^ 20) (id r : Int) : Tr Tryz.prog 30 [.pointer (some ⟨qb, 0, none⟩), .int .i64 id, .int .i64 r] L (fun u L' => DAdd uT l id r qb u L') := by
 cases h : dfind l id with
 | none => exact tr_dadd_new uT qb L l hH hl id r h
 | some d => exact tr_dadd_twice uT qb L l hH hl id r d h
theorem tr_ddrop_none (uT : Value) (qb : Nat) (L : Hp) (l : List DN) (hH : DstH uT l qb L) (hl : l.length ≤ 2 ^ 20) (x : Int) (h : dfind l x = none) : Tr Tryz.prog 32 [.pointer (some ⟨qb, 0, none⟩), .int .i64 x] (L) (fun u L' => u = .int .i64 3 ∧ DstH uT l qb L') := by
 obtain ⟨v, H, hs, rfl⟩ := hH
 obtain ⟨a, c0, rfl⟩ := hs.form
 have hv := hs.view
 refine Tr.enter Tryz.func32 rfl Tryz.ntmps32 rfl (fun W F => ?_)
 refine Wp.app ?_
 refine Wr ?_
 refine Oa1 rfl rfl ?_
 refine On ?_
 refine Wr ?_
 refine Om1 rfl rfl ?_
 refine Om1 rfl rfl ?_
 refine Ops.ef rfl (ef_callr ((tr_dat uT qb _ l ⟨_, H, hs, rfl⟩ hl x).eq (by rw [dfind_none h])) rfl rfl) ?_
 rintro _ _ ⟨rfl, rfl⟩
 refine Oa1 rfl rfl ?_
 refine On ?_
 refine Wp.seq ?_
 refine Wr ?_
 refine Om1 rfl rfl ?_
 refine Ops.pv ((pv_lss rfl rfl).tru (by first | rfl | decide | omega | assumption | (simp; done) | (simp; omega))) rfl ?_
 refine On ?_
 refine Wp.cond_true rfl ?_
 refine Wr ?_
 refine Oa1 rfl rfl ?_
 refine On ?_
 refine Wp.ret ?_
 refine Ends.then_ret ?_
 exact Ends.ret (L' := dBlk uT qb (.slice a l.length c0) :: (H ++ dCaps l)) (res1 rfl rfl) ⟨rfl, _, H, hs, rfl⟩
set_option maxHeartbeats 1000000 in
theorem tr_ddrop_some (uT : Value) (qb : Nat) (L : Hp) (l : List DN) (hH : DstH uT l qb L) (hl : l.length ≤ 2 ^ 20) (hsm : dSmall l) (x : Int) (d : DN) (h : dfind l x = some d) : Tr Tryz.prog 32 [.pointer (some ⟨qb, 0, none⟩), .int .i64 x] (L) (fun u L' => DDrop uT l d x qb u L') := by
 obtain ⟨v, H, hs, rfl⟩ := hH
 obtain ⟨a, c0, rfl⟩ := hs.form
 have hv := hs.view
 obtain ⟨i, hi, hd, hid⟩ := dfind_some h
 have hlt := d_lt hd
 obtain ⟨b, o, cap, cc, T, f, hv1, hbv, hr⟩ := hv.open (by omega)
 cases hv1
 obtain ⟨q0, q1, q2, _⟩ := cel_reads (f := dnC) hr hd
 have hblk := dCaps_blk hd
 have hd16 := hsm d (List.mem_of_getElem? hd)
 have hlc : l.length ≤ c0 := by obtain ⟨_, _, _, e, h, _⟩ := hv; cases e; exact h
 have hA := hv.part (i := 0) (j := i) (Nat.zero_le _) (by omega)
 have hB := hv.part (i := i + 1) (j := l.length) (by omega) (Nat.le_refl _)
 have eA : (l.drop 0).take (i - 0) = l.take i := by simp
 have eB : (l.drop (i + 1)).take (l.length - (i + 1)) = l.drop (i + 1) := List.take_of_length_le (by simp)
 rw [eA] at hA
 rw [eB] at hB
 have lA : (l.take i).length = i := by rw [List.length_take]; omega
 have lB : (l.drop (i + 1)).length = l.length - (i + 1) := by simp
 refine Tr.enter Tryz.func32 rfl Tryz.ntmps32 rfl (fun W F => ?_)
 refine Wp.app ?_
 refine Wr ?_
 refine Oa1 rfl rfl ?_
 refine On ?_
 refine Wr ?_
 refine Om1 rfl rfl ?_
 refine Om1 rfl rfl ?_
 refine Ops.ef rfl (ef_callr ((tr_dat uT qb _ l ⟨_, H, hs, rfl⟩ hl x).eq (by rw [hi])) rfl rfl) ?_
 rintro _ _ ⟨rfl, rfl⟩
 refine Oa1 rfl rfl ?_
 refine On ?_
 refine Wp.seq ?_
 refine Wr ?_
 refine Om1 rfl rfl ?_
 refine Ops.pv ((pv_lss rfl rfl).fls (by first | exact fun h => h rfl | decide | omega | assumption)) rfl ?_
 refine On ?_
 refine Wp.cond_false rfl ?_
 refine Wp.skip ?_
 refine Ends.seq ?_
 refine Wp.seq ?_
 refine Wr ?_
 refine Oa1 rfl rfl ?_
 refine On ?_
 refine Wp.block ?_
 refine Wp.loopK (σ := Nat) [(0, _), (5, _)] (fun s => [(6, .int .i64 s)]) (fun s => dBlk uT qb (.slice (some ⟨b, o, none⟩) l.length c0) :: (H ++ (dCaps l ++ F))) (fun s => s ≤ d.caps.length ∧ ∀ j c, j < s → d.caps[j]? = some c → c.kind = 0) (fun s => d.caps.length - s) 0 ⟨Nat.zero_le _, fun j c hj => absurd hj (Nat.not_lt_zero j)⟩ ⟨rfl, rfl, trivial⟩ ⟨rfl, trivial⟩ (by intro w ho; (try dsimp only [List.nil_append, List.cons_append]); exact Drop.own ho) ?_
 rintro j KK ⟨hj, hz⟩ hK
 dsimp only [List.cons_append, List.nil_append] at hK ⊢
 refine Wp.seq ?_
 refine Wr ?_
 refine Om1 rfl rfl ?_
 refine Om1 rfl rfl ?_
 refine Ops.pv (pv_nilCheck rfl) rfl ?_
 refine Of1 rfl rfl rfl ?_
 refine Ol1 rfl rfl rfl rfl ?_
 refine Om1 rfl rfl ?_
 refine Ops.pv (pv_indexAddr (i := i) rfl rfl rfl (by omega)) rfl ?_
 refine Ops.pv (pv_fieldAddr rfl rfl) rfl ?_
 refine Ops.pv (pv_load rfl rfl q2) rfl ?_
 refine Ops.pv (pv_len_slice (T := 67) rfl rfl) rfl ?_
 refine Ops.pv (pv_lss rfl rfl) rfl ?_
 refine On ?_
 refine Wp.cond_dect rfl (fun h1 => ?_) (fun h1 => ?_)
 ·
  obtain ⟨c, hc⟩ : ∃ c, d.caps[j]? = some c := ⟨_, List.getElem?_eq_getElem (by omega)⟩
  refine Wp.skip ?_
  refine Ends.seq ?_
  refine Wp.seq ?_
  refine Wp.block ?_
  refine Wr ?_
  refine Om1 rfl rfl ?_
  refine Ops.pv (pv_nilCheck rfl) rfl ?_
  refine Of1 rfl rfl rfl ?_
  refine Ol1 rfl rfl rfl rfl ?_
  refine Om1 rfl rfl ?_
  refine Ops.pv (pv_indexAddr (i := i) rfl rfl rfl (by omega)) rfl ?_
  refine Ops.pv (pv_fieldAddr rfl rfl) rfl ?_
  refine Ops.pv (pv_load rfl rfl q2) rfl ?_
  refine Om1 rfl rfl ?_
  refine Ops.pv (pv_indexAddr (i := j) rfl rfl rfl (by omega)) rfl ?_
  refine Ops.pv (pv_fieldAddr rfl rfl) rfl ?_
  refine Ops.pv (pv_load rfl rfl (caps_reads0 hc).1) rfl ?_
  refine Ops.pv (pv_neq rfl rfl) rfl ?_
  refine On ?_
  refine Wp.cond_dect rfl (fun h2 => ?_) (fun h2 => ?_)
  ·
   refine Wr ?_
   refine Oa1 rfl rfl ?_
   refine On ?_
   refine Wp.ret ?_
   refine Ends.block_ret ?_
   refine Ends.then_ret ?_
   refine Ends.then_ret ?_
   refine Ends.block_ret ?_
   refine Ends.then_ret ?_
   exact Ends.ret (L' := dBlk uT qb (.slice (some ⟨b, o, none⟩) l.length c0) :: (H ++ dCaps l)) (res1 rfl rfl) (.inl ⟨dempty_no hc (by assumption), rfl, _, H, hs, rfl⟩)
  refine Wp.skip ?_
  refine Ends.block_normal ?_
  refine Ends.seq ?_
  refine Wp.region ?_
  refine Om1 rfl rfl ?_
  refine Ops.pv (pv_add rfl rfl (w64 (by omega) (by omega))) rfl ?_
  refine Oa1 rfl rfl ?_
  refine Ops.nil ?_
  refine Ends.goes ?_
  refine Goes.back (hK (j + 1) ⟨by omega, fun j1 c1 hj1 hc1 => ?_⟩ (by omega)) ⟨rfl, rfl, rfl, trivial⟩
  rcases Nat.lt_succ_iff_lt_or_eq.1 hj1 with hj1 | rfl
  ·
   exact hz j1 c1 hj1 hc1
  rw [hc] at hc1; cases hc1; simp_all
 refine Wp.exit ?_
 refine Ends.then_exit ?_
 refine Ends.then_exit ?_
 refine Ends.block_hit ?_
 refine Ends.seq ?_
 refine Wp.seq ?_
 refine AnyH.start H 20 rfl ?_
 refine Tk 0 rfl rfl (pv_move rfl) rfl ?_
 refine Tk 2 rfl rfl (pv_move rfl) rfl ?_
 refine Tk 3 rfl rfl (pv_nilCheck rfl) rfl ?_
 refine Tk 4 rfl rfl (pv_fieldAddr0 rfl rfl) rfl ?_
 refine Tk 6 rfl rfl (pv_move rfl) rfl ?_
 refine Tk 9 rfl rfl (pv_move rfl) rfl ?_
 refine Tk 10 rfl rfl (pv_nilCheck rfl) rfl ?_
 refine Tk 11 rfl rfl (pv_fieldAddr0 rfl rfl) rfl ?_
 refine Tk 13 rfl rfl (pv_move rfl) rfl ?_
 refine Tk 14 rfl rfl (pv_add rfl rfl (w64n (k := i + 1) (by omega) (by omega))) rfl ?_
 refine AnyH.three 1 5 12 (by kernel_rfl) ?_ ?_ ?_
 ·
  refine Turn.ef rfl rfl (ef_buildSlice0 rfl) ?_ ?_
  ·
   rintro _ _ ⟨b1, rfl, rfl⟩; infer_instance
  rintro _ _ ⟨b1, rfl, rfl⟩
  refine AnyH.two 5 12 (by kernel_rfl) ?_ ?_
  ·
   refine Turn.ef rfl rfl (ef_pv (pv_load rfl rfl rfl) rfl) ?_ ?_
   ·
    rintro _ _ ⟨rfl, rfl⟩; infer_instance
   rintro _ _ ⟨rfl, rfl⟩
   refine Tk 7 rfl rfl (pv_sliceL (i := 0) (j := i) (r := (l.take i).length) rfl rfl ⟨_, rfl⟩ (Nat.zero_le _) (by omega) lA.symm) rfl ?_
   refine AnyH.two 8 12 (by kernel_rfl) ?_ ?_
   ·
    refine Turn.ef rfl rfl (ef_appendV (H := [(b1, .cells ([] : List Value).toArray 99)]) rfl (slc_empty' 99 3 b1) rfl (hA.mono (by intro p hp; simp [hp])) (cel_one _) (by omega) (by omega) rfl rfl) ?_ ?_
    ·
     rintro _ _ ⟨u1, K1, hu1, rfl, rfl⟩; infer_instance
    rintro _ _ ⟨u1, K1, hu1, rfl, rfl⟩
    refine AnyH.app ?_
    rw [Nat.zero_add, List.nil_append] at hu1
    refine AnyH.one 12 (by kernel_rfl) ?_
    refine Turn.ef rfl rfl (ef_pv (pv_load rfl rfl rfl) rfl) ?_ ?_
    ·
     rintro _ _ ⟨rfl, rfl⟩; infer_instance
    rintro _ _ ⟨rfl, rfl⟩
    refine Tk 15 rfl rfl (pv_sliceL (i := i + 1) (j := l.length) (r := (l.drop (i + 1)).length) rfl ⟨_, rfl⟩ rfl (by omega) hlc lB.symm) rfl ?_
    refine AnyH.one 16 (by kernel_rfl) ?_
    refine Turn.ef rfl rfl (ef_appendV (H := K1) rfl hu1 rfl (hB.mono (by intro p hp; simp [hp])) (cel_one _) (by omega) (by omega) rfl rfl) ?_ ?_
    ·
     rintro _ _ ⟨u2, K2, hu2, rfl, rfl⟩; infer_instance
    rintro _ _ ⟨u2, K2, hu2, rfl, rfl⟩
    refine AnyH.app ?_
    have ho1 := hu2.one
    have ho2 := hu2.cells1
    refine Tk 17 rfl rfl (pv_nilCheck rfl) rfl ?_
    refine Tk 18 rfl rfl (pv_fieldAddr0 rfl rfl) rfl ?_
    refine AnyH.one 19 (by kernel_rfl) ?_
    refine Turn.ef rfl rfl (ef_store1 rfl rfl (by first | rfl | assumption) (by first | rfl | assumption)) ?_ ?_
    ·
     rintro _ _ ⟨rfl, rfl⟩; infer_instance
    rintro _ _ ⟨rfl, rfl⟩
    refine AnyH.done (by kernel_rfl) ?_
    refine Ends.seq ?_
    refine Wr ?_
    refine Oa1 rfl rfl ?_
    refine On ?_
    refine Wp.ret ?_
    rw [ddel_cel, ddel_len hlt, ← ddel_eq hi] at hu2
    refine Ends.heap (L' := dBlk uT qb u2 :: (K2 ++ (dCaps (ddel l x) ++ F))) (fun w ho => ?_) ?_
    ·
     have h2 : Own W w (dCaps l ++ (dBlk uT qb u2 :: (K2 ++ F))) := Drop.own ho
     have h3 := h2.perm ((ddel_perm hd).append_right _)
     rw [← ddel_eq hi, List.cons_append] at h3
     exact (Drop.own h3 : Own W w (dBlk uT qb u2 :: (K2 ++ (dCaps (ddel l x) ++ F))))
    exact Ends.ret (L' := dBlk uT qb u2 :: (K2 ++ dCaps (ddel l x))) (res1 rfl rfl) (.inr ⟨dempty_yes (fun j1 c1 hj1 hc1 => hz j1 c1 (by omega) hc1), rfl, _, _, hu2, rfl⟩)
   refine Turn.ef rfl rfl (ef_pv (pv_load rfl rfl rfl) rfl) ?_ ?_
   ·
    rintro _ _ ⟨rfl, rfl⟩; infer_instance
   rintro _ _ ⟨rfl, rfl⟩
   refine Tk 15 rfl rfl (pv_sliceL (i := i + 1) (j := l.length) (r := (l.drop (i + 1)).length) rfl ⟨_, rfl⟩ rfl (by omega) hlc lB.symm) rfl ?_
   refine AnyH.one 8 (by kernel_rfl) ?_
   refine Turn.ef rfl rfl (ef_appendV (H := [(b1, .cells ([] : List Value).toArray 99)]) rfl (slc_empty' 99 3 b1) rfl (hA.mono (by intro p hp; simp [hp])) (cel_one _) (by omega) (by omega) rfl rfl) ?_ ?_
   ·
    rintro _ _ ⟨u3, K3, hu3, rfl, rfl⟩; infer_instance
   rintro _ _ ⟨u3, K3, hu3, rfl, rfl⟩
   refine AnyH.app ?_
   rw [Nat.zero_add, List.nil_append] at hu3
   refine AnyH.one 16 (by kernel_rfl) ?_
   refine Turn.ef rfl rfl (ef_appendV (H := K3) rfl hu3 rfl (hB.mono (by intro p hp; simp [hp])) (cel_one _) (by omega) (by omega) rfl rfl) ?_ ?_
   ·
    rintro _ _ ⟨u4, K4, hu4, rfl, rfl⟩; infer_instance
   rintro _ _ ⟨u4, K4, hu4, rfl, rfl⟩
   refine AnyH.app ?_
   have ho1 := hu4.one
   have ho2 := hu4.cells1
   refine Tk 17 rfl rfl (pv_nilCheck rfl) rfl ?_
   refine Tk 18 rfl rfl (pv_fieldAddr0 rfl rfl) rfl ?_
   refine AnyH.one 19 (by kernel_rfl) ?_
   refine Turn.ef rfl rfl (ef_store1 rfl rfl (by first | rfl | assumption) (by first | rfl | assumption)) ?_ ?_
   ·
    rintro _ _ ⟨rfl, rfl⟩; infer_instance
   rintro _ _ ⟨rfl, rfl⟩
   refine AnyH.done (by kernel_rfl) ?_
   refine Ends.seq ?_
   refine Wr ?_
   refine Oa1 rfl rfl ?_
   refine On ?_
   refine Wp.ret ?_
   rw [ddel_cel, ddel_len hlt, ← ddel_eq hi] at hu4
   refine Ends.heap (L' := dBlk uT qb u4 :: (K4 ++ (dCaps (ddel l x) ++ F))) (fun w ho => ?_) ?_
   ·
    have h2 : Own W w (dCaps l ++ (dBlk uT qb u4 :: (K4 ++ F))) := Drop.own ho
    have h3 := h2.perm ((ddel_perm hd).append_right _)
    rw [← ddel_eq hi, List.cons_append] at h3
    exact (Drop.own h3 : Own W w (dBlk uT qb u4 :: (K4 ++ (dCaps (ddel l x) ++ F))))
   exact Ends.ret (L' := dBlk uT qb u4 :: (K4 ++ dCaps (ddel l x))) (res1 rfl rfl) (.inr ⟨dempty_yes (fun j1 c1 hj1 hc1 => hz j1 c1 (by omega) hc1), rfl, _, _, hu4, rfl⟩)
  refine Turn.ef rfl rfl (ef_pv (pv_load rfl rfl rfl) rfl) ?_ ?_
  ·
   rintro _ _ ⟨rfl, rfl⟩; infer_instance
  rintro _ _ ⟨rfl, rfl⟩
  refine Tk 15 rfl rfl (pv_sliceL (i := i + 1) (j := l.length) (r := (l.drop (i + 1)).length) rfl ⟨_, rfl⟩ rfl (by omega) hlc lB.symm) rfl ?_
  refine AnyH.one 5 (by kernel_rfl) ?_
  refine Turn.ef rfl rfl (ef_pv (pv_load rfl rfl rfl) rfl) ?_ ?_
  ·
   rintro _ _ ⟨rfl, rfl⟩; infer_instance
  rintro _ _ ⟨rfl, rfl⟩
  refine Tk 7 rfl rfl (pv_sliceL (i := 0) (j := i) (r := (l.take i).length) rfl rfl ⟨_, rfl⟩ (Nat.zero_le _) (by omega) lA.symm) rfl ?_
  refine AnyH.one 8 (by kernel_rfl) ?_
  refine Turn.ef rfl rfl (ef_appendV (H := [(b1, .cells ([] : List Value).toArray 99)]) rfl (slc_empty' 99 3 b1) rfl (hA.mono (by intro p hp; simp [hp])) (cel_one _) (by omega) (by omega) rfl rfl) ?_ ?_
  ·
   rintro _ _ ⟨u5, K5, hu5, rfl, rfl⟩; infer_instance
  rintro _ _ ⟨u5, K5, hu5, rfl, rfl⟩
  refine AnyH.app ?_
  rw [Nat.zero_add, List.nil_append] at hu5
  refine AnyH.one 16 (by kernel_rfl) ?_
  refine Turn.ef rfl rfl (ef_appendV (H := K5) rfl hu5 rfl (hB.mono (by intro p hp; simp [hp])) (cel_one _) (by omega) (by omega) rfl rfl) ?_ ?_
  ·
   rintro _ _ ⟨u6, K6, hu6, rfl, rfl⟩; infer_instance
  rintro _ _ ⟨u6, K6, hu6, rfl, rfl⟩
  refine AnyH.app ?_
  have ho1 := hu6.one
  have ho2 := hu6.cells1
  refine Tk 17 rfl rfl (pv_nilCheck rfl) rfl ?_
  refine Tk 18 rfl rfl (pv_fieldAddr0 rfl rfl) rfl ?_
  refine AnyH.one 19 (by kernel_rfl) ?_
  refine Turn.ef rfl rfl (ef_store1 rfl rfl (by first | rfl | assumption) (by first | rfl | assumption)) ?_ ?_
  ·
   rintro _ _ ⟨rfl, rfl⟩; infer_instance
  rintro _ _ ⟨rfl, rfl⟩
  refine AnyH.done (by kernel_rfl) ?_
  refine Ends.seq ?_
  refine Wr ?_
  refine Oa1 rfl rfl ?_
  refine On ?_
  refine Wp.ret ?_
  rw [ddel_cel, ddel_len hlt, ← ddel_eq hi] at hu6
  refine Ends.heap (L' := dBlk uT qb u6 :: (K6 ++ (dCaps (ddel l x) ++ F))) (fun w ho => ?_) ?_
  ·
   have h2 : Own W w (dCaps l ++ (dBlk uT qb u6 :: (K6 ++ F))) := Drop.own ho
   have h3 := h2.perm ((ddel_perm hd).append_right _)
   rw [← ddel_eq hi, List.cons_append] at h3
   exact (Drop.own h3 : Own W w (dBlk uT qb u6 :: (K6 ++ (dCaps (ddel l x) ++ F))))
  exact Ends.ret (L' := dBlk uT qb u6 :: (K6 ++ dCaps (ddel l x))) (res1 rfl rfl) (.inr ⟨dempty_yes (fun j1 c1 hj1 hc1 => hz j1 c1 (by omega) hc1), rfl, _, _, hu6, rfl⟩)
 ·
  refine Turn.ef rfl rfl (ef_pv (pv_load rfl rfl rfl) rfl) ?_ ?_
  ·
   rintro _ _ ⟨rfl, rfl⟩; infer_instance
  rintro _ _ ⟨rfl, rfl⟩
  refine Tk 7 rfl rfl (pv_sliceL (i := 0) (j := i) (r := (l.take i).length) rfl rfl ⟨_, rfl⟩ (Nat.zero_le _) (by omega) lA.symm) rfl ?_
  refine AnyH.two 1 12 (by kernel_rfl) ?_ ?_
  ·
   refine Turn.ef rfl rfl (ef_buildSlice0 rfl) ?_ ?_
   ·
    rintro _ _ ⟨b2, rfl, rfl⟩; infer_instance
   rintro _ _ ⟨b2, rfl, rfl⟩
   refine AnyH.two 8 12 (by kernel_rfl) ?_ ?_
   ·
    refine Turn.ef rfl rfl (ef_appendV (H := [(b2, .cells ([] : List Value).toArray 99)]) rfl (slc_empty' 99 3 b2) rfl (hA.mono (by intro p hp; simp [hp])) (cel_one _) (by omega) (by omega) rfl rfl) ?_ ?_
    ·
     rintro _ _ ⟨u7, K7, hu7, rfl, rfl⟩; infer_instance
    rintro _ _ ⟨u7, K7, hu7, rfl, rfl⟩
    refine AnyH.app ?_
    rw [Nat.zero_add, List.nil_append] at hu7
    refine AnyH.one 12 (by kernel_rfl) ?_
    refine Turn.ef rfl rfl (ef_pv (pv_load rfl rfl rfl) rfl) ?_ ?_
    ·
     rintro _ _ ⟨rfl, rfl⟩; infer_instance
    rintro _ _ ⟨rfl, rfl⟩
    refine Tk 15 rfl rfl (pv_sliceL (i := i + 1) (j := l.length) (r := (l.drop (i + 1)).length) rfl ⟨_, rfl⟩ rfl (by omega) hlc lB.symm) rfl ?_
    refine AnyH.one 16 (by kernel_rfl) ?_
    refine Turn.ef rfl rfl (ef_appendV (H := K7) rfl hu7 rfl (hB.mono (by intro p hp; simp [hp])) (cel_one _) (by omega) (by omega) rfl rfl) ?_ ?_
    ·
     rintro _ _ ⟨u8, K8, hu8, rfl, rfl⟩; infer_instance
    rintro _ _ ⟨u8, K8, hu8, rfl, rfl⟩
    refine AnyH.app ?_
    have ho1 := hu8.one
    have ho2 := hu8.cells1
    refine Tk 17 rfl rfl (pv_nilCheck rfl) rfl ?_
    refine Tk 18 rfl rfl (pv_fieldAddr0 rfl rfl) rfl ?_
    refine AnyH.one 19 (by kernel_rfl) ?_
    refine Turn.ef rfl rfl (ef_store1 rfl rfl (by first | rfl | assumption) (by first | rfl | assumption)) ?_ ?_
    ·
     rintro _ _ ⟨rfl, rfl⟩; infer_instance
    rintro _ _ ⟨rfl, rfl⟩
    refine AnyH.done (by kernel_rfl) ?_
    refine Ends.seq ?_
    refine Wr ?_
    refine Oa1 rfl rfl ?_
    refine On ?_
    refine Wp.ret ?_
    rw [ddel_cel, ddel_len hlt, ← ddel_eq hi] at hu8
    refine Ends.heap (L' := dBlk uT qb u8 :: (K8 ++ (dCaps (ddel l x) ++ F))) (fun w ho => ?_) ?_
    ·
     have h2 : Own W w (dCaps l ++ (dBlk uT qb u8 :: (K8 ++ F))) := Drop.own ho
     have h3 := h2.perm ((ddel_perm hd).append_right _)
     rw [← ddel_eq hi, List.cons_append] at h3
     exact (Drop.own h3 : Own W w (dBlk uT qb u8 :: (K8 ++ (dCaps (ddel l x) ++ F))))
    exact Ends.ret (L' := dBlk uT qb u8 :: (K8 ++ dCaps (ddel l x))) (res1 rfl rfl) (.inr ⟨dempty_yes (fun j1 c1 hj1 hc1 => hz j1 c1 (by omega) hc1), rfl, _, _, hu8, rfl⟩)
   refine Turn.ef rfl rfl (ef_pv (pv_load rfl rfl rfl) rfl) ?_ ?_
   ·
    rintro _ _ ⟨rfl, rfl⟩; infer_instance
   rintro _ _ ⟨rfl, rfl⟩
   refine Tk 15 rfl rfl (pv_sliceL (i := i + 1) (j := l.length) (r := (l.drop (i + 1)).length) rfl ⟨_, rfl⟩ rfl (by omega) hlc lB.symm) rfl ?_
   refine AnyH.one 8 (by kernel_rfl) ?_
   refine Turn.ef rfl rfl (ef_appendV (H := [(b2, .cells ([] : List Value).toArray 99)]) rfl (slc_empty' 99 3 b2) rfl (hA.mono (by intro p hp; simp [hp])) (cel_one _) (by omega) (by omega) rfl rfl) ?_ ?_
   ·
    rintro _ _ ⟨u9, K9, hu9, rfl, rfl⟩; infer_instance
   rintro _ _ ⟨u9, K9, hu9, rfl, rfl⟩
   refine AnyH.app ?_
   rw [Nat.zero_add, List.nil_append] at hu9
   refine AnyH.one 16 (by kernel_rfl) ?_
   refine Turn.ef rfl rfl (ef_appendV (H := K9) rfl hu9 rfl (hB.mono (by intro p hp; simp [hp])) (cel_one _) (by omega) (by omega) rfl rfl) ?_ ?_
   ·
    rintro _ _ ⟨u10, K10, hu10, rfl, rfl⟩; infer_instance
   rintro _ _ ⟨u10, K10, hu10, rfl, rfl⟩
   refine AnyH.app ?_
   have ho1 := hu10.one
   have ho2 := hu10.cells1
   refine Tk 17 rfl rfl (pv_nilCheck rfl) rfl ?_
   refine Tk 18 rfl rfl (pv_fieldAddr0 rfl rfl) rfl ?_
   refine AnyH.one 19 (by kernel_rfl) ?_
   refine Turn.ef rfl rfl (ef_store1 rfl rfl (by first | rfl | assumption) (by first | rfl | assumption)) ?_ ?_
   ·
    rintro _ _ ⟨rfl, rfl⟩; infer_instance
   rintro _ _ ⟨rfl, rfl⟩
   refine AnyH.done (by kernel_rfl) ?_
   refine Ends.seq ?_
   refine Wr ?_
   refine Oa1 rfl rfl ?_
   refine On ?_
   refine Wp.ret ?_
   rw [ddel_cel, ddel_len hlt, ← ddel_eq hi] at hu10
   refine Ends.heap (L' := dBlk uT qb u10 :: (K10 ++ (dCaps (ddel l x) ++ F))) (fun w ho => ?_) ?_
   ·
    have h2 : Own W w (dCaps l ++ (dBlk uT qb u10 :: (K10 ++ F))) := Drop.own ho
    have h3 := h2.perm ((ddel_perm hd).append_right _)
    rw [← ddel_eq hi, List.cons_append] at h3
    exact (Drop.own h3 : Own W w (dBlk uT qb u10 :: (K10 ++ (dCaps (ddel l x) ++ F))))
   exact Ends.ret (L' := dBlk uT qb u10 :: (K10 ++ dCaps (ddel l x))) (res1 rfl rfl) (.inr ⟨dempty_yes (fun j1 c1 hj1 hc1 => hz j1 c1 (by omega) hc1), rfl, _, _, hu10, rfl⟩)
  refine Turn.ef rfl rfl (ef_pv (pv_load rfl rfl rfl) rfl) ?_ ?_
  ·
   rintro _ _ ⟨rfl, rfl⟩; infer_instance
  rintro _ _ ⟨rfl, rfl⟩
  refine Tk 15 rfl rfl (pv_sliceL (i := i + 1) (j := l.length) (r := (l.drop (i + 1)).length) rfl ⟨_, rfl⟩ rfl (by omega) hlc lB.symm) rfl ?_
  refine AnyH.one 1 (by kernel_rfl) ?_
  refine Turn.ef rfl rfl (ef_buildSlice0 rfl) ?_ ?_
  ·
   rintro _ _ ⟨b3, rfl, rfl⟩; infer_instance
  rintro _ _ ⟨b3, rfl, rfl⟩
  refine AnyH.one 8 (by kernel_rfl) ?_
  refine Turn.ef rfl rfl (ef_appendV (H := [(b3, .cells ([] : List Value).toArray 99)]) rfl (slc_empty' 99 3 b3) rfl (hA.mono (by intro p hp; simp [hp])) (cel_one _) (by omega) (by omega) rfl rfl) ?_ ?_
  ·
   rintro _ _ ⟨u11, K11, hu11, rfl, rfl⟩; infer_instance
  rintro _ _ ⟨u11, K11, hu11, rfl, rfl⟩
  refine AnyH.app ?_
  rw [Nat.zero_add, List.nil_append] at hu11
  refine AnyH.one 16 (by kernel_rfl) ?_
  refine Turn.ef rfl rfl (ef_appendV (H := K11) rfl hu11 rfl (hB.mono (by intro p hp; simp [hp])) (cel_one _) (by omega) (by omega) rfl rfl) ?_ ?_
  ·
   rintro _ _ ⟨u12, K12, hu12, rfl, rfl⟩; infer_instance
  rintro _ _ ⟨u12, K12, hu12, rfl, rfl⟩
  refine AnyH.app ?_
  have ho1 := hu12.one
  have ho2 := hu12.cells1
  refine Tk 17 rfl rfl (pv_nilCheck rfl) rfl ?_
  refine Tk 18 rfl rfl (pv_fieldAddr0 rfl rfl) rfl ?_
  refine AnyH.one 19 (by kernel_rfl) ?_
  refine Turn.ef rfl rfl (ef_store1 rfl rfl (by first | rfl | assumption) (by first | rfl | assumption)) ?_ ?_
  ·
   rintro _ _ ⟨rfl, rfl⟩; infer_instance
  rintro _ _ ⟨rfl, rfl⟩
  refine AnyH.done (by kernel_rfl) ?_
  refine Ends.seq ?_
  refine Wr ?_
  refine Oa1 rfl rfl ?_
  refine On ?_
  refine Wp.ret ?_
  rw [ddel_cel, ddel_len hlt, ← ddel_eq hi] at hu12
  refine Ends.heap (L' := dBlk uT qb u12 :: (K12 ++ (dCaps (ddel l x) ++ F))) (fun w ho => ?_) ?_
  ·
   have h2 : Own W w (dCaps l ++ (dBlk uT qb u12 :: (K12 ++ F))) := Drop.own ho
   have h3 := h2.perm ((ddel_perm hd).append_right _)
   rw [← ddel_eq hi, List.cons_append] at h3
   exact (Drop.own h3 : Own W w (dBlk uT qb u12 :: (K12 ++ (dCaps (ddel l x) ++ F))))
  exact Ends.ret (L' := dBlk uT qb u12 :: (K12 ++ dCaps (ddel l x))) (res1 rfl rfl) (.inr ⟨dempty_yes (fun j1 c1 hj1 hc1 => hz j1 c1 (by omega) hc1), rfl, _, _, hu12, rfl⟩)
 refine Turn.ef rfl rfl (ef_pv (pv_load rfl rfl rfl) rfl) ?_ ?_
 ·
  rintro _ _ ⟨rfl, rfl⟩; infer_instance
 rintro _ _ ⟨rfl, rfl⟩
 refine Tk 15 rfl rfl (pv_sliceL (i := i + 1) (j := l.length) (r := (l.drop (i + 1)).length) rfl ⟨_, rfl⟩ rfl (by omega) hlc lB.symm) rfl ?_
 refine AnyH.two 1 5 (by kernel_rfl) ?_ ?_
 ·
  refine Turn.ef rfl rfl (ef_buildSlice0 rfl) ?_ ?_
  ·
   rintro _ _ ⟨b4, rfl, rfl⟩; infer_instance
  rintro _ _ ⟨b4, rfl, rfl⟩
  refine AnyH.one 5 (by kernel_rfl) ?_
  refine Turn.ef rfl rfl (ef_pv (pv_load rfl rfl rfl) rfl) ?_ ?_
  ·
   rintro _ _ ⟨rfl, rfl⟩; infer_instance
  rintro _ _ ⟨rfl, rfl⟩
  refine Tk 7 rfl rfl (pv_sliceL (i := 0) (j := i) (r := (l.take i).length) rfl rfl ⟨_, rfl⟩ (Nat.zero_le _) (by omega) lA.symm) rfl ?_
  refine AnyH.one 8 (by kernel_rfl) ?_
  refine Turn.ef rfl rfl (ef_appendV (H := [(b4, .cells ([] : List Value).toArray 99)]) rfl (slc_empty' 99 3 b4) rfl (hA.mono (by intro p hp; simp [hp])) (cel_one _) (by omega) (by omega) rfl rfl) ?_ ?_
  ·
   rintro _ _ ⟨u13, K13, hu13, rfl, rfl⟩; infer_instance
  rintro _ _ ⟨u13, K13, hu13, rfl, rfl⟩
  refine AnyH.app ?_
  rw [Nat.zero_add, List.nil_append] at hu13
  refine AnyH.one 16 (by kernel_rfl) ?_
  refine Turn.ef rfl rfl (ef_appendV (H := K13) rfl hu13 rfl (hB.mono (by intro p hp; simp [hp])) (cel_one _) (by omega) (by omega) rfl rfl) ?_ ?_
  ·
   rintro _ _ ⟨u14, K14, hu14, rfl, rfl⟩; infer_instance
  rintro _ _ ⟨u14, K14, hu14, rfl, rfl⟩
  refine AnyH.app ?_
  have ho1 := hu14.one
  have ho2 := hu14.cells1
  refine Tk 17 rfl rfl (pv_nilCheck rfl) rfl ?_
  refine Tk 18 rfl rfl (pv_fieldAddr0 rfl rfl) rfl ?_
  refine AnyH.one 19 (by kernel_rfl) ?_
  refine Turn.ef rfl rfl (ef_store1 rfl rfl (by first | rfl | assumption) (by first | rfl | assumption)) ?_ ?_
  ·
   rintro _ _ ⟨rfl, rfl⟩; infer_instance
  rintro _ _ ⟨rfl, rfl⟩
  refine AnyH.done (by kernel_rfl) ?_
  refine Ends.seq ?_
  refine Wr ?_
  refine Oa1 rfl rfl ?_
  refine On ?_
  refine Wp.ret ?_
  rw [ddel_cel, ddel_len hlt, ← ddel_eq hi] at hu14
  refine Ends.heap (L' := dBlk uT qb u14 :: (K14 ++ (dCaps (ddel l x) ++ F))) (fun w ho => ?_) ?_
  ·
   have h2 : Own W w (dCaps l ++ (dBlk uT qb u14 :: (K14 ++ F))) := Drop.own ho
   have h3 := h2.perm ((ddel_perm hd).append_right _)
   rw [← ddel_eq hi, List.cons_append] at h3
   exact (Drop.own h3 : Own W w (dBlk uT qb u14 :: (K14 ++ (dCaps (ddel l x) ++ F))))
  exact Ends.ret (L' := dBlk uT qb u14 :: (K14 ++ dCaps (ddel l x))) (res1 rfl rfl) (.inr ⟨dempty_yes (fun j1 c1 hj1 hc1 => hz j1 c1 (by omega) hc1), rfl, _, _, hu14, rfl⟩)
 refine Turn.ef rfl rfl (ef_pv (pv_load rfl rfl rfl) rfl) ?_ ?_
 ·
  rintro _ _ ⟨rfl, rfl⟩; infer_instance
 rintro _ _ ⟨rfl, rfl⟩
 refine Tk 7 rfl rfl (pv_sliceL (i := 0) (j := i) (r := (l.take i).length) rfl rfl ⟨_, rfl⟩ (Nat.zero_le _) (by omega) lA.symm) rfl ?_
 refine AnyH.one 1 (by kernel_rfl) ?_
 refine Turn.ef rfl rfl (ef_buildSlice0 rfl) ?_ ?_
 ·
  rintro _ _ ⟨b5, rfl, rfl⟩; infer_instance
 rintro _ _ ⟨b5, rfl, rfl⟩
 refine AnyH.one 8 (by kernel_rfl) ?_
 refine Turn.ef rfl rfl (ef_appendV (H := [(b5, .cells ([] : List Value).toArray 99)]) rfl (slc_empty' 99 3 b5) rfl (hA.mono (by intro p hp; simp [hp])) (cel_one _) (by omega) (by omega) rfl rfl) ?_ ?_
 ·
  rintro _ _ ⟨u15, K15, hu15, rfl, rfl⟩; infer_instance
 rintro _ _ ⟨u15, K15, hu15, rfl, rfl⟩
 refine AnyH.app ?_
 rw [Nat.zero_add, List.nil_append] at hu15
 refine AnyH.one 16 (by kernel_rfl) ?_
 refine Turn.ef rfl rfl (ef_appendV (H := K15) rfl hu15 rfl (hB.mono (by intro p hp; simp [hp])) (cel_one _) (by omega) (by omega) rfl rfl) ?_ ?_
 ·
  rintro _ _ ⟨u16, K16, hu16, rfl, rfl⟩; infer_instance
 rintro _ _ ⟨u16, K16, hu16, rfl, rfl⟩
 refine AnyH.app ?_
 have ho1 := hu16.one
 have ho2 := hu16.cells1
 refine Tk 17 rfl rfl (pv_nilCheck rfl) rfl ?_
 refine Tk 18 rfl rfl (pv_fieldAddr0 rfl rfl) rfl ?_
 refine AnyH.one 19 (by kernel_rfl) ?_
 refine Turn.ef rfl rfl (ef_store1 rfl rfl (by first | rfl | assumption) (by first | rfl | assumption)) ?_ ?_
 ·
  rintro _ _ ⟨rfl, rfl⟩; infer_instance
 rintro _ _ ⟨rfl, rfl⟩
 refine AnyH.done (by kernel_rfl) ?_
 refine Ends.seq ?_
 refine Wr ?_
 refine Oa1 rfl rfl ?_
 refine On ?_
 refine Wp.ret ?_
 rw [ddel_cel, ddel_len hlt, ← ddel_eq hi] at hu16
 refine Ends.heap (L' := dBlk uT qb u16 :: (K16 ++ (dCaps (ddel l x) ++ F))) (fun w ho => ?_) ?_
 ·
  have h2 : Own W w (dCaps l ++ (dBlk uT qb u16 :: (K16 ++ F))) := Drop.own ho
  have h3 := h2.perm ((ddel_perm hd).append_right _)
  rw [← ddel_eq hi, List.cons_append] at h3
  exact (Drop.own h3 : Own W w (dBlk uT qb u16 :: (K16 ++ (dCaps (ddel l x) ++ F))))
 exact Ends.ret (L' := dBlk uT qb u16 :: (K16 ++ dCaps (ddel l x))) (res1 rfl rfl) (.inr ⟨dempty_yes (fun j1 c1 hj1 hc1 => hz j1 c1 (by omega) hc1), rfl, _, _, hu16, rfl⟩)
end Go.Proofs.YtdodfnjmkpgdbaaGreat
end
section
set_option linter.unusedVariables false
set_option linter.unusedSimpArgs false
namespace Go.Proofs.YtdodfnjmkpgdbaaGreat
open Go.SL
theorem tr_drop_none (sb : Nat) (S : StoreM) (id : Int) (h : nget id S.nodes = none) : Tr Tryz.prog 76 [.pointer (some ⟨sb, 0, none⟩), .int .i64 id] (storeHp sb S) (fun v L' => v = .int .i64 (S.drop id).1 ∧ L' = storeHp sb (S.drop id).2) := by
 have hm : (mget id (nodeKV S.nodes)).getD (.pointer none) = .pointer none := by rw [mget_nodeKV, h]; rfl
 refine Tr.enter Tryz.func76 rfl Tryz.ntmps76 rfl (fun W F => ?_)
 refine Wp.app ?_
 refine Wr ?_
 refine Oa1 rfl rfl ?_
 refine On ?_
 refine Wr ?_
 refine Om1 rfl rfl ?_
 refine Ops.pv (pv_nilCheck rfl) rfl ?_
 refine Of1 rfl rfl rfl ?_
 refine Ol1 rfl rfl rfl rfl ?_
 refine Om1 rfl rfl ?_
 refine Ops.pv (pv_lookup_i id rfl rfl hm) rfl ?_
 refine Oa1 rfl rfl ?_
 refine On ?_
 refine Wp.seq ?_
 refine Wp.block ?_
 refine Wr ?_
 refine Om1 rfl rfl ?_
 refine Ops.pv (pv_eql_nil rfl rfl) rfl ?_
 refine Oa1 rfl rfl ?_
 refine On ?_
 refine Wp.cond_true rfl ?_
 refine Wr ?_
 refine Oa1 rfl rfl ?_
 refine On ?_
 refine Wp.ret ?_
 refine Ends.block_ret ?_
 refine Ends.then_ret ?_
 exact Ends.ret (L' := storeHp sb S) (res1 rfl rfl) ⟨by simp [StoreM.drop, *], by simp [StoreM.drop, *]⟩
theorem tr_drop_some (sb : Nat) (S : StoreM) (id : Int) (n : NodeM) (hw : S.Wf) (h : nget id S.nodes = some n) : Tr Tryz.prog 76 [.pointer (some ⟨sb, 0, none⟩), .int .i64 id] (storeHp sb S) (fun v L' => v = .int .i64 (S.drop id).1 ∧ L' = storeHp sb (S.drop id).2) := by
 have hm : (mget id (nodeKV S.nodes)).getD (.pointer none) = .pointer (some ⟨n.blk, 0, none⟩) := by rw [mget_nodeKV, h]; rfl
 have hblk := S.blk (sb := sb) h
 have hl := (hw _ _ h).1.len
 have hupd := fun o => S.updMap (sb := sb) (o := o)
 refine Tr.enter Tryz.func76 rfl Tryz.ntmps76 rfl (fun W F => ?_)
 refine Wp.app ?_
 refine Wr ?_
 refine Oa1 rfl rfl ?_
 refine On ?_
 refine Wr ?_
 refine Om1 rfl rfl ?_
 refine Ops.pv (pv_nilCheck rfl) rfl ?_
 refine Of1 rfl rfl rfl ?_
 refine Ol1 rfl rfl rfl rfl ?_
 refine Om1 rfl rfl ?_
 refine Ops.pv (pv_lookup_i id rfl rfl hm) rfl ?_
 refine Oa1 rfl rfl ?_
 refine On ?_
 refine Wp.seq ?_
 refine Wp.block ?_
 refine Wr ?_
 refine Om1 rfl rfl ?_
 refine Ops.pv (pv_eql_nil rfl rfl) rfl ?_
 refine Oa1 rfl rfl ?_
 refine On ?_
 refine Wp.cond_false rfl ?_
 refine Wr ?_
 refine Om1 rfl rfl ?_
 refine Ops.pv (pv_nilCheck rfl) rfl ?_
 refine Of1 rfl rfl rfl ?_
 refine Ops.pv (pv_loadK (capsCells n.caps) rfl rfl (by rw [capsCells_len, hl]) n.readsAll) rfl ?_
 refine Ops.pv (pv_build_arr0 rfl) rfl ?_
 refine Ops.pv (pv_neq_arr (m := 16) (n.caps.map CapM.nums) (zeroCaps.map CapM.nums) (by exact ev_caps n.caps) (by exact ev_caps zeroCaps) rfl rfl (by simp [hl]) (by simp [zeroCaps]) (by intro q hq; obtain ⟨c, _, rfl⟩ := List.mem_map.1 hq; rfl) (by intro q hq; obtain ⟨c, _, rfl⟩ := List.mem_map.1 hq; rfl) (by kernel_rfl)) rfl ?_
 refine Oa1 rfl rfl ?_
 refine On ?_
 refine Wp.cond_dect rfl (fun h1 => ?_) (fun h1 => ?_)
 ·
  refine Wr ?_
  refine Oa1 rfl rfl ?_
  refine On ?_
  refine Wp.ret ?_
  refine Ends.block_ret ?_
  refine Ends.then_ret ?_
  have h2' : n.caps ≠ zeroCaps := fun e => h1 (by rw [e])
  exact Ends.ret (L' := storeHp sb S) (res1 rfl rfl) ⟨by simp [StoreM.drop, *], by simp [StoreM.drop, *]⟩
 refine Wp.skip ?_
 refine Ends.block_normal ?_
 refine Ends.seq ?_
 refine Wr ?_
 refine Om1 rfl rfl ?_
 refine Ops.pv (pv_nilCheck rfl) rfl ?_
 refine Of1 rfl rfl rfl ?_
 refine Ol1 rfl rfl rfl rfl ?_
 refine Om1 rfl rfl ?_
 refine Ops.ef rfl (ef_deleten_i (T := 92) _ rfl rfl rfl) ?_
 rintro _ _ ⟨rfl, rfl⟩
 refine On ?_
 refine Wr ?_
 refine Oa1 rfl rfl ?_
 refine On ?_
 refine Wp.ret ?_
 have h2' : n.caps = zeroCaps := Decidable.byContradiction fun e => h1 (nums_caps.2 e)
 refine Ends.heap (L' := storeHp sb (S.delNode id) ++ F) (fun w ho => Drop.own (ho.perm (StoreM.del_perm h))) ?_
 exact Ends.ret (L' := storeHp sb (S.delNode id)) (res1 rfl rfl) ⟨by simp [StoreM.drop, *], by simp [StoreM.drop, *]⟩
theorem tr_sdrop (sb : Nat) (S : StoreM) (id : Int) (hw : S.Wf) : Tr Tryz.prog 76 [.pointer (some ⟨sb, 0, none⟩), .int .i64 id] (storeHp sb S) (fun v L' => v = .int .i64 (S.drop id).1 ∧ L' = storeHp sb (S.drop id).2) := by
 cases h : nget id S.nodes with
 | none => exact tr_drop_none sb S id h
 | some n => exact tr_drop_some sb S id n hw h
set_option maxHeartbeats 2000000 in
theorem tr_full (sb : Nat) (S : StoreM) (hw : S.Wf) : Tr Tryz.prog 50 [.pointer (some ⟨sb, 0, none⟩)] (storeHp sb S) (fun v L' => ∃ H, Slc 31 2 v (fullM S).length (slotsCells (fullM S)) H ∧ L' = H ++ storeHp sb S) := by
 refine Tr.enter Tryz.func50 rfl Tryz.ntmps50 rfl (fun W F => ?_)
 refine Wp.app ?_
 refine Wr ?_
 refine Oa1 rfl rfl ?_
 refine On ?_
 refine Wr ?_
 refine Oa1 rfl rfl ?_
 refine On ?_
 refine Wp.seq ?_
 refine Wr ?_
 refine Om1 rfl rfl ?_
 refine On ?_
 refine Wp.block ?_
 refine Wp.loop (σ := Nat × Value × Hp) (fun x => [(0, .pointer (some ⟨sb, 0, none⟩)), (2, .slice none 0 0), (3, x.2.1), (8, .int .i64 x.1)]) (fun x => x.2.2 ++ (storeHp sb S ++ F)) (fun x => x.1 ≤ 64 ∧ Slc 31 2 x.2.1 (fullUpto S x.1).length (slotsCells (fullUpto S x.1)) x.2.2) (fun x => 64 - x.1) (0, .slice none 0 0, []) ⟨Nat.zero_le _, Slc.nil _ _⟩ (by exact ⟨rfl, rfl, rfl, rfl, trivial⟩) (by intro w ho; exact ho) ?_
 rintro ⟨i, v, H⟩ K ⟨hi, hs⟩ hK
 dsimp only at hi hs hK ⊢
 refine Wr ?_
 refine Ops.pv (pv_lss rfl rfl) rfl ?_
 refine On ?_
 refine Wp.seq ?_
 refine Wp.cond_dect rfl (fun h1 => ?_) (fun h1 => ?_)
 ·
  refine Wp.skip ?_
  refine Ends.seq ?_
  refine Wp.seq ?_
  refine Wp.block ?_
  refine Wr ?_
  refine Om1 rfl rfl ?_
  refine Oa1 rfl rfl ?_
  refine On ?_
  refine Wr ?_
  refine Om1 rfl rfl ?_
  refine Ops.pv (pv_nilCheck rfl) rfl ?_
  refine Of1 rfl rfl rfl ?_
  refine Ol1 rfl rfl rfl rfl ?_
  refine Om1 rfl rfl ?_
  refine Ops.pv (pv_lookup_i (i : Int) rfl rfl (nptr_hm S i)) rfl ?_
  refine Oa1 rfl rfl ?_
  refine On ?_
  refine Wr ?_
  refine Om1 rfl rfl ?_
  refine Ops.pv (pv_neq_nil rfl rfl) rfl ?_
  refine On ?_
  refine Wp.cond_t rfl (fun h2 => ?_) (fun h2 => ?_)
  ·
   obtain ⟨n, hn, hp⟩ := nptr_some h2
   rw [hp]
   have hblk := S.blk (sb := sb) hn
   have hl := (hw _ _ hn).1.len
   refine Wr ?_
   refine Om1 rfl rfl ?_
   refine Ops.pv (pv_nilCheck rfl) rfl ?_
   refine Of1 rfl rfl rfl ?_
   refine Ops.pv (pv_loadK (capsCells n.caps) rfl rfl (by rw [capsCells_len, hl]) n.readsAll) rfl ?_
   refine Om1 rfl rfl ?_
   refine On ?_
   refine Wp.block ?_
   refine Wp.loop (σ := Nat × Value × Hp) (fun x => [(0, .pointer (some ⟨sb, 0, none⟩)), (2, .slice none 0 0), (3, x.2.1), (4, .int .i64 i), (8, .int .i64 i), (22, .agg (capsCells n.caps).toArray), (23, .int .i64 x.1)]) (fun x => x.2.2 ++ (storeHp sb S ++ F)) (fun x => x.1 ≤ 16 ∧ Slc 31 2 x.2.1 (fullUpto S i ++ nodeFull i n.caps x.1).length (slotsCells (fullUpto S i ++ nodeFull i n.caps x.1)) x.2.2) (fun x => 16 - x.1) (0, v, H) ⟨Nat.zero_le _, by simpa [nodeFull] using hs⟩ (by exact ⟨rfl, rfl, rfl, rfl, rfl, rfl, rfl, trivial⟩) (by intro w ho; exact Drop.own ho) ?_
   rintro ⟨j, v, H⟩ K2 ⟨hj, hs⟩ hK2
   dsimp only at hj hs hK2 ⊢
   refine Wr ?_
   refine Ops.pv (pv_lss rfl rfl) rfl ?_
   refine On ?_
   refine Wp.seq ?_
   refine Wp.cond_dect rfl (fun h3 => ?_) (fun h3 => ?_)
   ·
    obtain ⟨c, hc⟩ : ∃ c, n.caps[j]? = some c := ⟨_, List.getElem?_eq_getElem (by omega)⟩
    refine Wp.skip ?_
    refine Ends.seq ?_
    refine Wp.seq ?_
    refine Wp.block ?_
    refine Wr ?_
    refine Om1 rfl rfl ?_
    refine Ops.pv (pv_indexK c.cells rfl rfl rfl rfl (by omega) rfl (caps_reads hc)) rfl ?_
    refine Ops.ef rfl (ef_allocK tyZ25 rfl) ?_
    rintro _ _ ⟨b1, rfl, rfl⟩
    refine Oa1 rfl rfl ?_
    refine Ops.ef rfl (ef_storeK rfl rfl rfl rfl) ?_
    rintro _ _ ⟨rfl, rfl⟩
    refine On ?_
    refine Wr ?_
    refine Of1 rfl rfl rfl ?_
    refine Ol1 rfl rfl rfl rfl ?_
    refine Ops.pv (pv_neq rfl rfl) rfl ?_
    refine On ?_
    refine Wp.cond_dect rfl (fun h4 => ?_) (fun h4 => ?_)
    ·
     refine Wp.region ?_
     refine Om1 rfl rfl ?_
     refine Om1 rfl rfl ?_
     refine Om1 rfl rfl ?_
     refine Ops.pv (pv_build rfl) rfl ?_
     refine Ops.ef rfl (ef_buildSlice1 (k := 2) rfl rfl rfl rfl rfl) ?_
     rintro _ _ ⟨b2, rfl, rfl⟩
     refine Ops.ef rfl (ef_append (xs := slotCells (i, j)) rfl hs rfl ⟨rfl, rfl, trivial⟩ rfl rfl rfl (by have := fullUpto_len S i; have := nodeFull_len i n.caps j; rw [List.length_append]; omega) (by have := fullUpto_len S i; have := nodeFull_len i n.caps j; rw [List.length_append]; omega) rfl rfl) ?_
     rintro _ _ ⟨v1, H1, hs1, rfl, rfl⟩
     refine Ops.app ?_
     skip
     refine Oa1 rfl rfl ?_
     refine Ops.nil ?_
     refine Ends.block_normal ?_
     refine Ends.seq ?_
     refine Wp.region ?_
     refine Ops.pv (pv_add rfl rfl (w64 (by omega) (by omega))) rfl ?_
     refine Om1 rfl rfl ?_
     refine Ops.nil ?_
     refine Ends.goes ?_
     refine Goes.back (hK2 (j + 1, v1, H1) ⟨by dsimp only; omega, ?_⟩ (by dsimp only; omega)) ⟨rfl, rfl, rfl, rfl, rfl, rfl, rfl, trivial⟩
     have e1 : nodeFull i n.caps (j + 1) = nodeFull i n.caps j ++ [((i : Int), (j : Int))] := by simp only [nodeFull, hc, Option.getD_some]; rw [if_pos ‹c.kind ≠ 0›]
     dsimp only; rw [e1, ← List.append_assoc, List.length_append, slotsCells_app]; exact hs1
    refine Wp.skip ?_
    refine Ends.block_normal ?_
    refine Ends.seq ?_
    refine Wp.region ?_
    refine Ops.pv (pv_add rfl rfl (w64 (by omega) (by omega))) rfl ?_
    refine Om1 rfl rfl ?_
    refine Ops.nil ?_
    refine Ends.goes ?_
    refine Goes.back (hK2 (j + 1, v, H) ⟨by dsimp only; omega, ?_⟩ (by dsimp only; omega)) ⟨rfl, rfl, rfl, rfl, rfl, rfl, rfl, trivial⟩
    have e1 : nodeFull i n.caps (j + 1) = nodeFull i n.caps j := by simp only [nodeFull, hc, Option.getD_some]; rw [if_neg ‹¬ c.kind ≠ 0›, List.append_nil]
    dsimp only; rw [e1]; exact hs
   obtain rfl : j = 16 := by omega
   refine Wp.exit ?_
   refine Ends.then_exit ?_
   refine Ends.then_exit ?_
   refine Ends.block_hit ?_
   refine Ends.block_normal ?_
   refine Ends.seq ?_
   refine Wp.region ?_
   refine Ops.pv (pv_add rfl rfl (w64 (by omega) (by omega))) rfl ?_
   refine Om1 rfl rfl ?_
   refine Ops.nil ?_
   refine Ends.goes ?_
   refine Goes.back (hK (i + 1, v, H) ⟨by dsimp only; omega, ?_⟩ (by dsimp only; omega)) ⟨rfl, rfl, rfl, rfl, trivial⟩
   have e1 : fullUpto S (i + 1) = fullUpto S i ++ nodeFull i n.caps 16 := by simp only [fullUpto, full1, hn]
   dsimp only; rw [e1]; exact hs
  refine Wp.skip ?_
  refine Ends.block_normal ?_
  refine Ends.seq ?_
  refine Wp.region ?_
  refine Ops.pv (pv_add rfl rfl (w64 (by omega) (by omega))) rfl ?_
  refine Om1 rfl rfl ?_
  refine Ops.nil ?_
  refine Ends.goes ?_
  refine Goes.back (hK (i + 1, v, H) ⟨by dsimp only; omega, ?_⟩ (by dsimp only; omega)) ⟨rfl, rfl, rfl, rfl, trivial⟩
  have e1 : fullUpto S (i + 1) = fullUpto S i := by simp [fullUpto, full1, nptr_none (by simpa using h2)]
  dsimp only; rw [e1]; exact hs
 refine Wp.exit ?_
 refine Ends.then_exit ?_
 refine Ends.then_exit ?_
 refine Ends.block_hit ?_
 refine Ends.seq ?_
 refine Wr ?_
 refine Om1 rfl rfl ?_
 refine Oa1 rfl rfl ?_
 refine On ?_
 refine Wp.ret ?_
 obtain rfl : i = 64 := by omega
 exact Ends.ret (L' := H ++ storeHp sb S) (res1 rfl rfl) ⟨H, hs, rfl⟩
end Go.Proofs.YtdodfnjmkpgdbaaGreat
end
section
set_option linter.unusedVariables false
set_option linter.unusedSimpArgs false
namespace Go.Proofs.YtdodfnjmkpgdbaaGreat
open Go.SL
attribute [local irreducible] fullM
set_option maxHeartbeats 2000000 in
theorem tr_count (sb : Nat) (S : StoreM) (k o : Int) (hwf : S.Wf) (ht : S.Tidy) : TrR Tryz.prog 11 [.pointer (some ⟨sb, 0, none⟩), .int .i64 k, .int .i64 o] (storeHp sb S) (.int .i64 (countM S k o)) := by
 refine Tr.enter Tryz.func11 rfl Tryz.ntmps11 rfl (fun W F => ?_)
 refine Wp.app ?_
 refine Wr ?_
 refine Oa1 rfl rfl ?_
 refine On ?_
 refine Wr ?_
 refine Oa1 rfl rfl ?_
 refine On ?_
 refine Wp.seq ?_
 refine Wr ?_
 refine Om1 rfl rfl ?_
 refine Ops.ef rfl (ef_call (tr_full sb S hwf) rfl rfl) ?_
 rintro _ _ ⟨_, _, ⟨H1, hs1, rfl⟩, rfl, rfl⟩
 refine Ops.app ?_
 obtain ⟨p, q, rfl⟩ := hs1.form
 have hv := hs1.view
 refine Ops.pv (pv_len_slice (T := 53) rfl rfl) rfl ?_
 refine Om1 rfl rfl ?_
 refine On ?_
 refine Wp.block ?_
 refine Wp.loop (σ := Nat) (fun i => [(0, .pointer (some ⟨sb, 0, none⟩)), (1, .int .i64 k), (2, .int .i64 o), (6, .int .i64 0), (7, .int .i64 (cntUpto S k o i)), (12, .slice p (fullM S).length q), (13, .int .i64 (fullM S).length), (14, .int .i64 i)]) (fun i => H1 ++ (storeHp sb S ++ F)) (fun i => i ≤ (fullM S).length) (fun i => (fullM S).length - i) 0 (Nat.zero_le _) (by exact ⟨rfl, rfl, rfl, rfl, by rw [cntUpto_zero]; rfl, rfl, rfl, rfl, trivial⟩) (by intro w ho; exact Drop.own ho) ?_
 intro i K hi hK
 refine Wr ?_
 refine Ops.pv (pv_lss rfl rfl) rfl ?_
 refine On ?_
 refine Wp.seq ?_
 refine Wp.cond_dect rfl (fun h1 => ?_) (fun h1 => ?_)
 ·
  obtain ⟨s, hsi⟩ : ∃ s, (fullM S)[i]? = some s := ⟨_, List.getElem?_eq_getElem (by omega)⟩
  obtain ⟨n, c, hn, hc, hk, hck, hadr, hg⟩ := full_cap ht (List.mem_of_getElem? hsi)
  have hblk := S.blk (sb := sb) hn
  obtain ⟨b, o1, cap, cc, T, f, hv1, hbv, hr⟩ := hv.elem (i := i) (by omega)
  cases hv1
  rw [slots_reads hsi] at hr
  have hfl : (fullM S).length ≤ 1024 := full_len S
  have hcle := cntUpto_le S k o (i + 1)
  have hsu := cntUpto_succ (k := k) (o := o) hsi
  refine Wp.skip ?_
  refine Ends.seq ?_
  refine Wp.seq ?_
  refine Wp.block ?_
  refine Wr ?_
  refine Ops.pv (pv_indexAddr (i := i) rfl rfl rfl (by omega)) rfl ?_
  refine Ops.pv (pv_loadK [.int .i64 s.1, .int .i64 s.2] rfl rfl rfl hr) rfl ?_
  refine Ops.ef rfl (ef_allocK tyZ31 rfl) ?_
  rintro _ _ ⟨b1, rfl, rfl⟩
  refine Ops.ef rfl (ef_storeK rfl rfl rfl rfl) ?_
  rintro _ _ ⟨rfl, rfl⟩
  refine On ?_
  refine Wr ?_
  refine Om1 rfl rfl ?_
  refine Ops.pv (pv_loadK [_, _] rfl rfl rfl ⟨rfl, rfl, trivial⟩) rfl ?_
  refine Ops.ef rfl (ef_callr (tr_slot sb S s hwf) rfl rfl) ?_
  rintro _ _ ⟨rfl, rfl⟩
  rw [hadr]
  refine Oa1 rfl rfl ?_
  refine On ?_
  refine Wr ?_
  refine Om1 rfl rfl ?_
  refine Ops.pv (pv_nilCheck rfl) rfl ?_
  refine Ops.pv (pv_fieldAddr rfl rfl) rfl ?_
  refine Ops.pv (pv_load rfl rfl (NodeM.reads hc).1) rfl ?_
  refine Om1 rfl rfl ?_
  refine Ops.pv (pv_eql rfl rfl) rfl ?_
  refine Om1 rfl rfl ?_
  refine Ops.split (t := 27) rfl (fun h2 => ?_) (fun h2 => ?_)
  ·
   refine Ops.pvg ⟨_, _, rfl, rfl, rfl⟩ (pv_move rfl) rfl ?_
   refine Ops.pvg ⟨_, _, rfl, rfl, rfl⟩ (pv_nilCheck rfl) rfl ?_
   refine Ops.pvg ⟨_, _, rfl, rfl, rfl⟩ (pv_fieldAddr rfl rfl) rfl ?_
   refine Ops.pvg ⟨_, _, rfl, rfl, rfl⟩ (pv_load rfl rfl (NodeM.reads hc).2.1) rfl ?_
   refine Ops.pvg ⟨_, _, rfl, rfl, rfl⟩ (pv_move rfl) rfl ?_
   refine Ops.pvg ⟨_, _, rfl, rfl, rfl⟩ (pv_eql rfl rfl) rfl ?_
   refine Ops.pv (pv_pick_true rfl rfl) rfl ?_
   refine On ?_
   refine Wp.cond_dect rfl (fun h3 => ?_) (fun h3 => ?_)
   ·
    refine Wp.region ?_
    refine Om1 rfl rfl ?_
    refine Ops.pv (pv_add rfl rfl (w64n (k := cntUpto S k o (i + 1)) (by rw [hsu, if_pos (by simp [isKO, hg, ‹c.kind = k›, ‹c.object = o›])]; omega) (by omega))) rfl ?_
    refine Oa1 rfl rfl ?_
    refine Ops.nil ?_
    refine Ends.block_normal ?_
    refine Ends.seq ?_
    refine Wp.region ?_
    refine Ops.pv (pv_add rfl rfl (w64 (by omega) (by omega))) rfl ?_
    refine Om1 rfl rfl ?_
    refine Ops.nil ?_
    refine Ends.goes ?_
    refine Goes.back (hK (i + 1) (by omega) (by omega)) ⟨rfl, rfl, rfl, rfl, rfl, rfl, rfl, rfl, trivial⟩
   refine Wp.skip ?_
   refine Ends.block_normal ?_
   refine Ends.seq ?_
   refine Wp.region ?_
   refine Ops.pv (pv_add rfl rfl (w64 (by omega) (by omega))) rfl ?_
   refine Om1 rfl rfl ?_
   refine Ops.nil ?_
   refine Ends.goes ?_
   have e1 : cntUpto S k o (i + 1) = cntUpto S k o i := by rw [hsu, if_neg (by simp only [isKO, hg, Bool.and_eq_true, decide_eq_true_eq]; rintro ⟨x1, x2⟩; first | exact absurd x2 (by assumption) | exact absurd x1 (by assumption))]; rfl
   refine Goes.back (hK (i + 1) (by omega) (by omega)) ⟨rfl, rfl, rfl, rfl, by rw [e1]; rfl, rfl, rfl, rfl, trivial⟩
  refine Os1 rfl rfl rfl rfl ?_
  refine Os1 rfl rfl rfl rfl ?_
  refine Os1 rfl rfl rfl rfl ?_
  refine Os1 rfl rfl rfl rfl ?_
  refine Os1 rfl rfl rfl rfl ?_
  refine Os1 rfl rfl rfl rfl ?_
  refine Ops.pv (pv_pick_false rfl rfl) rfl ?_
  refine On ?_
  refine Wp.cond_false rfl ?_
  refine Wp.skip ?_
  refine Ends.block_normal ?_
  refine Ends.seq ?_
  refine Wp.region ?_
  refine Ops.pv (pv_add rfl rfl (w64 (by omega) (by omega))) rfl ?_
  refine Om1 rfl rfl ?_
  refine Ops.nil ?_
  refine Ends.goes ?_
  have e1 : cntUpto S k o (i + 1) = cntUpto S k o i := by rw [hsu, if_neg (by simp only [isKO, hg, Bool.and_eq_true, decide_eq_true_eq]; rintro ⟨x1, x2⟩; first | exact absurd x2 (by assumption) | exact absurd x1 (by assumption))]; rfl
  refine Goes.back (hK (i + 1) (by omega) (by omega)) ⟨rfl, rfl, rfl, rfl, by rw [e1]; rfl, rfl, rfl, rfl, trivial⟩
 obtain rfl : i = (fullM S).length := by omega
 refine Wp.exit ?_
 refine Ends.then_exit ?_
 refine Ends.then_exit ?_
 refine Ends.block_hit ?_
 refine Ends.seq ?_
 refine Wr ?_
 refine Om1 rfl rfl ?_
 refine Oa1 rfl rfl ?_
 refine On ?_
 refine Wp.ret ?_
 exact Ends.ret (res1 rfl rfl) ⟨by rw [cntUpto_all], rfl⟩
end Go.Proofs.YtdodfnjmkpgdbaaGreat
end
section
set_option linter.unusedVariables false
set_option linter.unusedSimpArgs false
namespace Go.Proofs.YtdodfnjmkpgdbaaGreat
open Go.SL
section
variable {uT : Value} {S : StoreM} {l : List DN} {qb : Nat} {L : Hp} (hR : Rel S l) (hH : DstH uT l qb L)
include hR hH
theorem td_put (s : SlotM) (c : CapM) (hrg : c.Rg) : Tr Tryz.prog 79 [.pointer (some ⟨qb, 0, none⟩), slotV s, c.v] L (fun u L' => u = .int .i64 (S.put s c).1 ∧ ∃ l', Rel (S.put s c).2 l' ∧ DstH uT l' qb L') :=
  (tr_dput uT qb L l hH (rel_len2 hR) s c hrg).mono fun v L' ⟨hv, hl⟩ => by
    obtain ⟨e, h2⟩ := rel_put hR s c
    exact ⟨by rw [hv, e], _, h2, hl⟩
theorem td_take (s : SlotM) : Tr Tryz.prog 94 [.pointer (some ⟨qb, 0, none⟩), slotV s] L (fun u L' => u = .tuple #[(S.take s).1.v, .int .i64 (S.take s).2.1] ∧ ∃ l', Rel (S.take s).2.2 l' ∧ DstH uT l' qb L') :=
  (tr_dtake uT qb L l hH (rel_len2 hR) s).mono fun v L' ⟨hv, hl⟩ => by
    obtain ⟨e, e2, h2⟩ := rel_take hR s
    exact ⟨by rw [hv, e, e2], _, h2, hl⟩
theorem td_drop (x : Int) : Tr Tryz.prog 32 [.pointer (some ⟨qb, 0, none⟩), .int .i64 x] L (fun u L' => u = .int .i64 (S.drop x).1 ∧ ∃ l', Rel (S.drop x).2 l' ∧ DstH uT l' qb L') := by
 cases h : dfind l x with
 | none =>
  exact (tr_ddrop_none uT qb L l hH (rel_len2 hR) x h).mono fun v L' ⟨hv, hl⟩ => by
   have e := rel_drop_none hR h
   exact ⟨by rw [hv, e], l, by rw [e]; exact hR, hl⟩
 | some d =>
  exact (tr_ddrop_some uT qb L l hH (rel_len2 hR) (rel_small hR) x d h).mono fun v L' hp => by
   rcases hp with ⟨hd, hv, hl⟩ | ⟨hd, hv, hl⟩
   ·
    have e := rel_drop_full hR h hd
    exact ⟨by rw [hv, e], l, by rw [e]; exact hR, hl⟩
   ·
    have e := rel_drop_empty hR h hd
    exact ⟨by rw [hv, e], _, by rw [e]; exact rel_del hR h, hl⟩
theorem td_add (id r : Int) {S' : StoreM} (hA : AddS S id r S') : Tr Tryz.prog 30 [.pointer (some ⟨qb, 0, none⟩), .int .i64 id, .int .i64 r] L (fun u L' => u = .int .i64 (addErr S id r) ∧ ∃ l', Rel S' l' ∧ DstH uT l' qb L') :=
  (tr_dadd uT qb L l hH (rel_len2 hR) id r).mono fun v L' ⟨hv, hl⟩ => by
    have e := rel_addErr hR id r
    refine ⟨by rw [hv, e], ?_⟩
    rw [← e] at hl
    rcases hA with ⟨h0, rfl⟩ | ⟨h0, b, rfl⟩
    · rcases hl with ⟨_, hl⟩ | ⟨h1, _⟩
      · exact ⟨l, hR, hl⟩
      · exact absurd h1 h0
    · rcases hl with ⟨h1, _⟩ | ⟨_, n, cb, hp, hl⟩
      · exact absurd h0 h1
      · exact ⟨_, rel_add hR h0 hp b cb, hl⟩
theorem td_get (s : SlotM) : TrR Tryz.prog 52 [.pointer (some ⟨qb, 0, none⟩), slotV s] L (.tuple #[(S.get s).1.v, .int .i64 (S.get s).2]) := (tr_dget uT qb L l hH (rel_len2 hR) s).eq (by rw [rel_get hR])
theorem td_radix (x : Int) : TrR Tryz.prog 10 [.pointer (some ⟨qb, 0, none⟩), .int .i64 x] L (.int .i64 (S.radix x)) := (tr_dradix uT qb L l hH (rel_len2 hR) x).eq (by rw [rel_radix hR])
theorem td_count (k x : Int) : TrR Tryz.prog 12 [.pointer (some ⟨qb, 0, none⟩), .int .i64 k, .int .i64 x] L (.int .i64 (countM S k x)) := (tr_dcount uT qb L l hH (rel_len2 hR) (rel_small hR) k x).eq (by rw [rel_count hR])
theorem td_full : Tr Tryz.prog 49 [.pointer (some ⟨qb, 0, none⟩)] L (fun u L' => ∃ K, Slc 31 2 u (fullM S).length (slotsCells (fullM S)) K ∧ L' = K ++ L) := by
 rw [rel_full hR]; exact tr_dfull uT qb L l hH (rel_len2 hR) (rel_small hR)
end
end Go.Proofs.YtdodfnjmkpgdbaaGreat
end
section
set_option linter.unusedVariables false
set_option linter.unusedSimpArgs false
set_option linter.unusedSectionVars false
namespace Go.Proofs.YtdodfnjmkpgdbaaGreat
open Go.SL
abbrev dsP (qb : Nat) : Value := .pointer (some ⟨qb, 0, none⟩)
def DsF (uT : Value) (l : List DN) (qb : Nat) (L : Hp) : Prop := ∃ S l2, Rel S l ∧ Rel S l2 ∧ DstH uT l2 qb L
section
variable {uT : Value} {l : List DN} {qb : Nat} {L : Hp} (hD : DsF uT l qb L)
include hD
theorem dsf_get (s : SlotM) : TrR Tryz.prog 52 [dsP qb, slotV s] L (.tuple #[(dget l s).1.v, .int .i64 (dget l s).2]) := by
 obtain ⟨S, l2, hR, hR2, hH⟩ := hD
 exact (td_get hR2 hH s).eq (by rw [rel_get hR])
theorem dsf_radix (x : Int) : TrR Tryz.prog 10 [dsP qb, .int .i64 x] L (.int .i64 (dradix l x)) := by
 obtain ⟨S, l2, hR, hR2, hH⟩ := hD
 exact (td_radix hR2 hH x).eq (by rw [rel_radix hR])
theorem dsf_count (k o : Int) : TrR Tryz.prog 12 [dsP qb, .int .i64 k, .int .i64 o] L (.int .i64 (dcount l k o)) := by
 obtain ⟨S, l2, hR, hR2, hH⟩ := hD
 exact (td_count hR2 hH k o).eq (by rw [rel_count hR])
theorem dsf_full : Tr Tryz.prog 49 [dsP qb] L (fun u L' => ∃ K, Slc 31 2 u (dfull l).length (slotsCells (dfull l)) K ∧ L' = K ++ L) := by
 obtain ⟨S, l2, hR, hR2, hH⟩ := hD
 rw [← rel_full hR]; exact td_full hR2 hH
theorem dsf_put (s : SlotM) (c : CapM) (hc : c.Rg) : Tr Tryz.prog 79 [dsP qb, slotV s, c.v] L (fun u L' => u = .int .i64 (dput l s c).1 ∧ DsF uT (dput l s c).2 qb L') := by
 obtain ⟨S, l2, hR, hR2, hH⟩ := hD
 obtain ⟨e, h2⟩ := rel_put hR s c
 exact (td_put hR2 hH s c hc).mono fun v L' ⟨hv, l3, hR3, hl⟩ => ⟨by rw [hv, e], _, l3, h2, hR3, hl⟩
theorem dsf_take (s : SlotM) : Tr Tryz.prog 94 [dsP qb, slotV s] L (fun u L' => u = .tuple #[(dtake l s).1.v, .int .i64 (dtake l s).2.1] ∧ DsF uT (dtake l s).2.2 qb L') := by
 obtain ⟨S, l2, hR, hR2, hH⟩ := hD
 obtain ⟨e, e2, h2⟩ := rel_take hR s
 exact (td_take hR2 hH s).mono fun v L' ⟨hv, l3, hR3, hl⟩ => ⟨by rw [hv, e, e2], _, l3, h2, hR3, hl⟩
theorem dsf_add (id r : Int) : Tr Tryz.prog 30 [dsP qb, .int .i64 id, .int .i64 r] L (fun u L' => u = .int .i64 (dadd l id r).1 ∧ DsF uT (dadd l id r).2 qb L') := by
 obtain ⟨S, l2, hR, hR2, hH⟩ := hD
 have e := rel_addErr hR id r
 by_cases h0 : addErr S id r = 0
 ·
  refine (td_add hR2 hH id r (.inr ⟨h0, 0, rfl⟩)).mono fun v L' ⟨hv, l3, hR3, hl⟩ => ⟨by rw [hv, e]; rfl, _, l3, ?_, hR3, hl⟩
  unfold dadd; rw [if_pos (by rw [← e]; exact h0)]; exact rel_add hR h0 (insAt_place l) 0 0
 refine (td_add hR2 hH id r (.inl ⟨h0, rfl⟩)).mono fun v L' ⟨hv, l3, hR3, hl⟩ => ⟨by rw [hv, e]; rfl, _, l3, ?_, hR3, hl⟩
 unfold dadd; rw [if_neg (by rw [← e]; exact h0)]; exact hR
theorem dsf_drop (id : Int) : Tr Tryz.prog 32 [dsP qb, .int .i64 id] L (fun u L' => u = .int .i64 (ddrop l id).1 ∧ DsF uT (ddrop l id).2 qb L') := by
 obtain ⟨S, l2, hR, hR2, hH⟩ := hD
 refine (td_drop hR2 hH id).mono fun v L' ⟨hv, l3, hR3, hl⟩ => ?_
 unfold ddrop
 cases h : dfind l id with
 | none =>
  rw [rel_drop_none hR h] at hv hR3
  exact ⟨hv, S, l3, hR, hR3, hl⟩
 | some d =>
  dsimp only
  by_cases hd : dempty d
  ·
   rw [rel_drop_empty hR h hd] at hv hR3
   rw [if_pos (dempty_all.1 hd)]
   exact ⟨hv, _, l3, rel_del hR h, hR3, hl⟩
  ·
   rw [rel_drop_full hR h hd] at hv hR3
   rw [if_neg (fun e => hd (dempty_all.2 e))]
   exact ⟨hv, S, l3, hR, hR3, hl⟩
end
end Go.Proofs.YtdodfnjmkpgdbaaGreat
end
section
set_option linter.unusedVariables false
set_option linter.unusedSimpArgs false
set_option linter.unusedSectionVars false
namespace Go.Proofs.YtdodfnjmkpgdbaaGreat
open Go.SL
theorem sub_lenS : ∀ (f : FoS) (x : SlotM), (Fo.sub x f).all.length ≤ f.all.length
  | .nil, _ => Nat.le_refl _
  | .cons i c r, x => by
    simp only [Fo.sub, Fo.all, List.length_cons, List.length_append]
    split
    · omega
    · split
      · have := sub_lenS c x; omega
      · have := sub_lenS r x; omega
theorem dput_no {l : List DN} {s : SlotM} {c : CapM} (h : (dput l s c).1 ≠ 0) : (dput l s c).2 = l := by
 unfold dput at h ⊢
 split
 ·
  rfl
 ·
  rename_i hx
  rw [hx] at h
  dsimp only at h
  split
  ·
   rfl
  ·
   rename_i h1
   rw [if_neg h1] at h
   split
   ·
    rfl
   ·
    rename_i h2
    rw [if_neg h2] at h
    split
    ·
     rfl
    ·
     rename_i h3
     rw [if_neg h3] at h
     exact absurd rfl h
theorem mPlant_no {p : PS} {s : SlotM} {c : CapM} (h : (mPlant p s c).1 ≠ 0) : (mPlant p s c).2 = p := by
 unfold mPlant at h ⊢
 dsimp only at h ⊢
 rw [if_neg h, dput_no h]
theorem mChild_no {p : PS} {o s : SlotM} {c : CapM} (h : (mChild p o s c).1 ≠ 0) : (mChild p o s c).2 = p := by
 unfold mChild at h ⊢
 split
 ·
  rfl
 ·
  rename_i hb
  rw [if_neg hb] at h
  dsimp only at h ⊢
  rw [if_neg h, dput_no h]
theorem StF.full_len {l : List DN} {sb : Nat} {L : Hp} (h : StF l sb L) : (dfull l).length ≤ 2 ^ 40 := by
 obtain ⟨S, hR, _⟩ := h
 have h1 := dfull_len (rel_small hR)
 have h2 := rel_len hR
 omega
theorem TrF.kin_len {n : Nat} {F : FoS} {tb : Nat} {L : Hp} (h : TrF n F tb L) (s : SlotM) (hn : n ≤ 2 ^ 20) : (ftKin F s).length ≤ 2 ^ 40 := by
 obtain ⟨T, G, hT, _, h2, rfl⟩ := h
 have h1 := hT.all_len
 have h3 : (ftKin (G.map T.sl) s).length ≤ (G.map T.sl).all.length := sub_lenS _ _
 rw [Fo.all_map, List.length_map] at h3
 omega
structure OpC where
  kind : Int
  a : SlotM
  b : SlotM
  d : SlotM
  c : CapM
  n : Int
  rights : Int
  badge : Int
  guard : Int
  bits : Int
abbrev OpC.cells (o : OpC) : List Value := [.int .i64 o.kind, .int .i64 o.a.1, .int .i64 o.a.2, .int .i64 o.b.1, .int .i64 o.b.2, .int .i64 o.d.1, .int .i64 o.d.2, .int .i64 o.c.kind, .int .i64 o.c.object, .int .i64 o.c.rights, .int .u64 o.c.badge, .int .u64 o.c.guard, .int .i64 o.c.bits, .int .i64 o.n, .int .i64 o.rights, .int .u64 o.badge, .int .u64 o.guard, .int .i64 o.bits]
end Go.Proofs.YtdodfnjmkpgdbaaGreat
end
section
set_option linter.unusedVariables false
set_option linter.unusedSimpArgs false
namespace Go.Proofs.YtdodfnjmkpgdbaaGreat
open Go.SL
structure OpT where
  kind : Int
  a : SlotM
  b : SlotM
abbrev OpT.cells (o : OpT) : List Value := [.int .i64 o.kind, .int .i64 o.a.1, .int .i64 o.a.2, .int .i64 o.b.1, .int .i64 o.b.2]
theorem sub_len' {α : Type} [DecidableEq α] : ∀ (f : Fo α) (x : α), (Fo.sub x f).all.length ≤ f.all.length
  | .nil, _ => Nat.le_refl _
  | .cons i c r, x => by
    simp only [Fo.sub, Fo.all, List.length_cons, List.length_append]
    split
    · omega
    · split
      · have := sub_len' c x; omega
      · have := sub_len' r x; omega
theorem roots_len' {α : Type} : ∀ f : Fo α, f.roots.length ≤ f.all.length
  | .nil => Nat.le_refl _
  | .cons i c r => by
    have := roots_len' r
    simp only [Fo.roots, Fo.all, List.length_cons, List.length_append]; omega
theorem ftKin_len (F : FoS) (s : SlotM) : (ftKin F s).length ≤ F.all.length := sub_len' F s
theorem ftKids_len (F : FoS) (s : SlotM) : (ftKids F s).length ≤ F.all.length := Nat.le_trans (roots_len' _) (sub_len' F s)
end Go.Proofs.YtdodfnjmkpgdbaaGreat
end
section
set_option linter.unusedVariables false
set_option linter.unusedSimpArgs false
set_option linter.unusedSectionVars false
namespace Go.Proofs.YtdodfnjmkpgdbaaGreat
open Go.SL
namespace Fo
section
variable {α : Type} [DecidableEq α]
theorem sub_app {x : α} : ∀ {a b : Fo α}, sub x (app a b) = if x ∈ all a then sub x a else sub x b
  | .nil, b => by simp [app, all]
  | .cons i c r, b => by
    simp only [app, sub, sub_app (a := r), all, List.mem_cons, List.mem_append]
    by_cases e : i = x
    · simp [e]
    · by_cases e2 : x ∈ all c
      · simp [e, e2]
      · have : ¬ x = i := fun h => e h.symm
        simp [e, e2, this]
theorem sub_drop {x s : α} (hxs : x ≠ s) : ∀ {f : Fo α}, Nd f → sub x (drop s f) = drop s (sub x f)
  | .nil, _ => rfl
  | .cons i c r, hn => by
    obtain ⟨n1, n2, n3, n4, n5⟩ := nd_cons hn
    simp only [drop]
    by_cases e : i = s
    · rw [if_pos e, sub_app]
      have e1 : i ≠ x := fun h => hxs (h.symm.trans e)
      simp only [sub]; rw [if_neg e1]
      split
      · rw [drop_no]; exact fun h => n1 (e ▸ sub_all c x s h)
      · rw [drop_no]; exact fun h => n2 (e ▸ sub_all r x s h)
    · rw [if_neg e]
      simp only [sub]
      by_cases e1 : i = x
      · rw [if_pos e1, if_pos e1]
      · rw [if_neg e1, if_neg e1, sub_drop hxs n3, sub_drop hxs n4]
        by_cases e2 : x ∈ all c
        · rw [if_pos e2, if_pos ((all_drop n3).2 ⟨e2, hxs⟩)]
        · rw [if_neg e2, if_neg (fun h => e2 ((all_drop n3).1 h).1)]
theorem all_drop_eq {s : α} : ∀ {f : Fo α}, Nd f → all (drop s f) = (all f).filter fun z => decide (z ≠ s)
  | .nil, _ => rfl
  | .cons i c r, hn => by
    obtain ⟨n1, n2, n3, n4, n5⟩ := nd_cons hn
    have hid : ∀ g : Fo α, s ∉ all g → (all g).filter (fun z => decide (z ≠ s)) = all g := fun g hg => List.filter_eq_self.2 fun z hz => decide_eq_true fun e => hg (e ▸ hz)
    simp only [drop]
    by_cases e : i = s
    · rw [if_pos e, all_app]
      simp only [all, List.filter_cons, List.filter_append]
      rw [hid c (e ▸ n1), hid r (e ▸ n2), if_neg (by simp [e])]
    · rw [if_neg e]
      simp only [all, List.filter_cons, List.filter_append, all_drop_eq n3, all_drop_eq n4]
      rw [if_pos (by simp [e])]
theorem nd_sub {x : α} : ∀ {f : Fo α}, Nd f → Nd (sub x f)
  | .nil, h => h
  | .cons i c r, hn => by
    obtain ⟨n1, n2, n3, n4, n5⟩ := nd_cons hn
    simp only [sub]
    split
    · exact n3
    · split
      · exact nd_sub n3
      · exact nd_sub n4
theorem kin_drop {x s : α} {f : Fo α} (hn : Nd f) (hxs : x ≠ s) : all (sub x (drop s f)) = (all (sub x f)).filter fun z => decide (z ≠ s) := by
 rw [sub_drop hxs hn, all_drop_eq (nd_sub hn)]
end
end Fo
def KinMap (F : FoS) (ins : List SlotM) (M : List (SlotM × Value × Nat)) (H : Hp) (i : Nat) : Prop := ∀ j z, j < i → ins[j]? = some z → ∃ v, mget z M = some v ∧ View H 2 v (ftKin F z).length (slotsCells (ftKin F z))
theorem KinMap.step {F : FoS} {ins : List SlotM} {M : List (SlotM × Value × Nat)} {H C : Hp} {i t : Nat} {z : SlotM} {v : Value} (h : KinMap F ins M H i) (hz : ins[i]? = some z) (hv : View C 2 v (ftKin F z).length (slotsCells (ftKin F z))) : KinMap F ins (mput z v t M) (C ++ H) (i + 1) := by
 intro j y hj hy
 rw [mget_mput]
 by_cases e : y = z
 ·
  subst e; rw [if_pos rfl]
  exact ⟨v, rfl, hv.mono fun p hp => List.mem_append_left _ hp⟩
 ·
  rw [if_neg e]
  have hji : j ≠ i := fun e2 => by subst e2; rw [hz] at hy; exact e (Option.some.inj hy).symm
  obtain ⟨u, h1, h2⟩ := h j y (by omega) hy
  exact ⟨u, h1, h2.mono fun p hp => List.mem_append_right _ hp⟩
theorem KinMap.mono {F : FoS} {ins : List SlotM} {M : List (SlotM × Value × Nat)} {H : Hp} {i j : Nat} (h : KinMap F ins M H i) (hj : j ≤ i) : KinMap F ins M H j := fun k z hk => h k z (by omega)
end Go.Proofs.YtdodfnjmkpgdbaaGreat
end
section
set_option linter.unusedVariables false
set_option linter.unusedSimpArgs false
set_option linter.unusedSectionVars false
namespace Go.Proofs.YtdodfnjmkpgdbaaGreat
open Go.SL
abbrev HasS (l : List DN) : Prop := ∃ S, Rel S l
theorem dget_le {l : List DN} {s : SlotM} (h : (dget l s).1.kind ≠ 0) : (dget l s).2 = 0 := by
 unfold dget at h ⊢
 cases e : dcap? l s with
 | none => rw [e] at h; exact absurd rfl h
 | some x => rfl
theorem dget_cap {l : List DN} {s : SlotM} {x : CapM} (h : dget l s = (x, 0)) : dcap? l s = some x := by
 unfold dget at h
 cases e : dcap? l s with
 | none => rw [e] at h; have := congrArg Prod.snd h; simp at this
 | some y => rw [e] at h; exact congrArg some (congrArg Prod.fst h)
section
variable {l : List DN} (h : HasS l)
include h
theorem HasS.zero {s : SlotM} (hk : (dget l s).1.kind = 0) : (dget l s).1 = CapM.zero := by
 obtain ⟨S, hR⟩ := h
 unfold dget at hk ⊢
 cases e : dcap? l s with
 | none => rfl
 | some x =>
  rw [e] at hk
  rw [← rel_cap hR] at e
  obtain ⟨n, hn, _, hc, _⟩ := StoreM.cap_some e
  exact hR.zero _ n _ x hn hc hk
theorem HasS.check {s : SlotM} (hk : (dget l s).1.kind ≠ 0) : checkM (dget l s).1 = 0 := by
 obtain ⟨S, hR⟩ := h
 unfold dget at hk ⊢
 cases e : dcap? l s with
 | none => rw [e] at hk; exact absurd rfl hk
 | some x =>
  rw [e] at hk
  rw [← rel_cap hR] at e
  obtain ⟨n, hn, _, hc, _⟩ := StoreM.cap_some e
  exact (hR.tidy _ n _ x hn hc hk).2
theorem HasS.put (s : SlotM) (c : CapM) : HasS (dput l s c).2 := by
 obtain ⟨S, hR⟩ := h
 exact ⟨_, (rel_put hR s c).2⟩
theorem HasS.take (s : SlotM) : HasS (dtake l s).2.2 := by
 obtain ⟨S, hR⟩ := h
 exact ⟨_, (rel_take hR s).2.2⟩
theorem put_iff {s : SlotM} {c : CapM} : (dput l s c).1 = 0 ↔ (dget l s).2 = 0 ∧ (dget l s).1.kind = 0 ∧ checkM c = 0 ∧ c.kind ≠ 0 := by
 unfold dput dget
 cases e : dcap? l s with
 | none => simp
 | some x =>
  dsimp only
  by_cases h1 : checkM c = 0
  ·
   by_cases h2 : c.kind = 0
   ·
    simp [h1, h2]
   ·
    by_cases h3 : x.kind = 0
    ·
     simp [h1, h2, h3]
    ·
     simp [h1, h2, h3]
  ·
   simp [h1]
theorem put_get {s : SlotM} {c : CapM} (h0 : (dput l s c).1 = 0) (t : SlotM) : dget (dput l s c).2 t = if t = s then (c, 0) else dget l t := by
 obtain ⟨S, hR⟩ := h
 obtain ⟨h1, h2, h3, h4⟩ := (put_iff ⟨S, hR⟩).1 h0
 obtain ⟨e, hR2⟩ := rel_put hR s c
 rw [← rel_get hR2, ← rel_get hR]
 have hx : S.cap? s = some (dget l s).1 := by
  rw [rel_cap hR]
  refine dget_cap ?_
  rw [← h1]
 have : (S.put s c).2 = S.setCap s c := by
  unfold StoreM.put; rw [hx]; dsimp only
  rw [if_neg (by simp [h3]), if_neg h4, if_neg (by simp [h2])]
 rw [this, get_set hx]
theorem take_iff {s : SlotM} : (dtake l s).2.1 = 0 ↔ (dget l s).1.kind ≠ 0 := by
 unfold dtake dget
 cases e : dcap? l s with
 | none => simp
 | some x =>
  dsimp only
  by_cases h3 : x.kind = 0
  ·
   simp [h3]
  ·
   simp [h3]
theorem take_fst {s : SlotM} : (dtake l s).1 = (dget l s).1 := by
 unfold dtake dget
 cases e : dcap? l s with
 | none => rfl
 | some x =>
  dsimp only
  split <;> rfl
theorem take_get {s : SlotM} (h0 : (dget l s).1.kind ≠ 0) (t : SlotM) : dget (dtake l s).2.2 t = if t = s then (CapM.zero, 0) else dget l t := by
 obtain ⟨S, hR⟩ := h
 obtain ⟨e, e2, hR2⟩ := rel_take hR s
 rw [← rel_get hR2, ← rel_get hR]
 have hx : S.cap? s = some (dget l s).1 := by
  rw [rel_cap hR]
  refine dget_cap ?_
  rw [← dget_le h0]
 have : (S.take s).2.2 = S.setCap s CapM.zero := by
  unfold StoreM.take; rw [hx]; dsimp only
  rw [if_neg h0]
 rw [this, get_set hx]
theorem take_no {s : SlotM} (h0 : (dtake l s).2.1 ≠ 0) : (dtake l s).2.2 = l := by
 unfold dtake at h0 ⊢
 cases e : dcap? l s with
 | none => rfl
 | some x =>
  rw [e] at h0
  dsimp only at h0 ⊢
  split
  ·
   rfl
  ·
   rename_i hk; rw [if_neg hk] at h0; exact absurd rfl h0
theorem mem_dfull {s : SlotM} : s ∈ dfull l ↔ (dget l s).1.kind ≠ 0 := by
 obtain ⟨S, hR⟩ := h
 rw [← rel_full hR, ← rel_get hR]
 constructor
 ·
  intro hm
  obtain ⟨n, c, _, _, hk, _, _, hg⟩ := full_cap hR.tidy hm
  rw [hg]; exact hk
 ·
  intro hk
  unfold StoreM.get at hk
  cases e : S.cap? s with
  | none => rw [e] at hk; exact absurd rfl hk
  | some c =>
   rw [e] at hk
   obtain ⟨n, hn, hh, hc, _⟩ := StoreM.cap_some e
   have hw := hR.wf _ _ hn
   have hmem : ∀ k j : Nat, j < k → s ∈ full1 S j → s ∈ fullUpto S k := by
    intro k
    induction k with
    | zero => intro j hj; exact absurd hj (Nat.not_lt_zero j)
    | succ k ih =>
     intro j hj hm
     unfold fullUpto
     rw [List.mem_append]
     by_cases e2 : j = k
     ·
      subst e2; exact .inr hm
     ·
      exact .inl (ih j (by omega) hm)
   refine hmem 64 s.1.toNat (by omega) ?_
   unfold full1
   have e1 : ((s.1.toNat : Nat) : Int) = s.1 := by omega
   rw [e1, hn]
   dsimp only
   have hlt := hw.1.lt hh
   have hin : ∀ k, s.2.toNat < k → s ∈ nodeFull s.1.toNat n.caps k := by
    intro k
    induction k with
    | zero => intro hj; exact absurd hj (Nat.not_lt_zero _)
    | succ k ih =>
     intro hj
     unfold nodeFull
     rw [List.mem_append]
     by_cases e2 : s.2.toNat = k
     ·
      right
      subst e2
      rw [hc, Option.getD_some, if_pos hk, List.mem_singleton]
      unfold NodeM.has at hh
      refine Prod.ext ?_ ?_ <;> dsimp only <;> omega
     ·
      exact .inl (ih (by omega))
   exact hin 16 hlt
theorem dfull_sorted : (dfull l).Pairwise lexlt := by
 obtain ⟨S, hR⟩ := h
 rw [← rel_full hR]; exact fullUpto_sorted S 64
theorem dfull_nodup : (dfull l).Nodup := by
 refine (dfull_sorted h).imp ?_
 intro a b hab e
 subst e
 unfold lexlt at hab; omega
end
structure POk (p : PS) : Prop where
  rel : HasS p.l
  nd : Fo.Nd p.F
  on : ∀ s, s ∈ p.F.all ↔ (dget p.l s).1.kind ≠ 0
theorem src_ok {p : PS} {s : SlotM} (h : (mSource p s).2 = 0) : mSource p s = dget p.l s ∧ (dget p.l s).1.kind ≠ 0 ∧ (dget p.l s).2 = 0 := by
 unfold mSource at h ⊢
 split at h
 ·
  cases h
 ·
  rename_i hn
  rw [if_neg hn]
  exact ⟨rfl, fun e => hn ⟨h, e⟩, h⟩
theorem plc_ok {p : PS} {s : SlotM} (h : mPlace p s = 0) : (dget p.l s).1.kind = 0 ∧ (dget p.l s).2 = 0 := by
 unfold mPlace at h
 split at h
 ·
  cases h
 ·
  rename_i hn
  exact ⟨Decidable.byContradiction fun e => hn ⟨h, e⟩, h⟩
theorem both_ok {p : PS} {s d : SlotM} (h : (mBoth p s d).2 = 0) : (mBoth p s d).1 = (dget p.l s).1 ∧ (dget p.l s).1.kind ≠ 0 ∧ (dget p.l s).2 = 0 ∧ (dget p.l d).1.kind = 0 ∧ (dget p.l d).2 = 0 := by
 unfold mBoth at h ⊢
 dsimp only at h ⊢
 split at h
 ·
  rename_i h1
  obtain ⟨e1, e2, e3⟩ := src_ok h1
  obtain ⟨e4, e5⟩ := plc_ok h
  exact ⟨by rw [e1], e2, e3, e4, e5⟩
 ·
  rename_i h1; exact absurd h h1
structure Went (p p' : PS) (σ : SlotM → SlotM) : Prop where
  inj : ∀ a b, a ∈ p.F.all → b ∈ p.F.all → σ a = σ b → a = b
  F : p'.F = p.F.map σ
  val : ∀ z, z ∈ p.F.all → (dget p'.l (σ z)).1 = (dget p.l z).1
  only : ∀ s, (dget p'.l s).1.kind ≠ 0 → ∃ z, z ∈ p.F.all ∧ s = σ z
theorem Went.ok {p p' : PS} {σ : SlotM → SlotM} (h : Went p p' σ) (hp : POk p) (hr : HasS p'.l) : POk p' where
  rel := hr
  nd := by rw [h.F]; exact Fo.nd_map hp.nd h.inj
  on := fun s => by
    rw [h.F, Fo.all_map, List.mem_map]
    constructor
    · rintro ⟨z, hz, rfl⟩
      rw [h.val z hz]; exact (hp.on z).1 hz
    · intro hk
      obtain ⟨z, hz, e⟩ := h.only s hk
      exact ⟨z, hz, e.symm⟩
theorem carry_get {l : List DN} (h : HasS l) {s d : SlotM} {c : CapM} (hs : (dget l s).1.kind ≠ 0) (hd : (dget l d).1.kind = 0) (hd2 : (dget l d).2 = 0) (hc : checkM c = 0) (hk : c.kind ≠ 0) (t : SlotM) :
    dget (dput (dtake l s).2.2 d c).2 t = if t = d then (c, 0) else if t = s then (CapM.zero, 0) else dget l t := by
  have hsd : d ≠ s := fun e => hs (e ▸ hd)
  have hg := take_get h hs
  have h0 : (dput (dtake l s).2.2 d c).1 = 0 := (put_iff (h.take s)).2 ⟨by rw [hg, if_neg hsd]; exact hd2, by rw [hg, if_neg hsd]; exact hd, hc, hk⟩
  rw [put_get (h.take s) h0, hg]
theorem mv_all {F : FoS} {s d : SlotM} (hs : s ∈ F.all) (hd : d ∉ F.all) : (ftMove F s d).2 = F.map (ren s d) := by unfold ftMove; rw [if_pos hs, if_neg hd]
section
variable {p : PS} (hp : POk p)
include hp
theorem POk.out {s : SlotM} (h : (dget p.l s).1.kind = 0) : s ∉ p.F.all := fun e => (hp.on s).1 e h
theorem went_carry {s d : SlotM} (hs : (dget p.l s).1.kind ≠ 0) (hd : (dget p.l d).1.kind = 0) (hd2 : (dget p.l d).2 = 0) : Went p (mCarry p s d (dget p.l s).1) (ren s d) := by
 have hsa := (hp.on s).2 hs
 have hda := hp.out hd
 have hg := carry_get hp.rel hs hd hd2 (hp.rel.check hs) hs
 refine ⟨ren_inj hda, mv_all hsa hda, fun z hz => ?_, fun t ht => ?_⟩
 ·
  show (dget (dput (dtake p.l s).2.2 d (dget p.l s).1).2 (ren s d z)).1 = _
  rw [hg]
  unfold ren
  by_cases e : z = s
  ·
   rw [if_pos e, if_pos rfl, e]
  ·
   rw [if_neg e, if_neg (fun e2 : z = d => hda (e2 ▸ hz)), if_neg e]
 ·
  have ht' : (dget (dput (dtake p.l s).2.2 d (dget p.l s).1).2 t).1.kind ≠ 0 := ht
  rw [hg] at ht'
  by_cases e1 : t = d
  ·
   exact ⟨s, hsa, by unfold ren; rw [if_pos rfl, e1]⟩
  ·
   rw [if_neg e1] at ht'
   by_cases e2 : t = s
   ·
    rw [if_pos e2] at ht'; exact absurd rfl ht'
   ·
    rw [if_neg e2] at ht'
    exact ⟨t, (hp.on t).2 ht', by unfold ren; rw [if_neg e2]⟩
theorem mMove_ok {s d : SlotM} : (mMove p s d).2 = p ∨ Went p (mMove p s d).2 (ren s d) := by
 unfold mMove
 dsimp only
 split
 ·
  rename_i h
  obtain ⟨e1, e2, e3, e4, e5⟩ := both_ok h
  rw [e1]; exact .inr (went_carry hp e2 e4 e5)
 ·
  exact .inl rfl
end
theorem HasS.carry {l : List DN} (h : HasS l) (s d : SlotM) (c : CapM) : HasS (dput (dtake l s).2.2 d c).2 := (h.take s).put d c
theorem HasS.neg {l : List DN} (h : HasS l) {s : SlotM} (hs : (dget l s).1.kind ≠ 0) : 0 ≤ s.1 := by
 obtain ⟨S, hR⟩ := h
 rw [← rel_get hR] at hs
 unfold StoreM.get at hs
 cases e : S.cap? s with
 | none => rw [e] at hs; exact absurd rfl hs
 | some c =>
  obtain ⟨n, hn, _⟩ := StoreM.cap_some e
  exact (hR.wf _ _ hn).2.1
def rotS (d v s : SlotM) (z : SlotM) : SlotM := if z = v then d else if z = s then v else z
theorem map_nd_ren {F : FoS} {s d : SlotM} {z : SlotM} (hd : d ∉ F.all) : z ∈ (F.map (ren s d)).all ↔ (z = d ∧ s ∈ F.all) ∨ (z ≠ s ∧ z ∈ F.all) := by
 rw [Fo.all_map, List.mem_map]
 unfold ren
 constructor
 ·
  rintro ⟨y, hy, rfl⟩
  by_cases e : y = s
  ·
   rw [if_pos e]; exact .inl ⟨rfl, e ▸ hy⟩
  ·
   rw [if_neg e]; exact .inr ⟨e, hy⟩
 ·
  rintro (⟨rfl, hs⟩ | ⟨h1, h2⟩)
  ·
   exact ⟨s, hs, if_pos rfl⟩
  ·
   exact ⟨z, h2, if_neg h1⟩
theorem rot_F {F : FoS} {d v s : SlotM} (hv : v ∈ F.all) (hs : s ∈ F.all) (hd : d = s ∨ d ∉ F.all) (ha : ((-1, 0) : SlotM) ∉ F.all) (hvs : v ≠ s) (hda : d ≠ (-1, 0)) : mRotF F d v s = F.map (rotS d v s) := by
 have hsa : s ≠ (-1, 0) := fun e => ha (e ▸ hs)
 have hva : v ≠ (-1, 0) := fun e => ha (e ▸ hv)
 have e1 : (ftMove F v (-1, 0)).2 = F.map (ren v (-1, 0)) := mv_all hv ha
 have m1 : s ∈ (F.map (ren v (-1, 0))).all := (map_nd_ren ha).2 (.inr ⟨Ne.symm hvs, hs⟩)
 have m2 : v ∉ (F.map (ren v (-1, 0))).all := fun h => by
  rcases (map_nd_ren ha).1 h with ⟨h, _⟩ | ⟨h, _⟩
  ·
   exact hva h
  ·
   exact h rfl
 have e2 := mv_all m1 m2
 have m3 : ((-1, 0) : SlotM) ∈ ((F.map (ren v (-1, 0))).map (ren s v)).all := (map_nd_ren m2).2 (.inr ⟨Ne.symm hsa, (map_nd_ren ha).2 (.inl ⟨rfl, hv⟩)⟩)
 have m4 : d ∉ ((F.map (ren v (-1, 0))).map (ren s v)).all := fun h => by
  have hdv : d ≠ v := by
   rcases hd with h | h
   ·
    exact fun e => hvs (e.symm.trans h)
   ·
    exact fun e => h (e ▸ hv)
  rcases (map_nd_ren m2).1 h with ⟨h, _⟩ | ⟨h, h2⟩
  ·
   exact hdv h
  ·
   rcases (map_nd_ren ha).1 h2 with ⟨h3, _⟩ | ⟨_, h3⟩
   ·
    exact hda h3
   ·
    rcases hd with h4 | h4
    ·
     exact h h4
    ·
     exact h4 h3
 have e3 := mv_all m3 m4
 unfold mRotF
 rw [e1, e2, e3, Fo.map_map, Fo.map_map]
 refine Fo.map_congr fun z hz => ?_
 have hza : z ≠ (-1, 0) := fun e => ha (e ▸ hz)
 unfold ren rotS
 by_cases h1 : z = v
 ·
  subst h1; simp [Ne.symm hsa]
 ·
  by_cases h2 : z = s
  ·
   subst h2; simp [h1, hva]
  ·
   simp [h1, h2, hza]
theorem rot_get {l : List DN} (h : HasS l) {d v s : SlotM} (hv : (dget l v).1.kind ≠ 0) (hs : (dget l s).1.kind ≠ 0) (hvs : v ≠ s) (hvd : v ≠ d) (hd : d = s ∨ ((dget l d).1.kind = 0 ∧ (dget l d).2 = 0)) (t : SlotM) :
    dget (mRotL l d v s (dget l v).1 (dget l s).1) t = if t = v then ((dget l s).1, 0) else if t = d then ((dget l v).1, 0) else if t = s then (CapM.zero, 0) else dget l t := by
  have g1 := take_get h hv
  have hs1 : (dget (dtake l v).2.2 s).1.kind ≠ 0 := by rw [g1, if_neg (Ne.symm hvs)]; exact hs
  have g2 := take_get (h.take v) hs1
  have hd1 : dget (dtake (dtake l v).2.2 s).2.2 d = (CapM.zero, 0) := by
    rw [g2]
    rcases hd with rfl | ⟨hd, hd2⟩
    · rw [if_pos rfl]
    · split
      · rfl
      · rw [g1, if_neg (Ne.symm hvd)]
        exact Prod.ext (h.zero hd) hd2
  have p1 : (dput (dtake (dtake l v).2.2 s).2.2 d (dget l v).1).1 = 0 := (put_iff ((h.take v).take s)).2 ⟨by rw [hd1], by rw [hd1], h.check hv, hv⟩
  have g3 := put_get ((h.take v).take s) p1
  have p2 : (dput (dput (dtake (dtake l v).2.2 s).2.2 d (dget l v).1).2 v (dget l s).1).1 = 0 := by
    refine (put_iff (((h.take v).take s).put d _)).2 ⟨?_, ?_, h.check hs, hs⟩
    · rw [g3, if_neg hvd, g2, if_neg hvs, g1, if_pos rfl]
    · rw [g3, if_neg hvd, g2, if_neg hvs, g1, if_pos rfl]
  unfold mRotL
  rw [put_get (((h.take v).take s).put d _) p2, g3, g2, g1]
  by_cases e1 : t = v
  · rw [if_pos e1, if_pos e1]
  · rw [if_neg e1, if_neg e1, if_neg e1]
theorem rotE_ok {p : PS} {d s : SlotM} (h : mRotE p d s = 0) : (dget p.l s).1.kind ≠ 0 ∧ mSource p s = dget p.l s ∧ (d = s ∨ ((dget p.l d).1.kind = 0 ∧ (dget p.l d).2 = 0)) := by
 unfold mRotE at h
 split at h
 ·
  rename_i h1
  obtain ⟨e1, e2, e3⟩ := src_ok h1.1
  exact ⟨e2, e1, .inr (plc_ok h)⟩
 ·
  rename_i h1
  obtain ⟨e1, e2, e3⟩ := src_ok h
  exact ⟨e2, e1, .inl (Decidable.byContradiction fun e => h1 ⟨h, e⟩)⟩
theorem rotS_inj {F : FoS} {d v s : SlotM} (hv : v ∈ F.all) (hs : s ∈ F.all) (hd : d = s ∨ d ∉ F.all) (hvs : v ≠ s) (hvd : v ≠ d) : ∀ a b, a ∈ F.all → b ∈ F.all → rotS d v s a = rotS d v s b → a = b := by
 intro a b ha hb e
 unfold rotS at e
 by_cases a1 : a = v <;> by_cases b1 : b = v
 ·
  rw [a1, b1]
 ·
  rw [if_pos a1, if_neg b1] at e
  by_cases b2 : b = s
  ·
   rw [if_pos b2] at e; exact absurd e.symm hvd
  ·
   rw [if_neg b2] at e
   rcases hd with h | h
   ·
    exact absurd (e.symm.trans h) b2
   ·
    exact absurd (e ▸ hb) h
 ·
  rw [if_neg a1, if_pos b1] at e
  by_cases a2 : a = s
  ·
   rw [if_pos a2] at e; exact absurd e hvd
  ·
   rw [if_neg a2] at e
   rcases hd with h | h
   ·
    exact absurd (e.trans h) a2
   ·
    exact absurd (e ▸ ha) h
 ·
  rw [if_neg a1, if_neg b1] at e
  by_cases a2 : a = s <;> by_cases b2 : b = s
  ·
   rw [a2, b2]
  ·
   rw [if_pos a2, if_neg b2] at e; exact absurd e.symm b1
  ·
   rw [if_neg a2, if_pos b2] at e; exact absurd e a1
  ·
   rw [if_neg a2, if_neg b2] at e; exact e
theorem mRotate_ok {p : PS} (hp : POk p) {d v s : SlotM} : (mRotate p d v s).2 = p ∨ (Went p (mRotate p d v s).2 (rotS d v s) ∧ HasS (mRotate p d v s).2.l) := by
 unfold mRotate
 split
 ·
  exact .inl rfl
 ·
  rename_i h1
  split
  ·
   exact .inl rfl
  ·
   rename_i h2
   split
   ·
    exact .inl rfl
   ·
    rename_i h3
    have hvd : v ≠ d := fun e => h1 (.inl e)
    have hvs : v ≠ s := fun e => h1 (.inr e)
    obtain ⟨ev, kv, _⟩ := src_ok (Decidable.not_not.1 h2)
    obtain ⟨ks, es, hd⟩ := rotE_ok (Decidable.not_not.1 h3)
    have hva := (hp.on v).2 kv
    have hsa := (hp.on s).2 ks
    have hda : d = s ∨ d ∉ p.F.all := hd.imp id fun h => hp.out h.1
    have haside : ((-1, 0) : SlotM) ∉ p.F.all := fun e => by
     have := hp.rel.neg ((hp.on _).1 e)
     exact absurd this (by decide)
    have hdn : d ≠ (-1, 0) := by
     rcases hd with h | ⟨_, h⟩
     ·
      exact fun e => haside (e ▸ h ▸ hsa)
     ·
      intro e
      obtain ⟨S, hR⟩ := hp.rel
      rw [e, ← rel_get hR] at h
      unfold StoreM.get at h
      cases e2 : S.cap? (-1, 0) with
      | none => rw [e2] at h; exact absurd h (by decide)
      | some c =>
       obtain ⟨n, hn, _⟩ := StoreM.cap_some e2
       have := (hR.wf _ _ hn).2.1
       exact absurd this (by decide)
    right
    rw [ev, es]
    have hg := rot_get hp.rel kv ks hvs hvd hd
    refine ⟨⟨rotS_inj hva hsa hda hvs hvd, rot_F hva hsa hda haside hvs hdn, fun z hz => ?_, fun t ht => ?_⟩, ?_⟩
    ·
     show (dget (mRotL p.l d v s (dget p.l v).1 (dget p.l s).1) (rotS d v s z)).1 = _
     rw [hg]
     unfold rotS
     by_cases a1 : z = v
     ·
      rw [if_pos a1, if_neg (Ne.symm hvd), if_pos rfl, a1]
     ·
      by_cases a2 : z = s
      ·
       rw [if_neg a1, if_pos a2, if_pos rfl, a2]
      ·
       have hzd : z ≠ d := by
        rcases hda with h | h
        ·
         exact fun e => a2 (e.trans h)
        ·
         exact fun e => h (e ▸ hz)
       rw [if_neg a1, if_neg a2, if_neg a1, if_neg hzd, if_neg a2]
    ·
     have ht' : (dget (mRotL p.l d v s (dget p.l v).1 (dget p.l s).1) t).1.kind ≠ 0 := ht
     rw [hg] at ht'
     by_cases b1 : t = v
     ·
      exact ⟨s, hsa, by unfold rotS; rw [if_neg (Ne.symm hvs), if_pos rfl, b1]⟩
     ·
      rw [if_neg b1] at ht'
      by_cases b2 : t = d
      ·
       exact ⟨v, hva, by unfold rotS; rw [if_pos rfl, b2]⟩
      ·
       rw [if_neg b2] at ht'
       by_cases b3 : t = s
       ·
        rw [if_pos b3] at ht'; exact absurd rfl ht'
       ·
        rw [if_neg b3] at ht'
        exact ⟨t, (hp.on t).2 ht', by unfold rotS; rw [if_neg b1, if_neg b3]⟩
    ·
     exact (((hp.rel.take v).take s).put d _).put v _
end Go.Proofs.YtdodfnjmkpgdbaaGreat
end
