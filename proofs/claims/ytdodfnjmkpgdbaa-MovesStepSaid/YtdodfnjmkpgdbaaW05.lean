/- Walks of the references of layers 4 and 5. No condition. -/
import Derived.Test.YtdodfnjmkpgdbaaM05
set_option linter.unusedVariables false
set_option linter.unusedSimpArgs false
namespace Go.Proofs.Ytdodfnjmkpgdbaa
open Go.SL

theorem tr_check4 (r : Int) : TrR Try.prog 79 [.int .i64 r] ([]) (.bool (decide (0 ≤ r ∧ r ≤ 7))) := by
  refine Tr.enter Try.func79 rfl Try.ntmps79 rfl (fun W F => ?_)
  refine Wp.app ?_
  refine Wp.seq ?_
  refine Wp.region ?_
  refine Ops.pv (pv_assign rfl) rfl ?_
  refine Ops.nil ?_
  refine Ends.seq ?_
  refine Wp.seq ?_
  refine Wp.region ?_
  refine Ops.pv (pv_move rfl) rfl ?_
  refine Ops.pv (pv_geq rfl rfl) rfl ?_
  refine Ops.pv (pv_move rfl) rfl ?_
  refine Ops.pvc rfl rfl (fun hg => pv_move rfl) rfl ?_
  refine Ops.pvc rfl rfl (fun hg => Pv.setE (t := 6) rfl (cv_pos hg) (pv_leq rfl rfl)) rfl ?_
  refine Ops.pv (pv_pick_and rfl rfl) rfl ?_
  refine Ops.pv (pv_assign rfl) rfl ?_
  refine Ops.nil ?_
  refine Ends.seq ?_
  refine Wp.ret ?_
  exact Ends.ret (res1 rfl rfl) ⟨rfl, rfl⟩

theorem tr_guarded (g b : Int) : TrR Try.prog 80 [.int .u64 g, .int .i64 b] ([]) (.bool (decide ((0 ≤ b ∧ b ≤ 16) ∧ g < 2 ^ b.toNat))) := by
  refine Tr.enter Try.func80 rfl Try.ntmps80 rfl (fun W F => ?_)
  refine Wp.app ?_
  refine Wp.seq ?_
  refine Wp.region ?_
  refine Ops.pv (pv_assign rfl) rfl ?_
  refine Ops.nil ?_
  refine Ends.seq ?_
  refine Wp.seq ?_
  refine Wp.region ?_
  refine Ops.pv (pv_move rfl) rfl ?_
  refine Ops.pv (pv_geq rfl rfl) rfl ?_
  refine Ops.pv (pv_move rfl) rfl ?_
  refine Ops.pvc rfl rfl (fun hg => pv_move rfl) rfl ?_
  refine Ops.pvc rfl rfl (fun hg => Pv.setE (t := 8) rfl (cv_pos hg) (pv_leq rfl rfl)) rfl ?_
  refine Ops.pv (pv_pick_and rfl rfl) rfl ?_
  refine Ops.pv (pv_move rfl) rfl ?_
  refine Ops.pvc rfl rfl (fun hg => pv_move rfl) rfl ?_
  refine Ops.pvc rfl rfl (fun hg => Pv.setE (t := 12) rfl (cv_pos hg) (pv_move rfl)) rfl ?_
  refine Ops.pvc rfl rfl (fun hg => Pv.setE (t := 12) rfl (cv_pos hg) (Pv.setE (t := 13) rfl (cv_pos hg) (pv_shl rfl rfl (by omega) (shlI (by omega) (by omega))))) rfl ?_
  refine Ops.pvc rfl rfl (fun hg => Pv.setE (t := 12) rfl (cv_pos hg) (Pv.setE (t := 13) rfl (cv_pos hg) (Pv.setE (t := 14) rfl (cv_pos hg) (pv_lss rfl rfl)))) rfl ?_
  refine Ops.pv (pv_pick_and rfl rfl) rfl ?_
  refine Ops.pv (pv_assign rfl) rfl ?_
  refine Ops.nil ?_
  refine Ends.seq ?_
  refine Wp.ret ?_
  exact Ends.ret (res1 rfl rfl) ⟨rfl, rfl⟩

theorem tr_righted (k : Int) : TrR Try.prog 81 [.int .i64 k] ([]) (.bool (decide ((k = 4 ∨ k = 5) ∨ k = 6))) := by
  refine Tr.enter Try.func81 rfl Try.ntmps81 rfl (fun W F => ?_)
  refine Wp.app ?_
  refine Wp.seq ?_
  refine Wp.region ?_
  refine Ops.pv (pv_assign rfl) rfl ?_
  refine Ops.nil ?_
  refine Ends.seq ?_
  refine Wp.seq ?_
  refine Wp.region ?_
  refine Ops.pv (pv_move rfl) rfl ?_
  refine Ops.pv (pv_eql rfl rfl) rfl ?_
  refine Ops.pv (pv_move rfl) rfl ?_
  refine Ops.pvcn rfl rfl (fun hg => pv_move rfl) rfl ?_
  refine Ops.pvcn rfl rfl (fun hg => Pv.setE (t := 6) rfl (cv_pos hg) (pv_eql rfl rfl)) rfl ?_
  refine Ops.pv (pv_pick_or rfl rfl) rfl ?_
  refine Ops.pv (pv_move rfl) rfl ?_
  refine Ops.pvcn rfl rfl (fun hg => pv_move rfl) rfl ?_
  refine Ops.pvcn rfl rfl (fun hg => Pv.setE (t := 10) rfl (cv_pos hg) (pv_eql rfl rfl)) rfl ?_
  refine Ops.pv (pv_pick_or rfl rfl) rfl ?_
  refine Ops.pv (pv_assign rfl) rfl ?_
  refine Ops.nil ?_
  refine Ends.seq ?_
  refine Wp.ret ?_
  exact Ends.ret (res1 rfl rfl) ⟨rfl, rfl⟩

theorem tr_badged (k : Int) : TrR Try.prog 82 [.int .i64 k] ([]) (.bool (decide (k = 4 ∨ k = 5))) := by
  refine Tr.enter Try.func82 rfl Try.ntmps82 rfl (fun W F => ?_)
  refine Wp.app ?_
  refine Wp.seq ?_
  refine Wp.region ?_
  refine Ops.pv (pv_assign rfl) rfl ?_
  refine Ops.nil ?_
  refine Ends.seq ?_
  refine Wp.seq ?_
  refine Wp.region ?_
  refine Ops.pv (pv_move rfl) rfl ?_
  refine Ops.pv (pv_eql rfl rfl) rfl ?_
  refine Ops.pv (pv_move rfl) rfl ?_
  refine Ops.pvcn rfl rfl (fun hg => pv_move rfl) rfl ?_
  refine Ops.pvcn rfl rfl (fun hg => Pv.setE (t := 6) rfl (cv_pos hg) (pv_eql rfl rfl)) rfl ?_
  refine Ops.pv (pv_pick_or rfl rfl) rfl ?_
  refine Ops.pv (pv_assign rfl) rfl ?_
  refine Ops.nil ?_
  refine Ends.seq ?_
  refine Wp.ret ?_
  exact Ends.ret (res1 rfl rfl) ⟨rfl, rfl⟩

set_option maxHeartbeats 4000000 in
theorem tr_dcheck (c : CapM) (hr : c.Rg) : TrR Try.prog 58 [c.v] ([]) (.int .i64 (checkM c)) := by
  refine Tr.enter Try.func58 rfl Try.ntmps58 rfl (fun W F => ?_)
  refine Wp.app ?_
  refine Wp.seq ?_
  refine Wp.region ?_
  refine Ops.ef rfl (ef_boxK rfl rfl) ?_
  rintro _ _ ⟨b1, rfl, rfl⟩
  refine Ops.pv (pv_assign rfl) rfl ?_
  refine Ops.nil ?_
  refine Ends.seq ?_
  refine Wp.seq ?_
  refine Wp.seq ?_
  refine Wp.region ?_
  first | refine Ops.pv (pv_fieldAddr0 rfl rfl) rfl ?_ | refine Ops.pv (pv_fieldAddr rfl rfl) rfl ?_
  first | refine Ops.pv (pv_load rfl rfl rfl) rfl ?_ | refine Ops.pv (pv_load rfl rfl (by assumption)) rfl ?_
  refine Ops.pv (pv_lss rfl rfl) rfl ?_
  refine Ops.pv (pv_move rfl) rfl ?_
  first | refine Ops.pvcn rfl rfl (fun hg => pv_fieldAddr0 rfl rfl) rfl ?_ | refine Ops.pvcn rfl rfl (fun hg => pv_fieldAddr rfl rfl) rfl ?_
  first | refine Ops.pvcn rfl rfl (fun hg => Pv.setE (t := 8) rfl (cv_pos hg) (pv_load rfl rfl rfl)) rfl ?_ | refine Ops.pvcn rfl rfl (fun hg => Pv.setE (t := 8) rfl (cv_pos hg) (pv_load rfl rfl (by assumption))) rfl ?_
  refine Ops.pvcn rfl rfl (fun hg => Pv.setE (t := 8) rfl (cv_pos hg) (Pv.setE (t := 9) rfl (cv_pos hg) (pv_gtr rfl rfl))) rfl ?_
  refine Ops.pv (pv_pick_or rfl rfl) rfl ?_
  refine Ops.nil ?_
  refine Ends.seq ?_
  first | refine Wp.cond_dect rfl (fun h1 => ?_) (fun h1 => ?_) | refine Wp.cond_t rfl (fun h1 => ?_) (fun h1 => ?_)
  · refine Wp.seq ?_
    refine Wp.region ?_
    refine Ops.pv (pv_assign rfl) rfl ?_
    refine Ops.nil ?_
    refine Ends.seq ?_
    refine Wp.ret ?_
    refine Ends.then_ret ?_
    exact Ends.ret (res1 rfl rfl) ⟨by first | (rw [check_bad (by omega)]; done) | (rw [check_ok hr (by omega) (by unfold dOk; omega)]; done) | (rw [check_no hr (by omega) (by unfold dOk; omega)]; done), rfl⟩
  · refine Wp.skip ?_
    refine Ends.seq ?_
    refine Wp.seq ?_
    refine Wp.region ?_
    first | refine Ops.pv (pv_fieldAddr0 rfl rfl) rfl ?_ | refine Ops.pv (pv_fieldAddr rfl rfl) rfl ?_
    first | refine Ops.pv (pv_load rfl rfl rfl) rfl ?_ | refine Ops.pv (pv_load rfl rfl (by assumption)) rfl ?_
    refine Ops.pv (pv_geq rfl rfl) rfl ?_
    refine Ops.pv (pv_move rfl) rfl ?_
    first | refine Ops.pvc rfl rfl (fun hg => pv_fieldAddr0 rfl rfl) rfl ?_ | refine Ops.pvc rfl rfl (fun hg => pv_fieldAddr rfl rfl) rfl ?_
    first | refine Ops.pvc rfl rfl (fun hg => Pv.setE (t := 16) rfl (cv_pos hg) (pv_load rfl rfl rfl)) rfl ?_ | refine Ops.pvc rfl rfl (fun hg => Pv.setE (t := 16) rfl (cv_pos hg) (pv_load rfl rfl (by assumption))) rfl ?_
    refine Ops.pvc rfl rfl (fun hg => Pv.setE (t := 16) rfl (cv_pos hg) (Pv.setE (t := 17) rfl (cv_pos hg) (pv_leq rfl rfl))) rfl ?_
    refine Ops.pv (pv_pick_and rfl rfl) rfl ?_
    refine Ops.pv (pv_move rfl) rfl ?_
    first | refine Ops.split (t := 20) rfl (fun h2 => ?_) (fun h2 => ?_) | refine Ops.splitb (t := 20) rfl (fun h2 => ?_) (fun h2 => ?_)
    · first | refine Ops.pvg ⟨_, _, rfl, rfl, rfl⟩ (pv_fieldAddr0 rfl rfl) rfl ?_ | refine Ops.pvg ⟨_, _, rfl, rfl, rfl⟩ (pv_fieldAddr rfl rfl) rfl ?_
      first | refine Ops.pvg ⟨_, _, rfl, rfl, rfl⟩ (pv_load rfl rfl rfl) rfl ?_ | refine Ops.pvg ⟨_, _, rfl, rfl, rfl⟩ (pv_load rfl rfl (by assumption)) rfl ?_
      refine Ops.efg ⟨_, _, rfl, rfl, rfl⟩ (ef_callr (tr_check4 c.rights) rfl rfl) ?_
      rintro _ _ ⟨rfl, rfl⟩
      refine Ops.pv (pv_pick_true rfl rfl) rfl ?_
      refine Ops.pv (pv_move rfl) rfl ?_
      first | refine Ops.split (t := 25) rfl (fun h3 => ?_) (fun h3 => ?_) | refine Ops.splitb (t := 25) rfl (fun h3 => ?_) (fun h3 => ?_)
      · first | refine Ops.pvg ⟨_, _, rfl, rfl, rfl⟩ (pv_fieldAddr0 rfl rfl) rfl ?_ | refine Ops.pvg ⟨_, _, rfl, rfl, rfl⟩ (pv_fieldAddr rfl rfl) rfl ?_
        first | refine Ops.pvg ⟨_, _, rfl, rfl, rfl⟩ (pv_load rfl rfl rfl) rfl ?_ | refine Ops.pvg ⟨_, _, rfl, rfl, rfl⟩ (pv_load rfl rfl (by assumption)) rfl ?_
        refine Ops.pvg ⟨_, _, rfl, rfl, rfl⟩ (pv_lss rfl rfl) rfl ?_
        refine Ops.pv (pv_pick_true rfl rfl) rfl ?_
        refine Ops.pv (pv_move rfl) rfl ?_
        first | refine Ops.split (t := 30) rfl (fun h4 => ?_) (fun h4 => ?_) | refine Ops.splitb (t := 30) rfl (fun h4 => ?_) (fun h4 => ?_)
        · first | refine Ops.pvg ⟨_, _, rfl, rfl, rfl⟩ (pv_fieldAddr0 rfl rfl) rfl ?_ | refine Ops.pvg ⟨_, _, rfl, rfl, rfl⟩ (pv_fieldAddr rfl rfl) rfl ?_
          first | refine Ops.pvg ⟨_, _, rfl, rfl, rfl⟩ (pv_load rfl rfl rfl) rfl ?_ | refine Ops.pvg ⟨_, _, rfl, rfl, rfl⟩ (pv_load rfl rfl (by assumption)) rfl ?_
          first | refine Ops.pvg ⟨_, _, rfl, rfl, rfl⟩ (pv_fieldAddr0 rfl rfl) rfl ?_ | refine Ops.pvg ⟨_, _, rfl, rfl, rfl⟩ (pv_fieldAddr rfl rfl) rfl ?_
          first | refine Ops.pvg ⟨_, _, rfl, rfl, rfl⟩ (pv_load rfl rfl rfl) rfl ?_ | refine Ops.pvg ⟨_, _, rfl, rfl, rfl⟩ (pv_load rfl rfl (by assumption)) rfl ?_
          refine Ops.efg ⟨_, _, rfl, rfl, rfl⟩ (ef_callr (tr_guarded c.guard c.bits) rfl rfl) ?_
          rintro _ _ ⟨rfl, rfl⟩
          refine Ops.pv (pv_pick_true rfl rfl) rfl ?_
          refine Ops.pv (pv_assign rfl) rfl ?_
          refine Ops.nil ?_
          refine Ends.seq ?_
          refine Wp.seq ?_
          refine Wp.seq ?_
          refine Wp.region ?_
          first | refine Ops.pv (pv_fieldAddr0 rfl rfl) rfl ?_ | refine Ops.pv (pv_fieldAddr rfl rfl) rfl ?_
          first | refine Ops.pv (pv_load rfl rfl rfl) rfl ?_ | refine Ops.pv (pv_load rfl rfl (by assumption)) rfl ?_
          refine Ops.pv (pv_eql rfl rfl) rfl ?_
          refine Ops.pv (pv_move rfl) rfl ?_
          first | refine Ops.pvcn rfl rfl (fun hg => pv_fieldAddr0 rfl rfl) rfl ?_ | refine Ops.pvcn rfl rfl (fun hg => pv_fieldAddr rfl rfl) rfl ?_
          first | refine Ops.pvcn rfl rfl (fun hg => Pv.setE (t := 41) rfl (cv_pos hg) (pv_load rfl rfl rfl)) rfl ?_ | refine Ops.pvcn rfl rfl (fun hg => Pv.setE (t := 41) rfl (cv_pos hg) (pv_load rfl rfl (by assumption))) rfl ?_
          refine Ops.pvcn rfl rfl (fun hg => Pv.setE (t := 41) rfl (cv_pos hg) (Pv.setE (t := 42) rfl (cv_pos hg) (pv_eql rfl rfl))) rfl ?_
          refine Ops.pv (pv_pick_or rfl rfl) rfl ?_
          refine Ops.nil ?_
          refine Ends.seq ?_
          first | refine Wp.cond_dect rfl (fun h5 => ?_) (fun h5 => ?_) | refine Wp.cond_t rfl (fun h5 => ?_) (fun h5 => ?_)
          · refine Wp.region ?_
            refine Ops.pv (pv_move rfl) rfl ?_
            refine Ops.pv (pv_move rfl) rfl ?_
            first | refine Ops.split (t := 46) rfl (fun h6 => ?_) (fun h6 => ?_) | refine Ops.splitb (t := 46) rfl (fun h6 => ?_) (fun h6 => ?_)
            · first | refine Ops.pvg ⟨_, _, rfl, rfl, rfl⟩ (pv_fieldAddr0 rfl rfl) rfl ?_ | refine Ops.pvg ⟨_, _, rfl, rfl, rfl⟩ (pv_fieldAddr rfl rfl) rfl ?_
              first | refine Ops.pvg ⟨_, _, rfl, rfl, rfl⟩ (pv_load rfl rfl rfl) rfl ?_ | refine Ops.pvg ⟨_, _, rfl, rfl, rfl⟩ (pv_load rfl rfl (by assumption)) rfl ?_
              refine Ops.pvg ⟨_, _, rfl, rfl, rfl⟩ (pv_eql rfl rfl) rfl ?_
              refine Ops.pv (pv_pick_true rfl rfl) rfl ?_
              refine Ops.pv (pv_assign rfl) rfl ?_
              refine Ops.nil ?_
              refine Ends.seq ?_
              refine Wp.seq ?_
              refine Wp.seq ?_
              refine Wp.region ?_
              first | refine Ops.pv (pv_fieldAddr0 rfl rfl) rfl ?_ | refine Ops.pv (pv_fieldAddr rfl rfl) rfl ?_
              first | refine Ops.pv (pv_load rfl rfl rfl) rfl ?_ | refine Ops.pv (pv_load rfl rfl (by assumption)) rfl ?_
              refine Ops.ef rfl (ef_callr (tr_righted c.kind) rfl rfl) ?_
              rintro _ _ ⟨rfl, rfl⟩
              first | refine Ops.pv (pv_not_dec rfl) rfl ?_ | refine Ops.pv (pv_not rfl) rfl ?_
              refine Ops.nil ?_
              refine Ends.seq ?_
              first | refine Wp.cond_dect rfl (fun h7 => ?_) (fun h7 => ?_) | refine Wp.cond_t rfl (fun h7 => ?_) (fun h7 => ?_)
              · refine Wp.region ?_
                refine Ops.pv (pv_move rfl) rfl ?_
                refine Ops.pv (pv_move rfl) rfl ?_
                first | refine Ops.pvc rfl rfl (fun hg => pv_fieldAddr0 rfl rfl) rfl ?_ | refine Ops.pvc rfl rfl (fun hg => pv_fieldAddr rfl rfl) rfl ?_
                first | refine Ops.pvc rfl rfl (fun hg => Pv.setE (t := 57) rfl (cv_pos hg) (pv_load rfl rfl rfl)) rfl ?_ | refine Ops.pvc rfl rfl (fun hg => Pv.setE (t := 57) rfl (cv_pos hg) (pv_load rfl rfl (by assumption))) rfl ?_
                refine Ops.pvc rfl rfl (fun hg => Pv.setE (t := 57) rfl (cv_pos hg) (Pv.setE (t := 58) rfl (cv_pos hg) (pv_eql rfl rfl))) rfl ?_
                refine Ops.pv (pv_pick_and rfl rfl) rfl ?_
                refine Ops.pv (pv_assign rfl) rfl ?_
                refine Ops.nil ?_
                refine Ends.seq ?_
                refine Wp.seq ?_
                refine Wp.seq ?_
                refine Wp.region ?_
                first | refine Ops.pv (pv_fieldAddr0 rfl rfl) rfl ?_ | refine Ops.pv (pv_fieldAddr rfl rfl) rfl ?_
                first | refine Ops.pv (pv_load rfl rfl rfl) rfl ?_ | refine Ops.pv (pv_load rfl rfl (by assumption)) rfl ?_
                refine Ops.ef rfl (ef_callr (tr_badged c.kind) rfl rfl) ?_
                rintro _ _ ⟨rfl, rfl⟩
                first | refine Ops.pv (pv_not_dec rfl) rfl ?_ | refine Ops.pv (pv_not rfl) rfl ?_
                refine Ops.nil ?_
                refine Ends.seq ?_
                first | refine Wp.cond_dect rfl (fun h8 => ?_) (fun h8 => ?_) | refine Wp.cond_t rfl (fun h8 => ?_) (fun h8 => ?_)
                · refine Wp.region ?_
                  refine Ops.pv (pv_move rfl) rfl ?_
                  refine Ops.pv (pv_move rfl) rfl ?_
                  first | refine Ops.pvc rfl rfl (fun hg => pv_fieldAddr0 rfl rfl) rfl ?_ | refine Ops.pvc rfl rfl (fun hg => pv_fieldAddr rfl rfl) rfl ?_
                  first | refine Ops.pvc rfl rfl (fun hg => Pv.setE (t := 67) rfl (cv_pos hg) (pv_load rfl rfl rfl)) rfl ?_ | refine Ops.pvc rfl rfl (fun hg => Pv.setE (t := 67) rfl (cv_pos hg) (pv_load rfl rfl (by assumption))) rfl ?_
                  refine Ops.pvc rfl rfl (fun hg => Pv.setE (t := 67) rfl (cv_pos hg) (Pv.setE (t := 68) rfl (cv_pos hg) (pv_eql rfl rfl))) rfl ?_
                  refine Ops.pv (pv_pick_and rfl rfl) rfl ?_
                  refine Ops.pv (pv_assign rfl) rfl ?_
                  refine Ops.nil ?_
                  refine Ends.seq ?_
                  refine Wp.seq ?_
                  refine Wp.seq ?_
                  refine Wp.region ?_
                  first | refine Ops.pv (pv_fieldAddr0 rfl rfl) rfl ?_ | refine Ops.pv (pv_fieldAddr rfl rfl) rfl ?_
                  first | refine Ops.pv (pv_load rfl rfl rfl) rfl ?_ | refine Ops.pv (pv_load rfl rfl (by assumption)) rfl ?_
                  refine Ops.pv (pv_neq rfl rfl) rfl ?_
                  refine Ops.nil ?_
                  refine Ends.seq ?_
                  first | refine Wp.cond_dect rfl (fun h9 => ?_) (fun h9 => ?_) | refine Wp.cond_t rfl (fun h9 => ?_) (fun h9 => ?_)
                  · refine Wp.region ?_
                    refine Ops.pv (pv_move rfl) rfl ?_
                    refine Ops.pv (pv_move rfl) rfl ?_
                    first | refine Ops.pvc rfl rfl (fun hg => pv_fieldAddr0 rfl rfl) rfl ?_ | refine Ops.pvc rfl rfl (fun hg => pv_fieldAddr rfl rfl) rfl ?_
                    first | refine Ops.pvc rfl rfl (fun hg => Pv.setE (t := 76) rfl (cv_pos hg) (pv_load rfl rfl rfl)) rfl ?_ | refine Ops.pvc rfl rfl (fun hg => Pv.setE (t := 76) rfl (cv_pos hg) (pv_load rfl rfl (by assumption))) rfl ?_
                    refine Ops.pvc rfl rfl (fun hg => Pv.setE (t := 76) rfl (cv_pos hg) (Pv.setE (t := 77) rfl (cv_pos hg) (pv_eql rfl rfl))) rfl ?_
                    refine Ops.pv (pv_pick_and rfl rfl) rfl ?_
                    refine Ops.pv (pv_assign rfl) rfl ?_
                    refine Ops.nil ?_
                    refine Ends.seq ?_
                    refine Wp.seq ?_
                    refine Wp.seq ?_
                    refine Wp.region ?_
                    refine Ops.pv (pv_move rfl) rfl ?_
                    first | refine Ops.pv (pv_not_dec rfl) rfl ?_ | refine Ops.pv (pv_not rfl) rfl ?_
                    refine Ops.nil ?_
                    refine Ends.seq ?_
                    first | refine Wp.cond_dect rfl (fun h10 => ?_) (fun h10 => ?_) | refine Wp.cond_t rfl (fun h10 => ?_) (fun h10 => ?_)
                    · refine Wp.seq ?_
                      refine Wp.region ?_
                      refine Ops.pv (pv_assign rfl) rfl ?_
                      refine Ops.nil ?_
                      refine Ends.seq ?_
                      refine Wp.ret ?_
                      refine Ends.then_ret ?_
                      exact Ends.ret (res1 rfl rfl) ⟨by first | (rw [check_bad (by omega)]; done) | (rw [check_ok hr (by omega) (by unfold dOk; omega)]; done) | (rw [check_no hr (by omega) (by unfold dOk; omega)]; done), rfl⟩
                    · refine Wp.skip ?_
                      refine Ends.seq ?_
                      refine Wp.seq ?_
                      refine Wp.region ?_
                      refine Ops.pv (pv_assign rfl) rfl ?_
                      refine Ops.nil ?_
                      refine Ends.seq ?_
                      refine Wp.ret ?_
                      exact Ends.ret (res1 rfl rfl) ⟨by first | (rw [check_bad (by omega)]; done) | (rw [check_ok hr (by omega) (by unfold dOk; omega)]; done) | (rw [check_no hr (by omega) (by unfold dOk; omega)]; done), rfl⟩
                  · refine Wp.skip ?_
                    refine Ends.seq ?_
                    refine Wp.seq ?_
                    refine Wp.seq ?_
                    refine Wp.region ?_
                    refine Ops.pv (pv_move rfl) rfl ?_
                    first | refine Ops.pv (pv_not_dec rfl) rfl ?_ | refine Ops.pv (pv_not rfl) rfl ?_
                    refine Ops.nil ?_
                    refine Ends.seq ?_
                    first | refine Wp.cond_dect rfl (fun h11 => ?_) (fun h11 => ?_) | refine Wp.cond_t rfl (fun h11 => ?_) (fun h11 => ?_)
                    · refine Wp.seq ?_
                      refine Wp.region ?_
                      refine Ops.pv (pv_assign rfl) rfl ?_
                      refine Ops.nil ?_
                      refine Ends.seq ?_
                      refine Wp.ret ?_
                      refine Ends.then_ret ?_
                      exact Ends.ret (res1 rfl rfl) ⟨by first | (rw [check_bad (by omega)]; done) | (rw [check_ok hr (by omega) (by unfold dOk; omega)]; done) | (rw [check_no hr (by omega) (by unfold dOk; omega)]; done), rfl⟩
                    · refine Wp.skip ?_
                      refine Ends.seq ?_
                      refine Wp.seq ?_
                      refine Wp.region ?_
                      refine Ops.pv (pv_assign rfl) rfl ?_
                      refine Ops.nil ?_
                      refine Ends.seq ?_
                      refine Wp.ret ?_
                      exact Ends.ret (res1 rfl rfl) ⟨by first | (rw [check_bad (by omega)]; done) | (rw [check_ok hr (by omega) (by unfold dOk; omega)]; done) | (rw [check_no hr (by omega) (by unfold dOk; omega)]; done), rfl⟩
                · refine Wp.skip ?_
                  refine Ends.seq ?_
                  refine Wp.seq ?_
                  refine Wp.seq ?_
                  refine Wp.region ?_
                  first | refine Ops.pv (pv_fieldAddr0 rfl rfl) rfl ?_ | refine Ops.pv (pv_fieldAddr rfl rfl) rfl ?_
                  first | refine Ops.pv (pv_load rfl rfl rfl) rfl ?_ | refine Ops.pv (pv_load rfl rfl (by assumption)) rfl ?_
                  refine Ops.pv (pv_neq rfl rfl) rfl ?_
                  refine Ops.nil ?_
                  refine Ends.seq ?_
                  first | refine Wp.cond_dect rfl (fun h12 => ?_) (fun h12 => ?_) | refine Wp.cond_t rfl (fun h12 => ?_) (fun h12 => ?_)
                  · refine Wp.region ?_
                    refine Ops.pv (pv_move rfl) rfl ?_
                    refine Ops.pv (pv_move rfl) rfl ?_
                    first | refine Ops.pvc rfl rfl (fun hg => pv_fieldAddr0 rfl rfl) rfl ?_ | refine Ops.pvc rfl rfl (fun hg => pv_fieldAddr rfl rfl) rfl ?_
                    first | refine Ops.pvc rfl rfl (fun hg => Pv.setE (t := 76) rfl (cv_pos hg) (pv_load rfl rfl rfl)) rfl ?_ | refine Ops.pvc rfl rfl (fun hg => Pv.setE (t := 76) rfl (cv_pos hg) (pv_load rfl rfl (by assumption))) rfl ?_
                    refine Ops.pvc rfl rfl (fun hg => Pv.setE (t := 76) rfl (cv_pos hg) (Pv.setE (t := 77) rfl (cv_pos hg) (pv_eql rfl rfl))) rfl ?_
                    refine Ops.pv (pv_pick_and rfl rfl) rfl ?_
                    refine Ops.pv (pv_assign rfl) rfl ?_
                    refine Ops.nil ?_
                    refine Ends.seq ?_
                    refine Wp.seq ?_
                    refine Wp.seq ?_
                    refine Wp.region ?_
                    refine Ops.pv (pv_move rfl) rfl ?_
                    first | refine Ops.pv (pv_not_dec rfl) rfl ?_ | refine Ops.pv (pv_not rfl) rfl ?_
                    refine Ops.nil ?_
                    refine Ends.seq ?_
                    first | refine Wp.cond_dect rfl (fun h13 => ?_) (fun h13 => ?_) | refine Wp.cond_t rfl (fun h13 => ?_) (fun h13 => ?_)
                    · refine Wp.seq ?_
                      refine Wp.region ?_
                      refine Ops.pv (pv_assign rfl) rfl ?_
                      refine Ops.nil ?_
                      refine Ends.seq ?_
                      refine Wp.ret ?_
                      refine Ends.then_ret ?_
                      exact Ends.ret (res1 rfl rfl) ⟨by first | (rw [check_bad (by omega)]; done) | (rw [check_ok hr (by omega) (by unfold dOk; omega)]; done) | (rw [check_no hr (by omega) (by unfold dOk; omega)]; done), rfl⟩
                    · refine Wp.skip ?_
                      refine Ends.seq ?_
                      refine Wp.seq ?_
                      refine Wp.region ?_
                      refine Ops.pv (pv_assign rfl) rfl ?_
                      refine Ops.nil ?_
                      refine Ends.seq ?_
                      refine Wp.ret ?_
                      exact Ends.ret (res1 rfl rfl) ⟨by first | (rw [check_bad (by omega)]; done) | (rw [check_ok hr (by omega) (by unfold dOk; omega)]; done) | (rw [check_no hr (by omega) (by unfold dOk; omega)]; done), rfl⟩
                  · refine Wp.skip ?_
                    refine Ends.seq ?_
                    refine Wp.seq ?_
                    refine Wp.seq ?_
                    refine Wp.region ?_
                    refine Ops.pv (pv_move rfl) rfl ?_
                    first | refine Ops.pv (pv_not_dec rfl) rfl ?_ | refine Ops.pv (pv_not rfl) rfl ?_
                    refine Ops.nil ?_
                    refine Ends.seq ?_
                    first | refine Wp.cond_dect rfl (fun h14 => ?_) (fun h14 => ?_) | refine Wp.cond_t rfl (fun h14 => ?_) (fun h14 => ?_)
                    · refine Wp.seq ?_
                      refine Wp.region ?_
                      refine Ops.pv (pv_assign rfl) rfl ?_
                      refine Ops.nil ?_
                      refine Ends.seq ?_
                      refine Wp.ret ?_
                      refine Ends.then_ret ?_
                      exact Ends.ret (res1 rfl rfl) ⟨by first | (rw [check_bad (by omega)]; done) | (rw [check_ok hr (by omega) (by unfold dOk; omega)]; done) | (rw [check_no hr (by omega) (by unfold dOk; omega)]; done), rfl⟩
                    · refine Wp.skip ?_
                      refine Ends.seq ?_
                      refine Wp.seq ?_
                      refine Wp.region ?_
                      refine Ops.pv (pv_assign rfl) rfl ?_
                      refine Ops.nil ?_
                      refine Ends.seq ?_
                      refine Wp.ret ?_
                      exact Ends.ret (res1 rfl rfl) ⟨by first | (rw [check_bad (by omega)]; done) | (rw [check_ok hr (by omega) (by unfold dOk; omega)]; done) | (rw [check_no hr (by omega) (by unfold dOk; omega)]; done), rfl⟩
              · refine Wp.skip ?_
                refine Ends.seq ?_
                refine Wp.seq ?_
                refine Wp.seq ?_
                refine Wp.region ?_
                first | refine Ops.pv (pv_fieldAddr0 rfl rfl) rfl ?_ | refine Ops.pv (pv_fieldAddr rfl rfl) rfl ?_
                first | refine Ops.pv (pv_load rfl rfl rfl) rfl ?_ | refine Ops.pv (pv_load rfl rfl (by assumption)) rfl ?_
                refine Ops.ef rfl (ef_callr (tr_badged c.kind) rfl rfl) ?_
                rintro _ _ ⟨rfl, rfl⟩
                first | refine Ops.pv (pv_not_dec rfl) rfl ?_ | refine Ops.pv (pv_not rfl) rfl ?_
                refine Ops.nil ?_
                refine Ends.seq ?_
                first | refine Wp.cond_dect rfl (fun h15 => ?_) (fun h15 => ?_) | refine Wp.cond_t rfl (fun h15 => ?_) (fun h15 => ?_)
                · refine Wp.region ?_
                  refine Ops.pv (pv_move rfl) rfl ?_
                  refine Ops.pv (pv_move rfl) rfl ?_
                  first | refine Ops.pvc rfl rfl (fun hg => pv_fieldAddr0 rfl rfl) rfl ?_ | refine Ops.pvc rfl rfl (fun hg => pv_fieldAddr rfl rfl) rfl ?_
                  first | refine Ops.pvc rfl rfl (fun hg => Pv.setE (t := 67) rfl (cv_pos hg) (pv_load rfl rfl rfl)) rfl ?_ | refine Ops.pvc rfl rfl (fun hg => Pv.setE (t := 67) rfl (cv_pos hg) (pv_load rfl rfl (by assumption))) rfl ?_
                  refine Ops.pvc rfl rfl (fun hg => Pv.setE (t := 67) rfl (cv_pos hg) (Pv.setE (t := 68) rfl (cv_pos hg) (pv_eql rfl rfl))) rfl ?_
                  refine Ops.pv (pv_pick_and rfl rfl) rfl ?_
                  refine Ops.pv (pv_assign rfl) rfl ?_
                  refine Ops.nil ?_
                  refine Ends.seq ?_
                  refine Wp.seq ?_
                  refine Wp.seq ?_
                  refine Wp.region ?_
                  first | refine Ops.pv (pv_fieldAddr0 rfl rfl) rfl ?_ | refine Ops.pv (pv_fieldAddr rfl rfl) rfl ?_
                  first | refine Ops.pv (pv_load rfl rfl rfl) rfl ?_ | refine Ops.pv (pv_load rfl rfl (by assumption)) rfl ?_
                  refine Ops.pv (pv_neq rfl rfl) rfl ?_
                  refine Ops.nil ?_
                  refine Ends.seq ?_
                  first | refine Wp.cond_dect rfl (fun h16 => ?_) (fun h16 => ?_) | refine Wp.cond_t rfl (fun h16 => ?_) (fun h16 => ?_)
                  · refine Wp.region ?_
                    refine Ops.pv (pv_move rfl) rfl ?_
                    refine Ops.pv (pv_move rfl) rfl ?_
                    first | refine Ops.pvc rfl rfl (fun hg => pv_fieldAddr0 rfl rfl) rfl ?_ | refine Ops.pvc rfl rfl (fun hg => pv_fieldAddr rfl rfl) rfl ?_
                    first | refine Ops.pvc rfl rfl (fun hg => Pv.setE (t := 76) rfl (cv_pos hg) (pv_load rfl rfl rfl)) rfl ?_ | refine Ops.pvc rfl rfl (fun hg => Pv.setE (t := 76) rfl (cv_pos hg) (pv_load rfl rfl (by assumption))) rfl ?_
                    refine Ops.pvc rfl rfl (fun hg => Pv.setE (t := 76) rfl (cv_pos hg) (Pv.setE (t := 77) rfl (cv_pos hg) (pv_eql rfl rfl))) rfl ?_
                    refine Ops.pv (pv_pick_and rfl rfl) rfl ?_
                    refine Ops.pv (pv_assign rfl) rfl ?_
                    refine Ops.nil ?_
                    refine Ends.seq ?_
                    refine Wp.seq ?_
                    refine Wp.seq ?_
                    refine Wp.region ?_
                    refine Ops.pv (pv_move rfl) rfl ?_
                    first | refine Ops.pv (pv_not_dec rfl) rfl ?_ | refine Ops.pv (pv_not rfl) rfl ?_
                    refine Ops.nil ?_
                    refine Ends.seq ?_
                    first | refine Wp.cond_dect rfl (fun h17 => ?_) (fun h17 => ?_) | refine Wp.cond_t rfl (fun h17 => ?_) (fun h17 => ?_)
                    · refine Wp.seq ?_
                      refine Wp.region ?_
                      refine Ops.pv (pv_assign rfl) rfl ?_
                      refine Ops.nil ?_
                      refine Ends.seq ?_
                      refine Wp.ret ?_
                      refine Ends.then_ret ?_
                      exact Ends.ret (res1 rfl rfl) ⟨by first | (rw [check_bad (by omega)]; done) | (rw [check_ok hr (by omega) (by unfold dOk; omega)]; done) | (rw [check_no hr (by omega) (by unfold dOk; omega)]; done), rfl⟩
                    · refine Wp.skip ?_
                      refine Ends.seq ?_
                      refine Wp.seq ?_
                      refine Wp.region ?_
                      refine Ops.pv (pv_assign rfl) rfl ?_
                      refine Ops.nil ?_
                      refine Ends.seq ?_
                      refine Wp.ret ?_
                      exact Ends.ret (res1 rfl rfl) ⟨by first | (rw [check_bad (by omega)]; done) | (rw [check_ok hr (by omega) (by unfold dOk; omega)]; done) | (rw [check_no hr (by omega) (by unfold dOk; omega)]; done), rfl⟩
                  · refine Wp.skip ?_
                    refine Ends.seq ?_
                    refine Wp.seq ?_
                    refine Wp.seq ?_
                    refine Wp.region ?_
                    refine Ops.pv (pv_move rfl) rfl ?_
                    first | refine Ops.pv (pv_not_dec rfl) rfl ?_ | refine Ops.pv (pv_not rfl) rfl ?_
                    refine Ops.nil ?_
                    refine Ends.seq ?_
                    first | refine Wp.cond_dect rfl (fun h18 => ?_) (fun h18 => ?_) | refine Wp.cond_t rfl (fun h18 => ?_) (fun h18 => ?_)
                    · refine Wp.seq ?_
                      refine Wp.region ?_
                      refine Ops.pv (pv_assign rfl) rfl ?_
                      refine Ops.nil ?_
                      refine Ends.seq ?_
                      refine Wp.ret ?_
                      refine Ends.then_ret ?_
                      exact Ends.ret (res1 rfl rfl) ⟨by first | (rw [check_bad (by omega)]; done) | (rw [check_ok hr (by omega) (by unfold dOk; omega)]; done) | (rw [check_no hr (by omega) (by unfold dOk; omega)]; done), rfl⟩
                    · refine Wp.skip ?_
                      refine Ends.seq ?_
                      refine Wp.seq ?_
                      refine Wp.region ?_
                      refine Ops.pv (pv_assign rfl) rfl ?_
                      refine Ops.nil ?_
                      refine Ends.seq ?_
                      refine Wp.ret ?_
                      exact Ends.ret (res1 rfl rfl) ⟨by first | (rw [check_bad (by omega)]; done) | (rw [check_ok hr (by omega) (by unfold dOk; omega)]; done) | (rw [check_no hr (by omega) (by unfold dOk; omega)]; done), rfl⟩
                · refine Wp.skip ?_
                  refine Ends.seq ?_
                  refine Wp.seq ?_
                  refine Wp.seq ?_
                  refine Wp.region ?_
                  first | refine Ops.pv (pv_fieldAddr0 rfl rfl) rfl ?_ | refine Ops.pv (pv_fieldAddr rfl rfl) rfl ?_
                  first | refine Ops.pv (pv_load rfl rfl rfl) rfl ?_ | refine Ops.pv (pv_load rfl rfl (by assumption)) rfl ?_
                  refine Ops.pv (pv_neq rfl rfl) rfl ?_
                  refine Ops.nil ?_
                  refine Ends.seq ?_
                  first | refine Wp.cond_dect rfl (fun h19 => ?_) (fun h19 => ?_) | refine Wp.cond_t rfl (fun h19 => ?_) (fun h19 => ?_)
                  · refine Wp.region ?_
                    refine Ops.pv (pv_move rfl) rfl ?_
                    refine Ops.pv (pv_move rfl) rfl ?_
                    first | refine Ops.pvc rfl rfl (fun hg => pv_fieldAddr0 rfl rfl) rfl ?_ | refine Ops.pvc rfl rfl (fun hg => pv_fieldAddr rfl rfl) rfl ?_
                    first | refine Ops.pvc rfl rfl (fun hg => Pv.setE (t := 76) rfl (cv_pos hg) (pv_load rfl rfl rfl)) rfl ?_ | refine Ops.pvc rfl rfl (fun hg => Pv.setE (t := 76) rfl (cv_pos hg) (pv_load rfl rfl (by assumption))) rfl ?_
                    refine Ops.pvc rfl rfl (fun hg => Pv.setE (t := 76) rfl (cv_pos hg) (Pv.setE (t := 77) rfl (cv_pos hg) (pv_eql rfl rfl))) rfl ?_
                    refine Ops.pv (pv_pick_and rfl rfl) rfl ?_
                    refine Ops.pv (pv_assign rfl) rfl ?_
                    refine Ops.nil ?_
                    refine Ends.seq ?_
                    refine Wp.seq ?_
                    refine Wp.seq ?_
                    refine Wp.region ?_
                    refine Ops.pv (pv_move rfl) rfl ?_
                    first | refine Ops.pv (pv_not_dec rfl) rfl ?_ | refine Ops.pv (pv_not rfl) rfl ?_
                    refine Ops.nil ?_
                    refine Ends.seq ?_
                    first | refine Wp.cond_dect rfl (fun h20 => ?_) (fun h20 => ?_) | refine Wp.cond_t rfl (fun h20 => ?_) (fun h20 => ?_)
                    · refine Wp.seq ?_
                      refine Wp.region ?_
                      refine Ops.pv (pv_assign rfl) rfl ?_
                      refine Ops.nil ?_
                      refine Ends.seq ?_
                      refine Wp.ret ?_
                      refine Ends.then_ret ?_
                      exact Ends.ret (res1 rfl rfl) ⟨by first | (rw [check_bad (by omega)]; done) | (rw [check_ok hr (by omega) (by unfold dOk; omega)]; done) | (rw [check_no hr (by omega) (by unfold dOk; omega)]; done), rfl⟩
                    · refine Wp.skip ?_
                      refine Ends.seq ?_
                      refine Wp.seq ?_
                      refine Wp.region ?_
                      refine Ops.pv (pv_assign rfl) rfl ?_
                      refine Ops.nil ?_
                      refine Ends.seq ?_
                      refine Wp.ret ?_
                      exact Ends.ret (res1 rfl rfl) ⟨by first | (rw [check_bad (by omega)]; done) | (rw [check_ok hr (by omega) (by unfold dOk; omega)]; done) | (rw [check_no hr (by omega) (by unfold dOk; omega)]; done), rfl⟩
                  · refine Wp.skip ?_
                    refine Ends.seq ?_
                    refine Wp.seq ?_
                    refine Wp.seq ?_
                    refine Wp.region ?_
                    refine Ops.pv (pv_move rfl) rfl ?_
                    first | refine Ops.pv (pv_not_dec rfl) rfl ?_ | refine Ops.pv (pv_not rfl) rfl ?_
                    refine Ops.nil ?_
                    refine Ends.seq ?_
                    first | refine Wp.cond_dect rfl (fun h21 => ?_) (fun h21 => ?_) | refine Wp.cond_t rfl (fun h21 => ?_) (fun h21 => ?_)
                    · refine Wp.seq ?_
                      refine Wp.region ?_
                      refine Ops.pv (pv_assign rfl) rfl ?_
                      refine Ops.nil ?_
                      refine Ends.seq ?_
                      refine Wp.ret ?_
                      refine Ends.then_ret ?_
                      exact Ends.ret (res1 rfl rfl) ⟨by first | (rw [check_bad (by omega)]; done) | (rw [check_ok hr (by omega) (by unfold dOk; omega)]; done) | (rw [check_no hr (by omega) (by unfold dOk; omega)]; done), rfl⟩
                    · refine Wp.skip ?_
                      refine Ends.seq ?_
                      refine Wp.seq ?_
                      refine Wp.region ?_
                      refine Ops.pv (pv_assign rfl) rfl ?_
                      refine Ops.nil ?_
                      refine Ends.seq ?_
                      refine Wp.ret ?_
                      exact Ends.ret (res1 rfl rfl) ⟨by first | (rw [check_bad (by omega)]; done) | (rw [check_ok hr (by omega) (by unfold dOk; omega)]; done) | (rw [check_no hr (by omega) (by unfold dOk; omega)]; done), rfl⟩
            · refine Ops.skipg ⟨_, _, rfl, rfl, rfl⟩ rfl ?_
              refine Ops.skipg ⟨_, _, rfl, rfl, rfl⟩ rfl ?_
              refine Ops.skipg ⟨_, _, rfl, rfl, rfl⟩ rfl ?_
              refine Ops.pv (pv_pick_false rfl rfl) rfl ?_
              refine Ops.pv (pv_assign rfl) rfl ?_
              refine Ops.nil ?_
              refine Ends.seq ?_
              refine Wp.seq ?_
              refine Wp.seq ?_
              refine Wp.region ?_
              first | refine Ops.pv (pv_fieldAddr0 rfl rfl) rfl ?_ | refine Ops.pv (pv_fieldAddr rfl rfl) rfl ?_
              first | refine Ops.pv (pv_load rfl rfl rfl) rfl ?_ | refine Ops.pv (pv_load rfl rfl (by assumption)) rfl ?_
              refine Ops.ef rfl (ef_callr (tr_righted c.kind) rfl rfl) ?_
              rintro _ _ ⟨rfl, rfl⟩
              first | refine Ops.pv (pv_not_dec rfl) rfl ?_ | refine Ops.pv (pv_not rfl) rfl ?_
              refine Ops.nil ?_
              refine Ends.seq ?_
              first | refine Wp.cond_dect rfl (fun h22 => ?_) (fun h22 => ?_) | refine Wp.cond_t rfl (fun h22 => ?_) (fun h22 => ?_)
              · refine Wp.region ?_
                refine Ops.pv (pv_move rfl) rfl ?_
                refine Ops.pv (pv_move rfl) rfl ?_
                refine Ops.skipg ⟨_, _, rfl, rfl, rfl⟩ rfl ?_
                refine Ops.skipg ⟨_, _, rfl, rfl, rfl⟩ rfl ?_
                refine Ops.skipg ⟨_, _, rfl, rfl, rfl⟩ rfl ?_
                refine Ops.pv (pv_pick_false rfl rfl) rfl ?_
                refine Ops.pv (pv_assign rfl) rfl ?_
                refine Ops.nil ?_
                refine Ends.seq ?_
                refine Wp.seq ?_
                refine Wp.seq ?_
                refine Wp.region ?_
                first | refine Ops.pv (pv_fieldAddr0 rfl rfl) rfl ?_ | refine Ops.pv (pv_fieldAddr rfl rfl) rfl ?_
                first | refine Ops.pv (pv_load rfl rfl rfl) rfl ?_ | refine Ops.pv (pv_load rfl rfl (by assumption)) rfl ?_
                refine Ops.ef rfl (ef_callr (tr_badged c.kind) rfl rfl) ?_
                rintro _ _ ⟨rfl, rfl⟩
                first | refine Ops.pv (pv_not_dec rfl) rfl ?_ | refine Ops.pv (pv_not rfl) rfl ?_
                refine Ops.nil ?_
                refine Ends.seq ?_
                first | refine Wp.cond_dect rfl (fun h23 => ?_) (fun h23 => ?_) | refine Wp.cond_t rfl (fun h23 => ?_) (fun h23 => ?_)
                · refine Wp.region ?_
                  refine Ops.pv (pv_move rfl) rfl ?_
                  refine Ops.pv (pv_move rfl) rfl ?_
                  refine Ops.skipg ⟨_, _, rfl, rfl, rfl⟩ rfl ?_
                  refine Ops.skipg ⟨_, _, rfl, rfl, rfl⟩ rfl ?_
                  refine Ops.skipg ⟨_, _, rfl, rfl, rfl⟩ rfl ?_
                  refine Ops.pv (pv_pick_false rfl rfl) rfl ?_
                  refine Ops.pv (pv_assign rfl) rfl ?_
                  refine Ops.nil ?_
                  refine Ends.seq ?_
                  refine Wp.seq ?_
                  refine Wp.seq ?_
                  refine Wp.region ?_
                  first | refine Ops.pv (pv_fieldAddr0 rfl rfl) rfl ?_ | refine Ops.pv (pv_fieldAddr rfl rfl) rfl ?_
                  first | refine Ops.pv (pv_load rfl rfl rfl) rfl ?_ | refine Ops.pv (pv_load rfl rfl (by assumption)) rfl ?_
                  refine Ops.pv (pv_neq rfl rfl) rfl ?_
                  refine Ops.nil ?_
                  refine Ends.seq ?_
                  first | refine Wp.cond_dect rfl (fun h24 => ?_) (fun h24 => ?_) | refine Wp.cond_t rfl (fun h24 => ?_) (fun h24 => ?_)
                  · refine Wp.region ?_
                    refine Ops.pv (pv_move rfl) rfl ?_
                    refine Ops.pv (pv_move rfl) rfl ?_
                    refine Ops.skipg ⟨_, _, rfl, rfl, rfl⟩ rfl ?_
                    refine Ops.skipg ⟨_, _, rfl, rfl, rfl⟩ rfl ?_
                    refine Ops.skipg ⟨_, _, rfl, rfl, rfl⟩ rfl ?_
                    refine Ops.pv (pv_pick_false rfl rfl) rfl ?_
                    refine Ops.pv (pv_assign rfl) rfl ?_
                    refine Ops.nil ?_
                    refine Ends.seq ?_
                    refine Wp.seq ?_
                    refine Wp.seq ?_
                    refine Wp.region ?_
                    refine Ops.pv (pv_move rfl) rfl ?_
                    first | refine Ops.pv (pv_not_dec rfl) rfl ?_ | refine Ops.pv (pv_not rfl) rfl ?_
                    refine Ops.nil ?_
                    refine Ends.seq ?_
                    refine Wp.cond_true rfl ?_
                    refine Wp.seq ?_
                    refine Wp.region ?_
                    refine Ops.pv (pv_assign rfl) rfl ?_
                    refine Ops.nil ?_
                    refine Ends.seq ?_
                    refine Wp.ret ?_
                    refine Ends.then_ret ?_
                    exact Ends.ret (res1 rfl rfl) ⟨by first | (rw [check_bad (by omega)]; done) | (rw [check_ok hr (by omega) (by unfold dOk; omega)]; done) | (rw [check_no hr (by omega) (by unfold dOk; omega)]; done), rfl⟩
                  · refine Wp.skip ?_
                    refine Ends.seq ?_
                    refine Wp.seq ?_
                    refine Wp.seq ?_
                    refine Wp.region ?_
                    refine Ops.pv (pv_move rfl) rfl ?_
                    first | refine Ops.pv (pv_not_dec rfl) rfl ?_ | refine Ops.pv (pv_not rfl) rfl ?_
                    refine Ops.nil ?_
                    refine Ends.seq ?_
                    refine Wp.cond_true rfl ?_
                    refine Wp.seq ?_
                    refine Wp.region ?_
                    refine Ops.pv (pv_assign rfl) rfl ?_
                    refine Ops.nil ?_
                    refine Ends.seq ?_
                    refine Wp.ret ?_
                    refine Ends.then_ret ?_
                    exact Ends.ret (res1 rfl rfl) ⟨by first | (rw [check_bad (by omega)]; done) | (rw [check_ok hr (by omega) (by unfold dOk; omega)]; done) | (rw [check_no hr (by omega) (by unfold dOk; omega)]; done), rfl⟩
                · refine Wp.skip ?_
                  refine Ends.seq ?_
                  refine Wp.seq ?_
                  refine Wp.seq ?_
                  refine Wp.region ?_
                  first | refine Ops.pv (pv_fieldAddr0 rfl rfl) rfl ?_ | refine Ops.pv (pv_fieldAddr rfl rfl) rfl ?_
                  first | refine Ops.pv (pv_load rfl rfl rfl) rfl ?_ | refine Ops.pv (pv_load rfl rfl (by assumption)) rfl ?_
                  refine Ops.pv (pv_neq rfl rfl) rfl ?_
                  refine Ops.nil ?_
                  refine Ends.seq ?_
                  first | refine Wp.cond_dect rfl (fun h25 => ?_) (fun h25 => ?_) | refine Wp.cond_t rfl (fun h25 => ?_) (fun h25 => ?_)
                  · refine Wp.region ?_
                    refine Ops.pv (pv_move rfl) rfl ?_
                    refine Ops.pv (pv_move rfl) rfl ?_
                    refine Ops.skipg ⟨_, _, rfl, rfl, rfl⟩ rfl ?_
                    refine Ops.skipg ⟨_, _, rfl, rfl, rfl⟩ rfl ?_
                    refine Ops.skipg ⟨_, _, rfl, rfl, rfl⟩ rfl ?_
                    refine Ops.pv (pv_pick_false rfl rfl) rfl ?_
                    refine Ops.pv (pv_assign rfl) rfl ?_
                    refine Ops.nil ?_
                    refine Ends.seq ?_
                    refine Wp.seq ?_
                    refine Wp.seq ?_
                    refine Wp.region ?_
                    refine Ops.pv (pv_move rfl) rfl ?_
                    first | refine Ops.pv (pv_not_dec rfl) rfl ?_ | refine Ops.pv (pv_not rfl) rfl ?_
                    refine Ops.nil ?_
                    refine Ends.seq ?_
                    refine Wp.cond_true rfl ?_
                    refine Wp.seq ?_
                    refine Wp.region ?_
                    refine Ops.pv (pv_assign rfl) rfl ?_
                    refine Ops.nil ?_
                    refine Ends.seq ?_
                    refine Wp.ret ?_
                    refine Ends.then_ret ?_
                    exact Ends.ret (res1 rfl rfl) ⟨by first | (rw [check_bad (by omega)]; done) | (rw [check_ok hr (by omega) (by unfold dOk; omega)]; done) | (rw [check_no hr (by omega) (by unfold dOk; omega)]; done), rfl⟩
                  · refine Wp.skip ?_
                    refine Ends.seq ?_
                    refine Wp.seq ?_
                    refine Wp.seq ?_
                    refine Wp.region ?_
                    refine Ops.pv (pv_move rfl) rfl ?_
                    first | refine Ops.pv (pv_not_dec rfl) rfl ?_ | refine Ops.pv (pv_not rfl) rfl ?_
                    refine Ops.nil ?_
                    refine Ends.seq ?_
                    refine Wp.cond_true rfl ?_
                    refine Wp.seq ?_
                    refine Wp.region ?_
                    refine Ops.pv (pv_assign rfl) rfl ?_
                    refine Ops.nil ?_
                    refine Ends.seq ?_
                    refine Wp.ret ?_
                    refine Ends.then_ret ?_
                    exact Ends.ret (res1 rfl rfl) ⟨by first | (rw [check_bad (by omega)]; done) | (rw [check_ok hr (by omega) (by unfold dOk; omega)]; done) | (rw [check_no hr (by omega) (by unfold dOk; omega)]; done), rfl⟩
              · refine Wp.skip ?_
                refine Ends.seq ?_
                refine Wp.seq ?_
                refine Wp.seq ?_
                refine Wp.region ?_
                first | refine Ops.pv (pv_fieldAddr0 rfl rfl) rfl ?_ | refine Ops.pv (pv_fieldAddr rfl rfl) rfl ?_
                first | refine Ops.pv (pv_load rfl rfl rfl) rfl ?_ | refine Ops.pv (pv_load rfl rfl (by assumption)) rfl ?_
                refine Ops.ef rfl (ef_callr (tr_badged c.kind) rfl rfl) ?_
                rintro _ _ ⟨rfl, rfl⟩
                first | refine Ops.pv (pv_not_dec rfl) rfl ?_ | refine Ops.pv (pv_not rfl) rfl ?_
                refine Ops.nil ?_
                refine Ends.seq ?_
                first | refine Wp.cond_dect rfl (fun h26 => ?_) (fun h26 => ?_) | refine Wp.cond_t rfl (fun h26 => ?_) (fun h26 => ?_)
                · refine Wp.region ?_
                  refine Ops.pv (pv_move rfl) rfl ?_
                  refine Ops.pv (pv_move rfl) rfl ?_
                  refine Ops.skipg ⟨_, _, rfl, rfl, rfl⟩ rfl ?_
                  refine Ops.skipg ⟨_, _, rfl, rfl, rfl⟩ rfl ?_
                  refine Ops.skipg ⟨_, _, rfl, rfl, rfl⟩ rfl ?_
                  refine Ops.pv (pv_pick_false rfl rfl) rfl ?_
                  refine Ops.pv (pv_assign rfl) rfl ?_
                  refine Ops.nil ?_
                  refine Ends.seq ?_
                  refine Wp.seq ?_
                  refine Wp.seq ?_
                  refine Wp.region ?_
                  first | refine Ops.pv (pv_fieldAddr0 rfl rfl) rfl ?_ | refine Ops.pv (pv_fieldAddr rfl rfl) rfl ?_
                  first | refine Ops.pv (pv_load rfl rfl rfl) rfl ?_ | refine Ops.pv (pv_load rfl rfl (by assumption)) rfl ?_
                  refine Ops.pv (pv_neq rfl rfl) rfl ?_
                  refine Ops.nil ?_
                  refine Ends.seq ?_
                  first | refine Wp.cond_dect rfl (fun h27 => ?_) (fun h27 => ?_) | refine Wp.cond_t rfl (fun h27 => ?_) (fun h27 => ?_)
                  · refine Wp.region ?_
                    refine Ops.pv (pv_move rfl) rfl ?_
                    refine Ops.pv (pv_move rfl) rfl ?_
                    refine Ops.skipg ⟨_, _, rfl, rfl, rfl⟩ rfl ?_
                    refine Ops.skipg ⟨_, _, rfl, rfl, rfl⟩ rfl ?_
                    refine Ops.skipg ⟨_, _, rfl, rfl, rfl⟩ rfl ?_
                    refine Ops.pv (pv_pick_false rfl rfl) rfl ?_
                    refine Ops.pv (pv_assign rfl) rfl ?_
                    refine Ops.nil ?_
                    refine Ends.seq ?_
                    refine Wp.seq ?_
                    refine Wp.seq ?_
                    refine Wp.region ?_
                    refine Ops.pv (pv_move rfl) rfl ?_
                    first | refine Ops.pv (pv_not_dec rfl) rfl ?_ | refine Ops.pv (pv_not rfl) rfl ?_
                    refine Ops.nil ?_
                    refine Ends.seq ?_
                    refine Wp.cond_true rfl ?_
                    refine Wp.seq ?_
                    refine Wp.region ?_
                    refine Ops.pv (pv_assign rfl) rfl ?_
                    refine Ops.nil ?_
                    refine Ends.seq ?_
                    refine Wp.ret ?_
                    refine Ends.then_ret ?_
                    exact Ends.ret (res1 rfl rfl) ⟨by first | (rw [check_bad (by omega)]; done) | (rw [check_ok hr (by omega) (by unfold dOk; omega)]; done) | (rw [check_no hr (by omega) (by unfold dOk; omega)]; done), rfl⟩
                  · refine Wp.skip ?_
                    refine Ends.seq ?_
                    refine Wp.seq ?_
                    refine Wp.seq ?_
                    refine Wp.region ?_
                    refine Ops.pv (pv_move rfl) rfl ?_
                    first | refine Ops.pv (pv_not_dec rfl) rfl ?_ | refine Ops.pv (pv_not rfl) rfl ?_
                    refine Ops.nil ?_
                    refine Ends.seq ?_
                    refine Wp.cond_true rfl ?_
                    refine Wp.seq ?_
                    refine Wp.region ?_
                    refine Ops.pv (pv_assign rfl) rfl ?_
                    refine Ops.nil ?_
                    refine Ends.seq ?_
                    refine Wp.ret ?_
                    refine Ends.then_ret ?_
                    exact Ends.ret (res1 rfl rfl) ⟨by first | (rw [check_bad (by omega)]; done) | (rw [check_ok hr (by omega) (by unfold dOk; omega)]; done) | (rw [check_no hr (by omega) (by unfold dOk; omega)]; done), rfl⟩
                · refine Wp.skip ?_
                  refine Ends.seq ?_
                  refine Wp.seq ?_
                  refine Wp.seq ?_
                  refine Wp.region ?_
                  first | refine Ops.pv (pv_fieldAddr0 rfl rfl) rfl ?_ | refine Ops.pv (pv_fieldAddr rfl rfl) rfl ?_
                  first | refine Ops.pv (pv_load rfl rfl rfl) rfl ?_ | refine Ops.pv (pv_load rfl rfl (by assumption)) rfl ?_
                  refine Ops.pv (pv_neq rfl rfl) rfl ?_
                  refine Ops.nil ?_
                  refine Ends.seq ?_
                  first | refine Wp.cond_dect rfl (fun h28 => ?_) (fun h28 => ?_) | refine Wp.cond_t rfl (fun h28 => ?_) (fun h28 => ?_)
                  · refine Wp.region ?_
                    refine Ops.pv (pv_move rfl) rfl ?_
                    refine Ops.pv (pv_move rfl) rfl ?_
                    refine Ops.skipg ⟨_, _, rfl, rfl, rfl⟩ rfl ?_
                    refine Ops.skipg ⟨_, _, rfl, rfl, rfl⟩ rfl ?_
                    refine Ops.skipg ⟨_, _, rfl, rfl, rfl⟩ rfl ?_
                    refine Ops.pv (pv_pick_false rfl rfl) rfl ?_
                    refine Ops.pv (pv_assign rfl) rfl ?_
                    refine Ops.nil ?_
                    refine Ends.seq ?_
                    refine Wp.seq ?_
                    refine Wp.seq ?_
                    refine Wp.region ?_
                    refine Ops.pv (pv_move rfl) rfl ?_
                    first | refine Ops.pv (pv_not_dec rfl) rfl ?_ | refine Ops.pv (pv_not rfl) rfl ?_
                    refine Ops.nil ?_
                    refine Ends.seq ?_
                    refine Wp.cond_true rfl ?_
                    refine Wp.seq ?_
                    refine Wp.region ?_
                    refine Ops.pv (pv_assign rfl) rfl ?_
                    refine Ops.nil ?_
                    refine Ends.seq ?_
                    refine Wp.ret ?_
                    refine Ends.then_ret ?_
                    exact Ends.ret (res1 rfl rfl) ⟨by first | (rw [check_bad (by omega)]; done) | (rw [check_ok hr (by omega) (by unfold dOk; omega)]; done) | (rw [check_no hr (by omega) (by unfold dOk; omega)]; done), rfl⟩
                  · refine Wp.skip ?_
                    refine Ends.seq ?_
                    refine Wp.seq ?_
                    refine Wp.seq ?_
                    refine Wp.region ?_
                    refine Ops.pv (pv_move rfl) rfl ?_
                    first | refine Ops.pv (pv_not_dec rfl) rfl ?_ | refine Ops.pv (pv_not rfl) rfl ?_
                    refine Ops.nil ?_
                    refine Ends.seq ?_
                    refine Wp.cond_true rfl ?_
                    refine Wp.seq ?_
                    refine Wp.region ?_
                    refine Ops.pv (pv_assign rfl) rfl ?_
                    refine Ops.nil ?_
                    refine Ends.seq ?_
                    refine Wp.ret ?_
                    refine Ends.then_ret ?_
                    exact Ends.ret (res1 rfl rfl) ⟨by first | (rw [check_bad (by omega)]; done) | (rw [check_ok hr (by omega) (by unfold dOk; omega)]; done) | (rw [check_no hr (by omega) (by unfold dOk; omega)]; done), rfl⟩
          · refine Wp.skip ?_
            refine Ends.seq ?_
            refine Wp.seq ?_
            refine Wp.seq ?_
            refine Wp.region ?_
            first | refine Ops.pv (pv_fieldAddr0 rfl rfl) rfl ?_ | refine Ops.pv (pv_fieldAddr rfl rfl) rfl ?_
            first | refine Ops.pv (pv_load rfl rfl rfl) rfl ?_ | refine Ops.pv (pv_load rfl rfl (by assumption)) rfl ?_
            refine Ops.ef rfl (ef_callr (tr_righted c.kind) rfl rfl) ?_
            rintro _ _ ⟨rfl, rfl⟩
            first | refine Ops.pv (pv_not_dec rfl) rfl ?_ | refine Ops.pv (pv_not rfl) rfl ?_
            refine Ops.nil ?_
            refine Ends.seq ?_
            first | refine Wp.cond_dect rfl (fun h29 => ?_) (fun h29 => ?_) | refine Wp.cond_t rfl (fun h29 => ?_) (fun h29 => ?_)
            · refine Wp.region ?_
              refine Ops.pv (pv_move rfl) rfl ?_
              refine Ops.pv (pv_move rfl) rfl ?_
              first | refine Ops.split (t := 56) rfl (fun h30 => ?_) (fun h30 => ?_) | refine Ops.splitb (t := 56) rfl (fun h30 => ?_) (fun h30 => ?_)
              · first | refine Ops.pvg ⟨_, _, rfl, rfl, rfl⟩ (pv_fieldAddr0 rfl rfl) rfl ?_ | refine Ops.pvg ⟨_, _, rfl, rfl, rfl⟩ (pv_fieldAddr rfl rfl) rfl ?_
                first | refine Ops.pvg ⟨_, _, rfl, rfl, rfl⟩ (pv_load rfl rfl rfl) rfl ?_ | refine Ops.pvg ⟨_, _, rfl, rfl, rfl⟩ (pv_load rfl rfl (by assumption)) rfl ?_
                refine Ops.pvg ⟨_, _, rfl, rfl, rfl⟩ (pv_eql rfl rfl) rfl ?_
                refine Ops.pv (pv_pick_true rfl rfl) rfl ?_
                refine Ops.pv (pv_assign rfl) rfl ?_
                refine Ops.nil ?_
                refine Ends.seq ?_
                refine Wp.seq ?_
                refine Wp.seq ?_
                refine Wp.region ?_
                first | refine Ops.pv (pv_fieldAddr0 rfl rfl) rfl ?_ | refine Ops.pv (pv_fieldAddr rfl rfl) rfl ?_
                first | refine Ops.pv (pv_load rfl rfl rfl) rfl ?_ | refine Ops.pv (pv_load rfl rfl (by assumption)) rfl ?_
                refine Ops.ef rfl (ef_callr (tr_badged c.kind) rfl rfl) ?_
                rintro _ _ ⟨rfl, rfl⟩
                first | refine Ops.pv (pv_not_dec rfl) rfl ?_ | refine Ops.pv (pv_not rfl) rfl ?_
                refine Ops.nil ?_
                refine Ends.seq ?_
                first | refine Wp.cond_dect rfl (fun h31 => ?_) (fun h31 => ?_) | refine Wp.cond_t rfl (fun h31 => ?_) (fun h31 => ?_)
                · refine Wp.region ?_
                  refine Ops.pv (pv_move rfl) rfl ?_
                  refine Ops.pv (pv_move rfl) rfl ?_
                  first | refine Ops.pvc rfl rfl (fun hg => pv_fieldAddr0 rfl rfl) rfl ?_ | refine Ops.pvc rfl rfl (fun hg => pv_fieldAddr rfl rfl) rfl ?_
                  first | refine Ops.pvc rfl rfl (fun hg => Pv.setE (t := 67) rfl (cv_pos hg) (pv_load rfl rfl rfl)) rfl ?_ | refine Ops.pvc rfl rfl (fun hg => Pv.setE (t := 67) rfl (cv_pos hg) (pv_load rfl rfl (by assumption))) rfl ?_
                  refine Ops.pvc rfl rfl (fun hg => Pv.setE (t := 67) rfl (cv_pos hg) (Pv.setE (t := 68) rfl (cv_pos hg) (pv_eql rfl rfl))) rfl ?_
                  refine Ops.pv (pv_pick_and rfl rfl) rfl ?_
                  refine Ops.pv (pv_assign rfl) rfl ?_
                  refine Ops.nil ?_
                  refine Ends.seq ?_
                  refine Wp.seq ?_
                  refine Wp.seq ?_
                  refine Wp.region ?_
                  first | refine Ops.pv (pv_fieldAddr0 rfl rfl) rfl ?_ | refine Ops.pv (pv_fieldAddr rfl rfl) rfl ?_
                  first | refine Ops.pv (pv_load rfl rfl rfl) rfl ?_ | refine Ops.pv (pv_load rfl rfl (by assumption)) rfl ?_
                  refine Ops.pv (pv_neq rfl rfl) rfl ?_
                  refine Ops.nil ?_
                  refine Ends.seq ?_
                  first | refine Wp.cond_dect rfl (fun h32 => ?_) (fun h32 => ?_) | refine Wp.cond_t rfl (fun h32 => ?_) (fun h32 => ?_)
                  · refine Wp.region ?_
                    refine Ops.pv (pv_move rfl) rfl ?_
                    refine Ops.pv (pv_move rfl) rfl ?_
                    first | refine Ops.pvc rfl rfl (fun hg => pv_fieldAddr0 rfl rfl) rfl ?_ | refine Ops.pvc rfl rfl (fun hg => pv_fieldAddr rfl rfl) rfl ?_
                    first | refine Ops.pvc rfl rfl (fun hg => Pv.setE (t := 76) rfl (cv_pos hg) (pv_load rfl rfl rfl)) rfl ?_ | refine Ops.pvc rfl rfl (fun hg => Pv.setE (t := 76) rfl (cv_pos hg) (pv_load rfl rfl (by assumption))) rfl ?_
                    refine Ops.pvc rfl rfl (fun hg => Pv.setE (t := 76) rfl (cv_pos hg) (Pv.setE (t := 77) rfl (cv_pos hg) (pv_eql rfl rfl))) rfl ?_
                    refine Ops.pv (pv_pick_and rfl rfl) rfl ?_
                    refine Ops.pv (pv_assign rfl) rfl ?_
                    refine Ops.nil ?_
                    refine Ends.seq ?_
                    refine Wp.seq ?_
                    refine Wp.seq ?_
                    refine Wp.region ?_
                    refine Ops.pv (pv_move rfl) rfl ?_
                    first | refine Ops.pv (pv_not_dec rfl) rfl ?_ | refine Ops.pv (pv_not rfl) rfl ?_
                    refine Ops.nil ?_
                    refine Ends.seq ?_
                    first | refine Wp.cond_dect rfl (fun h33 => ?_) (fun h33 => ?_) | refine Wp.cond_t rfl (fun h33 => ?_) (fun h33 => ?_)
                    · refine Wp.seq ?_
                      refine Wp.region ?_
                      refine Ops.pv (pv_assign rfl) rfl ?_
                      refine Ops.nil ?_
                      refine Ends.seq ?_
                      refine Wp.ret ?_
                      refine Ends.then_ret ?_
                      exact Ends.ret (res1 rfl rfl) ⟨by first | (rw [check_bad (by omega)]; done) | (rw [check_ok hr (by omega) (by unfold dOk; omega)]; done) | (rw [check_no hr (by omega) (by unfold dOk; omega)]; done), rfl⟩
                    · refine Wp.skip ?_
                      refine Ends.seq ?_
                      refine Wp.seq ?_
                      refine Wp.region ?_
                      refine Ops.pv (pv_assign rfl) rfl ?_
                      refine Ops.nil ?_
                      refine Ends.seq ?_
                      refine Wp.ret ?_
                      exact Ends.ret (res1 rfl rfl) ⟨by first | (rw [check_bad (by omega)]; done) | (rw [check_ok hr (by omega) (by unfold dOk; omega)]; done) | (rw [check_no hr (by omega) (by unfold dOk; omega)]; done), rfl⟩
                  · refine Wp.skip ?_
                    refine Ends.seq ?_
                    refine Wp.seq ?_
                    refine Wp.seq ?_
                    refine Wp.region ?_
                    refine Ops.pv (pv_move rfl) rfl ?_
                    first | refine Ops.pv (pv_not_dec rfl) rfl ?_ | refine Ops.pv (pv_not rfl) rfl ?_
                    refine Ops.nil ?_
                    refine Ends.seq ?_
                    first | refine Wp.cond_dect rfl (fun h34 => ?_) (fun h34 => ?_) | refine Wp.cond_t rfl (fun h34 => ?_) (fun h34 => ?_)
                    · refine Wp.seq ?_
                      refine Wp.region ?_
                      refine Ops.pv (pv_assign rfl) rfl ?_
                      refine Ops.nil ?_
                      refine Ends.seq ?_
                      refine Wp.ret ?_
                      refine Ends.then_ret ?_
                      exact Ends.ret (res1 rfl rfl) ⟨by first | (rw [check_bad (by omega)]; done) | (rw [check_ok hr (by omega) (by unfold dOk; omega)]; done) | (rw [check_no hr (by omega) (by unfold dOk; omega)]; done), rfl⟩
                    · refine Wp.skip ?_
                      refine Ends.seq ?_
                      refine Wp.seq ?_
                      refine Wp.region ?_
                      refine Ops.pv (pv_assign rfl) rfl ?_
                      refine Ops.nil ?_
                      refine Ends.seq ?_
                      refine Wp.ret ?_
                      exact Ends.ret (res1 rfl rfl) ⟨by first | (rw [check_bad (by omega)]; done) | (rw [check_ok hr (by omega) (by unfold dOk; omega)]; done) | (rw [check_no hr (by omega) (by unfold dOk; omega)]; done), rfl⟩
                · refine Wp.skip ?_
                  refine Ends.seq ?_
                  refine Wp.seq ?_
                  refine Wp.seq ?_
                  refine Wp.region ?_
                  first | refine Ops.pv (pv_fieldAddr0 rfl rfl) rfl ?_ | refine Ops.pv (pv_fieldAddr rfl rfl) rfl ?_
                  first | refine Ops.pv (pv_load rfl rfl rfl) rfl ?_ | refine Ops.pv (pv_load rfl rfl (by assumption)) rfl ?_
                  refine Ops.pv (pv_neq rfl rfl) rfl ?_
                  refine Ops.nil ?_
                  refine Ends.seq ?_
                  first | refine Wp.cond_dect rfl (fun h35 => ?_) (fun h35 => ?_) | refine Wp.cond_t rfl (fun h35 => ?_) (fun h35 => ?_)
                  · refine Wp.region ?_
                    refine Ops.pv (pv_move rfl) rfl ?_
                    refine Ops.pv (pv_move rfl) rfl ?_
                    first | refine Ops.pvc rfl rfl (fun hg => pv_fieldAddr0 rfl rfl) rfl ?_ | refine Ops.pvc rfl rfl (fun hg => pv_fieldAddr rfl rfl) rfl ?_
                    first | refine Ops.pvc rfl rfl (fun hg => Pv.setE (t := 76) rfl (cv_pos hg) (pv_load rfl rfl rfl)) rfl ?_ | refine Ops.pvc rfl rfl (fun hg => Pv.setE (t := 76) rfl (cv_pos hg) (pv_load rfl rfl (by assumption))) rfl ?_
                    refine Ops.pvc rfl rfl (fun hg => Pv.setE (t := 76) rfl (cv_pos hg) (Pv.setE (t := 77) rfl (cv_pos hg) (pv_eql rfl rfl))) rfl ?_
                    refine Ops.pv (pv_pick_and rfl rfl) rfl ?_
                    refine Ops.pv (pv_assign rfl) rfl ?_
                    refine Ops.nil ?_
                    refine Ends.seq ?_
                    refine Wp.seq ?_
                    refine Wp.seq ?_
                    refine Wp.region ?_
                    refine Ops.pv (pv_move rfl) rfl ?_
                    first | refine Ops.pv (pv_not_dec rfl) rfl ?_ | refine Ops.pv (pv_not rfl) rfl ?_
                    refine Ops.nil ?_
                    refine Ends.seq ?_
                    first | refine Wp.cond_dect rfl (fun h36 => ?_) (fun h36 => ?_) | refine Wp.cond_t rfl (fun h36 => ?_) (fun h36 => ?_)
                    · refine Wp.seq ?_
                      refine Wp.region ?_
                      refine Ops.pv (pv_assign rfl) rfl ?_
                      refine Ops.nil ?_
                      refine Ends.seq ?_
                      refine Wp.ret ?_
                      refine Ends.then_ret ?_
                      exact Ends.ret (res1 rfl rfl) ⟨by first | (rw [check_bad (by omega)]; done) | (rw [check_ok hr (by omega) (by unfold dOk; omega)]; done) | (rw [check_no hr (by omega) (by unfold dOk; omega)]; done), rfl⟩
                    · refine Wp.skip ?_
                      refine Ends.seq ?_
                      refine Wp.seq ?_
                      refine Wp.region ?_
                      refine Ops.pv (pv_assign rfl) rfl ?_
                      refine Ops.nil ?_
                      refine Ends.seq ?_
                      refine Wp.ret ?_
                      exact Ends.ret (res1 rfl rfl) ⟨by first | (rw [check_bad (by omega)]; done) | (rw [check_ok hr (by omega) (by unfold dOk; omega)]; done) | (rw [check_no hr (by omega) (by unfold dOk; omega)]; done), rfl⟩
                  · refine Wp.skip ?_
                    refine Ends.seq ?_
                    refine Wp.seq ?_
                    refine Wp.seq ?_
                    refine Wp.region ?_
                    refine Ops.pv (pv_move rfl) rfl ?_
                    first | refine Ops.pv (pv_not_dec rfl) rfl ?_ | refine Ops.pv (pv_not rfl) rfl ?_
                    refine Ops.nil ?_
                    refine Ends.seq ?_
                    first | refine Wp.cond_dect rfl (fun h37 => ?_) (fun h37 => ?_) | refine Wp.cond_t rfl (fun h37 => ?_) (fun h37 => ?_)
                    · refine Wp.seq ?_
                      refine Wp.region ?_
                      refine Ops.pv (pv_assign rfl) rfl ?_
                      refine Ops.nil ?_
                      refine Ends.seq ?_
                      refine Wp.ret ?_
                      refine Ends.then_ret ?_
                      exact Ends.ret (res1 rfl rfl) ⟨by first | (rw [check_bad (by omega)]; done) | (rw [check_ok hr (by omega) (by unfold dOk; omega)]; done) | (rw [check_no hr (by omega) (by unfold dOk; omega)]; done), rfl⟩
                    · refine Wp.skip ?_
                      refine Ends.seq ?_
                      refine Wp.seq ?_
                      refine Wp.region ?_
                      refine Ops.pv (pv_assign rfl) rfl ?_
                      refine Ops.nil ?_
                      refine Ends.seq ?_
                      refine Wp.ret ?_
                      exact Ends.ret (res1 rfl rfl) ⟨by first | (rw [check_bad (by omega)]; done) | (rw [check_ok hr (by omega) (by unfold dOk; omega)]; done) | (rw [check_no hr (by omega) (by unfold dOk; omega)]; done), rfl⟩
              · refine Ops.skipg ⟨_, _, rfl, rfl, rfl⟩ rfl ?_
                refine Ops.skipg ⟨_, _, rfl, rfl, rfl⟩ rfl ?_
                refine Ops.skipg ⟨_, _, rfl, rfl, rfl⟩ rfl ?_
                refine Ops.pv (pv_pick_false rfl rfl) rfl ?_
                refine Ops.pv (pv_assign rfl) rfl ?_
                refine Ops.nil ?_
                refine Ends.seq ?_
                refine Wp.seq ?_
                refine Wp.seq ?_
                refine Wp.region ?_
                first | refine Ops.pv (pv_fieldAddr0 rfl rfl) rfl ?_ | refine Ops.pv (pv_fieldAddr rfl rfl) rfl ?_
                first | refine Ops.pv (pv_load rfl rfl rfl) rfl ?_ | refine Ops.pv (pv_load rfl rfl (by assumption)) rfl ?_
                refine Ops.ef rfl (ef_callr (tr_badged c.kind) rfl rfl) ?_
                rintro _ _ ⟨rfl, rfl⟩
                first | refine Ops.pv (pv_not_dec rfl) rfl ?_ | refine Ops.pv (pv_not rfl) rfl ?_
                refine Ops.nil ?_
                refine Ends.seq ?_
                first | refine Wp.cond_dect rfl (fun h38 => ?_) (fun h38 => ?_) | refine Wp.cond_t rfl (fun h38 => ?_) (fun h38 => ?_)
                · refine Wp.region ?_
                  refine Ops.pv (pv_move rfl) rfl ?_
                  refine Ops.pv (pv_move rfl) rfl ?_
                  refine Ops.skipg ⟨_, _, rfl, rfl, rfl⟩ rfl ?_
                  refine Ops.skipg ⟨_, _, rfl, rfl, rfl⟩ rfl ?_
                  refine Ops.skipg ⟨_, _, rfl, rfl, rfl⟩ rfl ?_
                  refine Ops.pv (pv_pick_false rfl rfl) rfl ?_
                  refine Ops.pv (pv_assign rfl) rfl ?_
                  refine Ops.nil ?_
                  refine Ends.seq ?_
                  refine Wp.seq ?_
                  refine Wp.seq ?_
                  refine Wp.region ?_
                  first | refine Ops.pv (pv_fieldAddr0 rfl rfl) rfl ?_ | refine Ops.pv (pv_fieldAddr rfl rfl) rfl ?_
                  first | refine Ops.pv (pv_load rfl rfl rfl) rfl ?_ | refine Ops.pv (pv_load rfl rfl (by assumption)) rfl ?_
                  refine Ops.pv (pv_neq rfl rfl) rfl ?_
                  refine Ops.nil ?_
                  refine Ends.seq ?_
                  first | refine Wp.cond_dect rfl (fun h39 => ?_) (fun h39 => ?_) | refine Wp.cond_t rfl (fun h39 => ?_) (fun h39 => ?_)
                  · refine Wp.region ?_
                    refine Ops.pv (pv_move rfl) rfl ?_
                    refine Ops.pv (pv_move rfl) rfl ?_
                    refine Ops.skipg ⟨_, _, rfl, rfl, rfl⟩ rfl ?_
                    refine Ops.skipg ⟨_, _, rfl, rfl, rfl⟩ rfl ?_
                    refine Ops.skipg ⟨_, _, rfl, rfl, rfl⟩ rfl ?_
                    refine Ops.pv (pv_pick_false rfl rfl) rfl ?_
                    refine Ops.pv (pv_assign rfl) rfl ?_
                    refine Ops.nil ?_
                    refine Ends.seq ?_
                    refine Wp.seq ?_
                    refine Wp.seq ?_
                    refine Wp.region ?_
                    refine Ops.pv (pv_move rfl) rfl ?_
                    first | refine Ops.pv (pv_not_dec rfl) rfl ?_ | refine Ops.pv (pv_not rfl) rfl ?_
                    refine Ops.nil ?_
                    refine Ends.seq ?_
                    refine Wp.cond_true rfl ?_
                    refine Wp.seq ?_
                    refine Wp.region ?_
                    refine Ops.pv (pv_assign rfl) rfl ?_
                    refine Ops.nil ?_
                    refine Ends.seq ?_
                    refine Wp.ret ?_
                    refine Ends.then_ret ?_
                    exact Ends.ret (res1 rfl rfl) ⟨by first | (rw [check_bad (by omega)]; done) | (rw [check_ok hr (by omega) (by unfold dOk; omega)]; done) | (rw [check_no hr (by omega) (by unfold dOk; omega)]; done), rfl⟩
                  · refine Wp.skip ?_
                    refine Ends.seq ?_
                    refine Wp.seq ?_
                    refine Wp.seq ?_
                    refine Wp.region ?_
                    refine Ops.pv (pv_move rfl) rfl ?_
                    first | refine Ops.pv (pv_not_dec rfl) rfl ?_ | refine Ops.pv (pv_not rfl) rfl ?_
                    refine Ops.nil ?_
                    refine Ends.seq ?_
                    refine Wp.cond_true rfl ?_
                    refine Wp.seq ?_
                    refine Wp.region ?_
                    refine Ops.pv (pv_assign rfl) rfl ?_
                    refine Ops.nil ?_
                    refine Ends.seq ?_
                    refine Wp.ret ?_
                    refine Ends.then_ret ?_
                    exact Ends.ret (res1 rfl rfl) ⟨by first | (rw [check_bad (by omega)]; done) | (rw [check_ok hr (by omega) (by unfold dOk; omega)]; done) | (rw [check_no hr (by omega) (by unfold dOk; omega)]; done), rfl⟩
                · refine Wp.skip ?_
                  refine Ends.seq ?_
                  refine Wp.seq ?_
                  refine Wp.seq ?_
                  refine Wp.region ?_
                  first | refine Ops.pv (pv_fieldAddr0 rfl rfl) rfl ?_ | refine Ops.pv (pv_fieldAddr rfl rfl) rfl ?_
                  first | refine Ops.pv (pv_load rfl rfl rfl) rfl ?_ | refine Ops.pv (pv_load rfl rfl (by assumption)) rfl ?_
                  refine Ops.pv (pv_neq rfl rfl) rfl ?_
                  refine Ops.nil ?_
                  refine Ends.seq ?_
                  first | refine Wp.cond_dect rfl (fun h40 => ?_) (fun h40 => ?_) | refine Wp.cond_t rfl (fun h40 => ?_) (fun h40 => ?_)
                  · refine Wp.region ?_
                    refine Ops.pv (pv_move rfl) rfl ?_
                    refine Ops.pv (pv_move rfl) rfl ?_
                    refine Ops.skipg ⟨_, _, rfl, rfl, rfl⟩ rfl ?_
                    refine Ops.skipg ⟨_, _, rfl, rfl, rfl⟩ rfl ?_
                    refine Ops.skipg ⟨_, _, rfl, rfl, rfl⟩ rfl ?_
                    refine Ops.pv (pv_pick_false rfl rfl) rfl ?_
                    refine Ops.pv (pv_assign rfl) rfl ?_
                    refine Ops.nil ?_
                    refine Ends.seq ?_
                    refine Wp.seq ?_
                    refine Wp.seq ?_
                    refine Wp.region ?_
                    refine Ops.pv (pv_move rfl) rfl ?_
                    first | refine Ops.pv (pv_not_dec rfl) rfl ?_ | refine Ops.pv (pv_not rfl) rfl ?_
                    refine Ops.nil ?_
                    refine Ends.seq ?_
                    refine Wp.cond_true rfl ?_
                    refine Wp.seq ?_
                    refine Wp.region ?_
                    refine Ops.pv (pv_assign rfl) rfl ?_
                    refine Ops.nil ?_
                    refine Ends.seq ?_
                    refine Wp.ret ?_
                    refine Ends.then_ret ?_
                    exact Ends.ret (res1 rfl rfl) ⟨by first | (rw [check_bad (by omega)]; done) | (rw [check_ok hr (by omega) (by unfold dOk; omega)]; done) | (rw [check_no hr (by omega) (by unfold dOk; omega)]; done), rfl⟩
                  · refine Wp.skip ?_
                    refine Ends.seq ?_
                    refine Wp.seq ?_
                    refine Wp.seq ?_
                    refine Wp.region ?_
                    refine Ops.pv (pv_move rfl) rfl ?_
                    first | refine Ops.pv (pv_not_dec rfl) rfl ?_ | refine Ops.pv (pv_not rfl) rfl ?_
                    refine Ops.nil ?_
                    refine Ends.seq ?_
                    refine Wp.cond_true rfl ?_
                    refine Wp.seq ?_
                    refine Wp.region ?_
                    refine Ops.pv (pv_assign rfl) rfl ?_
                    refine Ops.nil ?_
                    refine Ends.seq ?_
                    refine Wp.ret ?_
                    refine Ends.then_ret ?_
                    exact Ends.ret (res1 rfl rfl) ⟨by first | (rw [check_bad (by omega)]; done) | (rw [check_ok hr (by omega) (by unfold dOk; omega)]; done) | (rw [check_no hr (by omega) (by unfold dOk; omega)]; done), rfl⟩
            · refine Wp.skip ?_
              refine Ends.seq ?_
              refine Wp.seq ?_
              refine Wp.seq ?_
              refine Wp.region ?_
              first | refine Ops.pv (pv_fieldAddr0 rfl rfl) rfl ?_ | refine Ops.pv (pv_fieldAddr rfl rfl) rfl ?_
              first | refine Ops.pv (pv_load rfl rfl rfl) rfl ?_ | refine Ops.pv (pv_load rfl rfl (by assumption)) rfl ?_
              refine Ops.ef rfl (ef_callr (tr_badged c.kind) rfl rfl) ?_
              rintro _ _ ⟨rfl, rfl⟩
              first | refine Ops.pv (pv_not_dec rfl) rfl ?_ | refine Ops.pv (pv_not rfl) rfl ?_
              refine Ops.nil ?_
              refine Ends.seq ?_
              first | refine Wp.cond_dect rfl (fun h41 => ?_) (fun h41 => ?_) | refine Wp.cond_t rfl (fun h41 => ?_) (fun h41 => ?_)
              · refine Wp.region ?_
                refine Ops.pv (pv_move rfl) rfl ?_
                refine Ops.pv (pv_move rfl) rfl ?_
                first | refine Ops.split (t := 66) rfl (fun h42 => ?_) (fun h42 => ?_) | refine Ops.splitb (t := 66) rfl (fun h42 => ?_) (fun h42 => ?_)
                · first | refine Ops.pvg ⟨_, _, rfl, rfl, rfl⟩ (pv_fieldAddr0 rfl rfl) rfl ?_ | refine Ops.pvg ⟨_, _, rfl, rfl, rfl⟩ (pv_fieldAddr rfl rfl) rfl ?_
                  first | refine Ops.pvg ⟨_, _, rfl, rfl, rfl⟩ (pv_load rfl rfl rfl) rfl ?_ | refine Ops.pvg ⟨_, _, rfl, rfl, rfl⟩ (pv_load rfl rfl (by assumption)) rfl ?_
                  refine Ops.pvg ⟨_, _, rfl, rfl, rfl⟩ (pv_eql rfl rfl) rfl ?_
                  refine Ops.pv (pv_pick_true rfl rfl) rfl ?_
                  refine Ops.pv (pv_assign rfl) rfl ?_
                  refine Ops.nil ?_
                  refine Ends.seq ?_
                  refine Wp.seq ?_
                  refine Wp.seq ?_
                  refine Wp.region ?_
                  first | refine Ops.pv (pv_fieldAddr0 rfl rfl) rfl ?_ | refine Ops.pv (pv_fieldAddr rfl rfl) rfl ?_
                  first | refine Ops.pv (pv_load rfl rfl rfl) rfl ?_ | refine Ops.pv (pv_load rfl rfl (by assumption)) rfl ?_
                  refine Ops.pv (pv_neq rfl rfl) rfl ?_
                  refine Ops.nil ?_
                  refine Ends.seq ?_
                  first | refine Wp.cond_dect rfl (fun h43 => ?_) (fun h43 => ?_) | refine Wp.cond_t rfl (fun h43 => ?_) (fun h43 => ?_)
                  · refine Wp.region ?_
                    refine Ops.pv (pv_move rfl) rfl ?_
                    refine Ops.pv (pv_move rfl) rfl ?_
                    first | refine Ops.pvc rfl rfl (fun hg => pv_fieldAddr0 rfl rfl) rfl ?_ | refine Ops.pvc rfl rfl (fun hg => pv_fieldAddr rfl rfl) rfl ?_
                    first | refine Ops.pvc rfl rfl (fun hg => Pv.setE (t := 76) rfl (cv_pos hg) (pv_load rfl rfl rfl)) rfl ?_ | refine Ops.pvc rfl rfl (fun hg => Pv.setE (t := 76) rfl (cv_pos hg) (pv_load rfl rfl (by assumption))) rfl ?_
                    refine Ops.pvc rfl rfl (fun hg => Pv.setE (t := 76) rfl (cv_pos hg) (Pv.setE (t := 77) rfl (cv_pos hg) (pv_eql rfl rfl))) rfl ?_
                    refine Ops.pv (pv_pick_and rfl rfl) rfl ?_
                    refine Ops.pv (pv_assign rfl) rfl ?_
                    refine Ops.nil ?_
                    refine Ends.seq ?_
                    refine Wp.seq ?_
                    refine Wp.seq ?_
                    refine Wp.region ?_
                    refine Ops.pv (pv_move rfl) rfl ?_
                    first | refine Ops.pv (pv_not_dec rfl) rfl ?_ | refine Ops.pv (pv_not rfl) rfl ?_
                    refine Ops.nil ?_
                    refine Ends.seq ?_
                    first | refine Wp.cond_dect rfl (fun h44 => ?_) (fun h44 => ?_) | refine Wp.cond_t rfl (fun h44 => ?_) (fun h44 => ?_)
                    · refine Wp.seq ?_
                      refine Wp.region ?_
                      refine Ops.pv (pv_assign rfl) rfl ?_
                      refine Ops.nil ?_
                      refine Ends.seq ?_
                      refine Wp.ret ?_
                      refine Ends.then_ret ?_
                      exact Ends.ret (res1 rfl rfl) ⟨by first | (rw [check_bad (by omega)]; done) | (rw [check_ok hr (by omega) (by unfold dOk; omega)]; done) | (rw [check_no hr (by omega) (by unfold dOk; omega)]; done), rfl⟩
                    · refine Wp.skip ?_
                      refine Ends.seq ?_
                      refine Wp.seq ?_
                      refine Wp.region ?_
                      refine Ops.pv (pv_assign rfl) rfl ?_
                      refine Ops.nil ?_
                      refine Ends.seq ?_
                      refine Wp.ret ?_
                      exact Ends.ret (res1 rfl rfl) ⟨by first | (rw [check_bad (by omega)]; done) | (rw [check_ok hr (by omega) (by unfold dOk; omega)]; done) | (rw [check_no hr (by omega) (by unfold dOk; omega)]; done), rfl⟩
                  · refine Wp.skip ?_
                    refine Ends.seq ?_
                    refine Wp.seq ?_
                    refine Wp.seq ?_
                    refine Wp.region ?_
                    refine Ops.pv (pv_move rfl) rfl ?_
                    first | refine Ops.pv (pv_not_dec rfl) rfl ?_ | refine Ops.pv (pv_not rfl) rfl ?_
                    refine Ops.nil ?_
                    refine Ends.seq ?_
                    first | refine Wp.cond_dect rfl (fun h45 => ?_) (fun h45 => ?_) | refine Wp.cond_t rfl (fun h45 => ?_) (fun h45 => ?_)
                    · refine Wp.seq ?_
                      refine Wp.region ?_
                      refine Ops.pv (pv_assign rfl) rfl ?_
                      refine Ops.nil ?_
                      refine Ends.seq ?_
                      refine Wp.ret ?_
                      refine Ends.then_ret ?_
                      exact Ends.ret (res1 rfl rfl) ⟨by first | (rw [check_bad (by omega)]; done) | (rw [check_ok hr (by omega) (by unfold dOk; omega)]; done) | (rw [check_no hr (by omega) (by unfold dOk; omega)]; done), rfl⟩
                    · refine Wp.skip ?_
                      refine Ends.seq ?_
                      refine Wp.seq ?_
                      refine Wp.region ?_
                      refine Ops.pv (pv_assign rfl) rfl ?_
                      refine Ops.nil ?_
                      refine Ends.seq ?_
                      refine Wp.ret ?_
                      exact Ends.ret (res1 rfl rfl) ⟨by first | (rw [check_bad (by omega)]; done) | (rw [check_ok hr (by omega) (by unfold dOk; omega)]; done) | (rw [check_no hr (by omega) (by unfold dOk; omega)]; done), rfl⟩
                · refine Ops.skipg ⟨_, _, rfl, rfl, rfl⟩ rfl ?_
                  refine Ops.skipg ⟨_, _, rfl, rfl, rfl⟩ rfl ?_
                  refine Ops.skipg ⟨_, _, rfl, rfl, rfl⟩ rfl ?_
                  refine Ops.pv (pv_pick_false rfl rfl) rfl ?_
                  refine Ops.pv (pv_assign rfl) rfl ?_
                  refine Ops.nil ?_
                  refine Ends.seq ?_
                  refine Wp.seq ?_
                  refine Wp.seq ?_
                  refine Wp.region ?_
                  first | refine Ops.pv (pv_fieldAddr0 rfl rfl) rfl ?_ | refine Ops.pv (pv_fieldAddr rfl rfl) rfl ?_
                  first | refine Ops.pv (pv_load rfl rfl rfl) rfl ?_ | refine Ops.pv (pv_load rfl rfl (by assumption)) rfl ?_
                  refine Ops.pv (pv_neq rfl rfl) rfl ?_
                  refine Ops.nil ?_
                  refine Ends.seq ?_
                  first | refine Wp.cond_dect rfl (fun h46 => ?_) (fun h46 => ?_) | refine Wp.cond_t rfl (fun h46 => ?_) (fun h46 => ?_)
                  · refine Wp.region ?_
                    refine Ops.pv (pv_move rfl) rfl ?_
                    refine Ops.pv (pv_move rfl) rfl ?_
                    refine Ops.skipg ⟨_, _, rfl, rfl, rfl⟩ rfl ?_
                    refine Ops.skipg ⟨_, _, rfl, rfl, rfl⟩ rfl ?_
                    refine Ops.skipg ⟨_, _, rfl, rfl, rfl⟩ rfl ?_
                    refine Ops.pv (pv_pick_false rfl rfl) rfl ?_
                    refine Ops.pv (pv_assign rfl) rfl ?_
                    refine Ops.nil ?_
                    refine Ends.seq ?_
                    refine Wp.seq ?_
                    refine Wp.seq ?_
                    refine Wp.region ?_
                    refine Ops.pv (pv_move rfl) rfl ?_
                    first | refine Ops.pv (pv_not_dec rfl) rfl ?_ | refine Ops.pv (pv_not rfl) rfl ?_
                    refine Ops.nil ?_
                    refine Ends.seq ?_
                    refine Wp.cond_true rfl ?_
                    refine Wp.seq ?_
                    refine Wp.region ?_
                    refine Ops.pv (pv_assign rfl) rfl ?_
                    refine Ops.nil ?_
                    refine Ends.seq ?_
                    refine Wp.ret ?_
                    refine Ends.then_ret ?_
                    exact Ends.ret (res1 rfl rfl) ⟨by first | (rw [check_bad (by omega)]; done) | (rw [check_ok hr (by omega) (by unfold dOk; omega)]; done) | (rw [check_no hr (by omega) (by unfold dOk; omega)]; done), rfl⟩
                  · refine Wp.skip ?_
                    refine Ends.seq ?_
                    refine Wp.seq ?_
                    refine Wp.seq ?_
                    refine Wp.region ?_
                    refine Ops.pv (pv_move rfl) rfl ?_
                    first | refine Ops.pv (pv_not_dec rfl) rfl ?_ | refine Ops.pv (pv_not rfl) rfl ?_
                    refine Ops.nil ?_
                    refine Ends.seq ?_
                    refine Wp.cond_true rfl ?_
                    refine Wp.seq ?_
                    refine Wp.region ?_
                    refine Ops.pv (pv_assign rfl) rfl ?_
                    refine Ops.nil ?_
                    refine Ends.seq ?_
                    refine Wp.ret ?_
                    refine Ends.then_ret ?_
                    exact Ends.ret (res1 rfl rfl) ⟨by first | (rw [check_bad (by omega)]; done) | (rw [check_ok hr (by omega) (by unfold dOk; omega)]; done) | (rw [check_no hr (by omega) (by unfold dOk; omega)]; done), rfl⟩
              · refine Wp.skip ?_
                refine Ends.seq ?_
                refine Wp.seq ?_
                refine Wp.seq ?_
                refine Wp.region ?_
                first | refine Ops.pv (pv_fieldAddr0 rfl rfl) rfl ?_ | refine Ops.pv (pv_fieldAddr rfl rfl) rfl ?_
                first | refine Ops.pv (pv_load rfl rfl rfl) rfl ?_ | refine Ops.pv (pv_load rfl rfl (by assumption)) rfl ?_
                refine Ops.pv (pv_neq rfl rfl) rfl ?_
                refine Ops.nil ?_
                refine Ends.seq ?_
                first | refine Wp.cond_dect rfl (fun h47 => ?_) (fun h47 => ?_) | refine Wp.cond_t rfl (fun h47 => ?_) (fun h47 => ?_)
                · refine Wp.region ?_
                  refine Ops.pv (pv_move rfl) rfl ?_
                  refine Ops.pv (pv_move rfl) rfl ?_
                  first | refine Ops.split (t := 75) rfl (fun h48 => ?_) (fun h48 => ?_) | refine Ops.splitb (t := 75) rfl (fun h48 => ?_) (fun h48 => ?_)
                  · first | refine Ops.pvg ⟨_, _, rfl, rfl, rfl⟩ (pv_fieldAddr0 rfl rfl) rfl ?_ | refine Ops.pvg ⟨_, _, rfl, rfl, rfl⟩ (pv_fieldAddr rfl rfl) rfl ?_
                    first | refine Ops.pvg ⟨_, _, rfl, rfl, rfl⟩ (pv_load rfl rfl rfl) rfl ?_ | refine Ops.pvg ⟨_, _, rfl, rfl, rfl⟩ (pv_load rfl rfl (by assumption)) rfl ?_
                    refine Ops.pvg ⟨_, _, rfl, rfl, rfl⟩ (pv_eql rfl rfl) rfl ?_
                    refine Ops.pv (pv_pick_true rfl rfl) rfl ?_
                    refine Ops.pv (pv_assign rfl) rfl ?_
                    refine Ops.nil ?_
                    refine Ends.seq ?_
                    refine Wp.seq ?_
                    refine Wp.seq ?_
                    refine Wp.region ?_
                    refine Ops.pv (pv_move rfl) rfl ?_
                    first | refine Ops.pv (pv_not_dec rfl) rfl ?_ | refine Ops.pv (pv_not rfl) rfl ?_
                    refine Ops.nil ?_
                    refine Ends.seq ?_
                    first | refine Wp.cond_dect rfl (fun h49 => ?_) (fun h49 => ?_) | refine Wp.cond_t rfl (fun h49 => ?_) (fun h49 => ?_)
                    · refine Wp.seq ?_
                      refine Wp.region ?_
                      refine Ops.pv (pv_assign rfl) rfl ?_
                      refine Ops.nil ?_
                      refine Ends.seq ?_
                      refine Wp.ret ?_
                      refine Ends.then_ret ?_
                      exact Ends.ret (res1 rfl rfl) ⟨by first | (rw [check_bad (by omega)]; done) | (rw [check_ok hr (by omega) (by unfold dOk; omega)]; done) | (rw [check_no hr (by omega) (by unfold dOk; omega)]; done), rfl⟩
                    · refine Wp.skip ?_
                      refine Ends.seq ?_
                      refine Wp.seq ?_
                      refine Wp.region ?_
                      refine Ops.pv (pv_assign rfl) rfl ?_
                      refine Ops.nil ?_
                      refine Ends.seq ?_
                      refine Wp.ret ?_
                      exact Ends.ret (res1 rfl rfl) ⟨by first | (rw [check_bad (by omega)]; done) | (rw [check_ok hr (by omega) (by unfold dOk; omega)]; done) | (rw [check_no hr (by omega) (by unfold dOk; omega)]; done), rfl⟩
                  · refine Ops.skipg ⟨_, _, rfl, rfl, rfl⟩ rfl ?_
                    refine Ops.skipg ⟨_, _, rfl, rfl, rfl⟩ rfl ?_
                    refine Ops.skipg ⟨_, _, rfl, rfl, rfl⟩ rfl ?_
                    refine Ops.pv (pv_pick_false rfl rfl) rfl ?_
                    refine Ops.pv (pv_assign rfl) rfl ?_
                    refine Ops.nil ?_
                    refine Ends.seq ?_
                    refine Wp.seq ?_
                    refine Wp.seq ?_
                    refine Wp.region ?_
                    refine Ops.pv (pv_move rfl) rfl ?_
                    first | refine Ops.pv (pv_not_dec rfl) rfl ?_ | refine Ops.pv (pv_not rfl) rfl ?_
                    refine Ops.nil ?_
                    refine Ends.seq ?_
                    refine Wp.cond_true rfl ?_
                    refine Wp.seq ?_
                    refine Wp.region ?_
                    refine Ops.pv (pv_assign rfl) rfl ?_
                    refine Ops.nil ?_
                    refine Ends.seq ?_
                    refine Wp.ret ?_
                    refine Ends.then_ret ?_
                    exact Ends.ret (res1 rfl rfl) ⟨by first | (rw [check_bad (by omega)]; done) | (rw [check_ok hr (by omega) (by unfold dOk; omega)]; done) | (rw [check_no hr (by omega) (by unfold dOk; omega)]; done), rfl⟩
                · refine Wp.skip ?_
                  refine Ends.seq ?_
                  refine Wp.seq ?_
                  refine Wp.seq ?_
                  refine Wp.region ?_
                  refine Ops.pv (pv_move rfl) rfl ?_
                  first | refine Ops.pv (pv_not_dec rfl) rfl ?_ | refine Ops.pv (pv_not rfl) rfl ?_
                  refine Ops.nil ?_
                  refine Ends.seq ?_
                  first | refine Wp.cond_dect rfl (fun h50 => ?_) (fun h50 => ?_) | refine Wp.cond_t rfl (fun h50 => ?_) (fun h50 => ?_)
                  · refine Wp.seq ?_
                    refine Wp.region ?_
                    refine Ops.pv (pv_assign rfl) rfl ?_
                    refine Ops.nil ?_
                    refine Ends.seq ?_
                    refine Wp.ret ?_
                    refine Ends.then_ret ?_
                    exact Ends.ret (res1 rfl rfl) ⟨by first | (rw [check_bad (by omega)]; done) | (rw [check_ok hr (by omega) (by unfold dOk; omega)]; done) | (rw [check_no hr (by omega) (by unfold dOk; omega)]; done), rfl⟩
                  · refine Wp.skip ?_
                    refine Ends.seq ?_
                    refine Wp.seq ?_
                    refine Wp.region ?_
                    refine Ops.pv (pv_assign rfl) rfl ?_
                    refine Ops.nil ?_
                    refine Ends.seq ?_
                    refine Wp.ret ?_
                    exact Ends.ret (res1 rfl rfl) ⟨by first | (rw [check_bad (by omega)]; done) | (rw [check_ok hr (by omega) (by unfold dOk; omega)]; done) | (rw [check_no hr (by omega) (by unfold dOk; omega)]; done), rfl⟩
        · refine Ops.skipg ⟨_, _, rfl, rfl, rfl⟩ rfl ?_
          refine Ops.skipg ⟨_, _, rfl, rfl, rfl⟩ rfl ?_
          refine Ops.skipg ⟨_, _, rfl, rfl, rfl⟩ rfl ?_
          refine Ops.skipg ⟨_, _, rfl, rfl, rfl⟩ rfl ?_
          refine Ops.skipg ⟨_, _, rfl, rfl, rfl⟩ rfl ?_
          refine Ops.pv (pv_pick_false rfl rfl) rfl ?_
          refine Ops.pv (pv_assign rfl) rfl ?_
          refine Ops.nil ?_
          refine Ends.seq ?_
          refine Wp.seq ?_
          refine Wp.seq ?_
          refine Wp.region ?_
          first | refine Ops.pv (pv_fieldAddr0 rfl rfl) rfl ?_ | refine Ops.pv (pv_fieldAddr rfl rfl) rfl ?_
          first | refine Ops.pv (pv_load rfl rfl rfl) rfl ?_ | refine Ops.pv (pv_load rfl rfl (by assumption)) rfl ?_
          refine Ops.pv (pv_eql rfl rfl) rfl ?_
          refine Ops.pv (pv_move rfl) rfl ?_
          first | refine Ops.pvcn rfl rfl (fun hg => pv_fieldAddr0 rfl rfl) rfl ?_ | refine Ops.pvcn rfl rfl (fun hg => pv_fieldAddr rfl rfl) rfl ?_
          first | refine Ops.pvcn rfl rfl (fun hg => Pv.setE (t := 41) rfl (cv_pos hg) (pv_load rfl rfl rfl)) rfl ?_ | refine Ops.pvcn rfl rfl (fun hg => Pv.setE (t := 41) rfl (cv_pos hg) (pv_load rfl rfl (by assumption))) rfl ?_
          refine Ops.pvcn rfl rfl (fun hg => Pv.setE (t := 41) rfl (cv_pos hg) (Pv.setE (t := 42) rfl (cv_pos hg) (pv_eql rfl rfl))) rfl ?_
          refine Ops.pv (pv_pick_or rfl rfl) rfl ?_
          refine Ops.nil ?_
          refine Ends.seq ?_
          first | refine Wp.cond_dect rfl (fun h51 => ?_) (fun h51 => ?_) | refine Wp.cond_t rfl (fun h51 => ?_) (fun h51 => ?_)
          · refine Wp.region ?_
            refine Ops.pv (pv_move rfl) rfl ?_
            refine Ops.pv (pv_move rfl) rfl ?_
            refine Ops.skipg ⟨_, _, rfl, rfl, rfl⟩ rfl ?_
            refine Ops.skipg ⟨_, _, rfl, rfl, rfl⟩ rfl ?_
            refine Ops.skipg ⟨_, _, rfl, rfl, rfl⟩ rfl ?_
            refine Ops.pv (pv_pick_false rfl rfl) rfl ?_
            refine Ops.pv (pv_assign rfl) rfl ?_
            refine Ops.nil ?_
            refine Ends.seq ?_
            refine Wp.seq ?_
            refine Wp.seq ?_
            refine Wp.region ?_
            first | refine Ops.pv (pv_fieldAddr0 rfl rfl) rfl ?_ | refine Ops.pv (pv_fieldAddr rfl rfl) rfl ?_
            first | refine Ops.pv (pv_load rfl rfl rfl) rfl ?_ | refine Ops.pv (pv_load rfl rfl (by assumption)) rfl ?_
            refine Ops.ef rfl (ef_callr (tr_righted c.kind) rfl rfl) ?_
            rintro _ _ ⟨rfl, rfl⟩
            first | refine Ops.pv (pv_not_dec rfl) rfl ?_ | refine Ops.pv (pv_not rfl) rfl ?_
            refine Ops.nil ?_
            refine Ends.seq ?_
            first | refine Wp.cond_dect rfl (fun h52 => ?_) (fun h52 => ?_) | refine Wp.cond_t rfl (fun h52 => ?_) (fun h52 => ?_)
            · refine Wp.region ?_
              refine Ops.pv (pv_move rfl) rfl ?_
              refine Ops.pv (pv_move rfl) rfl ?_
              refine Ops.skipg ⟨_, _, rfl, rfl, rfl⟩ rfl ?_
              refine Ops.skipg ⟨_, _, rfl, rfl, rfl⟩ rfl ?_
              refine Ops.skipg ⟨_, _, rfl, rfl, rfl⟩ rfl ?_
              refine Ops.pv (pv_pick_false rfl rfl) rfl ?_
              refine Ops.pv (pv_assign rfl) rfl ?_
              refine Ops.nil ?_
              refine Ends.seq ?_
              refine Wp.seq ?_
              refine Wp.seq ?_
              refine Wp.region ?_
              first | refine Ops.pv (pv_fieldAddr0 rfl rfl) rfl ?_ | refine Ops.pv (pv_fieldAddr rfl rfl) rfl ?_
              first | refine Ops.pv (pv_load rfl rfl rfl) rfl ?_ | refine Ops.pv (pv_load rfl rfl (by assumption)) rfl ?_
              refine Ops.ef rfl (ef_callr (tr_badged c.kind) rfl rfl) ?_
              rintro _ _ ⟨rfl, rfl⟩
              first | refine Ops.pv (pv_not_dec rfl) rfl ?_ | refine Ops.pv (pv_not rfl) rfl ?_
              refine Ops.nil ?_
              refine Ends.seq ?_
              first | refine Wp.cond_dect rfl (fun h53 => ?_) (fun h53 => ?_) | refine Wp.cond_t rfl (fun h53 => ?_) (fun h53 => ?_)
              · refine Wp.region ?_
                refine Ops.pv (pv_move rfl) rfl ?_
                refine Ops.pv (pv_move rfl) rfl ?_
                refine Ops.skipg ⟨_, _, rfl, rfl, rfl⟩ rfl ?_
                refine Ops.skipg ⟨_, _, rfl, rfl, rfl⟩ rfl ?_
                refine Ops.skipg ⟨_, _, rfl, rfl, rfl⟩ rfl ?_
                refine Ops.pv (pv_pick_false rfl rfl) rfl ?_
                refine Ops.pv (pv_assign rfl) rfl ?_
                refine Ops.nil ?_
                refine Ends.seq ?_
                refine Wp.seq ?_
                refine Wp.seq ?_
                refine Wp.region ?_
                first | refine Ops.pv (pv_fieldAddr0 rfl rfl) rfl ?_ | refine Ops.pv (pv_fieldAddr rfl rfl) rfl ?_
                first | refine Ops.pv (pv_load rfl rfl rfl) rfl ?_ | refine Ops.pv (pv_load rfl rfl (by assumption)) rfl ?_
                refine Ops.pv (pv_neq rfl rfl) rfl ?_
                refine Ops.nil ?_
                refine Ends.seq ?_
                first | refine Wp.cond_dect rfl (fun h54 => ?_) (fun h54 => ?_) | refine Wp.cond_t rfl (fun h54 => ?_) (fun h54 => ?_)
                · refine Wp.region ?_
                  refine Ops.pv (pv_move rfl) rfl ?_
                  refine Ops.pv (pv_move rfl) rfl ?_
                  refine Ops.skipg ⟨_, _, rfl, rfl, rfl⟩ rfl ?_
                  refine Ops.skipg ⟨_, _, rfl, rfl, rfl⟩ rfl ?_
                  refine Ops.skipg ⟨_, _, rfl, rfl, rfl⟩ rfl ?_
                  refine Ops.pv (pv_pick_false rfl rfl) rfl ?_
                  refine Ops.pv (pv_assign rfl) rfl ?_
                  refine Ops.nil ?_
                  refine Ends.seq ?_
                  refine Wp.seq ?_
                  refine Wp.seq ?_
                  refine Wp.region ?_
                  refine Ops.pv (pv_move rfl) rfl ?_
                  first | refine Ops.pv (pv_not_dec rfl) rfl ?_ | refine Ops.pv (pv_not rfl) rfl ?_
                  refine Ops.nil ?_
                  refine Ends.seq ?_
                  refine Wp.cond_true rfl ?_
                  refine Wp.seq ?_
                  refine Wp.region ?_
                  refine Ops.pv (pv_assign rfl) rfl ?_
                  refine Ops.nil ?_
                  refine Ends.seq ?_
                  refine Wp.ret ?_
                  refine Ends.then_ret ?_
                  exact Ends.ret (res1 rfl rfl) ⟨by first | (rw [check_bad (by omega)]; done) | (rw [check_ok hr (by omega) (by unfold dOk; omega)]; done) | (rw [check_no hr (by omega) (by unfold dOk; omega)]; done), rfl⟩
                · refine Wp.skip ?_
                  refine Ends.seq ?_
                  refine Wp.seq ?_
                  refine Wp.seq ?_
                  refine Wp.region ?_
                  refine Ops.pv (pv_move rfl) rfl ?_
                  first | refine Ops.pv (pv_not_dec rfl) rfl ?_ | refine Ops.pv (pv_not rfl) rfl ?_
                  refine Ops.nil ?_
                  refine Ends.seq ?_
                  refine Wp.cond_true rfl ?_
                  refine Wp.seq ?_
                  refine Wp.region ?_
                  refine Ops.pv (pv_assign rfl) rfl ?_
                  refine Ops.nil ?_
                  refine Ends.seq ?_
                  refine Wp.ret ?_
                  refine Ends.then_ret ?_
                  exact Ends.ret (res1 rfl rfl) ⟨by first | (rw [check_bad (by omega)]; done) | (rw [check_ok hr (by omega) (by unfold dOk; omega)]; done) | (rw [check_no hr (by omega) (by unfold dOk; omega)]; done), rfl⟩
              · refine Wp.skip ?_
                refine Ends.seq ?_
                refine Wp.seq ?_
                refine Wp.seq ?_
                refine Wp.region ?_
                first | refine Ops.pv (pv_fieldAddr0 rfl rfl) rfl ?_ | refine Ops.pv (pv_fieldAddr rfl rfl) rfl ?_
                first | refine Ops.pv (pv_load rfl rfl rfl) rfl ?_ | refine Ops.pv (pv_load rfl rfl (by assumption)) rfl ?_
                refine Ops.pv (pv_neq rfl rfl) rfl ?_
                refine Ops.nil ?_
                refine Ends.seq ?_
                first | refine Wp.cond_dect rfl (fun h55 => ?_) (fun h55 => ?_) | refine Wp.cond_t rfl (fun h55 => ?_) (fun h55 => ?_)
                · refine Wp.region ?_
                  refine Ops.pv (pv_move rfl) rfl ?_
                  refine Ops.pv (pv_move rfl) rfl ?_
                  refine Ops.skipg ⟨_, _, rfl, rfl, rfl⟩ rfl ?_
                  refine Ops.skipg ⟨_, _, rfl, rfl, rfl⟩ rfl ?_
                  refine Ops.skipg ⟨_, _, rfl, rfl, rfl⟩ rfl ?_
                  refine Ops.pv (pv_pick_false rfl rfl) rfl ?_
                  refine Ops.pv (pv_assign rfl) rfl ?_
                  refine Ops.nil ?_
                  refine Ends.seq ?_
                  refine Wp.seq ?_
                  refine Wp.seq ?_
                  refine Wp.region ?_
                  refine Ops.pv (pv_move rfl) rfl ?_
                  first | refine Ops.pv (pv_not_dec rfl) rfl ?_ | refine Ops.pv (pv_not rfl) rfl ?_
                  refine Ops.nil ?_
                  refine Ends.seq ?_
                  refine Wp.cond_true rfl ?_
                  refine Wp.seq ?_
                  refine Wp.region ?_
                  refine Ops.pv (pv_assign rfl) rfl ?_
                  refine Ops.nil ?_
                  refine Ends.seq ?_
                  refine Wp.ret ?_
                  refine Ends.then_ret ?_
                  exact Ends.ret (res1 rfl rfl) ⟨by first | (rw [check_bad (by omega)]; done) | (rw [check_ok hr (by omega) (by unfold dOk; omega)]; done) | (rw [check_no hr (by omega) (by unfold dOk; omega)]; done), rfl⟩
                · refine Wp.skip ?_
                  refine Ends.seq ?_
                  refine Wp.seq ?_
                  refine Wp.seq ?_
                  refine Wp.region ?_
                  refine Ops.pv (pv_move rfl) rfl ?_
                  first | refine Ops.pv (pv_not_dec rfl) rfl ?_ | refine Ops.pv (pv_not rfl) rfl ?_
                  refine Ops.nil ?_
                  refine Ends.seq ?_
                  refine Wp.cond_true rfl ?_
                  refine Wp.seq ?_
                  refine Wp.region ?_
                  refine Ops.pv (pv_assign rfl) rfl ?_
                  refine Ops.nil ?_
                  refine Ends.seq ?_
                  refine Wp.ret ?_
                  refine Ends.then_ret ?_
                  exact Ends.ret (res1 rfl rfl) ⟨by first | (rw [check_bad (by omega)]; done) | (rw [check_ok hr (by omega) (by unfold dOk; omega)]; done) | (rw [check_no hr (by omega) (by unfold dOk; omega)]; done), rfl⟩
            · refine Wp.skip ?_
              refine Ends.seq ?_
              refine Wp.seq ?_
              refine Wp.seq ?_
              refine Wp.region ?_
              first | refine Ops.pv (pv_fieldAddr0 rfl rfl) rfl ?_ | refine Ops.pv (pv_fieldAddr rfl rfl) rfl ?_
              first | refine Ops.pv (pv_load rfl rfl rfl) rfl ?_ | refine Ops.pv (pv_load rfl rfl (by assumption)) rfl ?_
              refine Ops.ef rfl (ef_callr (tr_badged c.kind) rfl rfl) ?_
              rintro _ _ ⟨rfl, rfl⟩
              first | refine Ops.pv (pv_not_dec rfl) rfl ?_ | refine Ops.pv (pv_not rfl) rfl ?_
              refine Ops.nil ?_
              refine Ends.seq ?_
              first | refine Wp.cond_dect rfl (fun h56 => ?_) (fun h56 => ?_) | refine Wp.cond_t rfl (fun h56 => ?_) (fun h56 => ?_)
              · refine Wp.region ?_
                refine Ops.pv (pv_move rfl) rfl ?_
                refine Ops.pv (pv_move rfl) rfl ?_
                refine Ops.skipg ⟨_, _, rfl, rfl, rfl⟩ rfl ?_
                refine Ops.skipg ⟨_, _, rfl, rfl, rfl⟩ rfl ?_
                refine Ops.skipg ⟨_, _, rfl, rfl, rfl⟩ rfl ?_
                refine Ops.pv (pv_pick_false rfl rfl) rfl ?_
                refine Ops.pv (pv_assign rfl) rfl ?_
                refine Ops.nil ?_
                refine Ends.seq ?_
                refine Wp.seq ?_
                refine Wp.seq ?_
                refine Wp.region ?_
                first | refine Ops.pv (pv_fieldAddr0 rfl rfl) rfl ?_ | refine Ops.pv (pv_fieldAddr rfl rfl) rfl ?_
                first | refine Ops.pv (pv_load rfl rfl rfl) rfl ?_ | refine Ops.pv (pv_load rfl rfl (by assumption)) rfl ?_
                refine Ops.pv (pv_neq rfl rfl) rfl ?_
                refine Ops.nil ?_
                refine Ends.seq ?_
                first | refine Wp.cond_dect rfl (fun h57 => ?_) (fun h57 => ?_) | refine Wp.cond_t rfl (fun h57 => ?_) (fun h57 => ?_)
                · refine Wp.region ?_
                  refine Ops.pv (pv_move rfl) rfl ?_
                  refine Ops.pv (pv_move rfl) rfl ?_
                  refine Ops.skipg ⟨_, _, rfl, rfl, rfl⟩ rfl ?_
                  refine Ops.skipg ⟨_, _, rfl, rfl, rfl⟩ rfl ?_
                  refine Ops.skipg ⟨_, _, rfl, rfl, rfl⟩ rfl ?_
                  refine Ops.pv (pv_pick_false rfl rfl) rfl ?_
                  refine Ops.pv (pv_assign rfl) rfl ?_
                  refine Ops.nil ?_
                  refine Ends.seq ?_
                  refine Wp.seq ?_
                  refine Wp.seq ?_
                  refine Wp.region ?_
                  refine Ops.pv (pv_move rfl) rfl ?_
                  first | refine Ops.pv (pv_not_dec rfl) rfl ?_ | refine Ops.pv (pv_not rfl) rfl ?_
                  refine Ops.nil ?_
                  refine Ends.seq ?_
                  refine Wp.cond_true rfl ?_
                  refine Wp.seq ?_
                  refine Wp.region ?_
                  refine Ops.pv (pv_assign rfl) rfl ?_
                  refine Ops.nil ?_
                  refine Ends.seq ?_
                  refine Wp.ret ?_
                  refine Ends.then_ret ?_
                  exact Ends.ret (res1 rfl rfl) ⟨by first | (rw [check_bad (by omega)]; done) | (rw [check_ok hr (by omega) (by unfold dOk; omega)]; done) | (rw [check_no hr (by omega) (by unfold dOk; omega)]; done), rfl⟩
                · refine Wp.skip ?_
                  refine Ends.seq ?_
                  refine Wp.seq ?_
                  refine Wp.seq ?_
                  refine Wp.region ?_
                  refine Ops.pv (pv_move rfl) rfl ?_
                  first | refine Ops.pv (pv_not_dec rfl) rfl ?_ | refine Ops.pv (pv_not rfl) rfl ?_
                  refine Ops.nil ?_
                  refine Ends.seq ?_
                  refine Wp.cond_true rfl ?_
                  refine Wp.seq ?_
                  refine Wp.region ?_
                  refine Ops.pv (pv_assign rfl) rfl ?_
                  refine Ops.nil ?_
                  refine Ends.seq ?_
                  refine Wp.ret ?_
                  refine Ends.then_ret ?_
                  exact Ends.ret (res1 rfl rfl) ⟨by first | (rw [check_bad (by omega)]; done) | (rw [check_ok hr (by omega) (by unfold dOk; omega)]; done) | (rw [check_no hr (by omega) (by unfold dOk; omega)]; done), rfl⟩
              · refine Wp.skip ?_
                refine Ends.seq ?_
                refine Wp.seq ?_
                refine Wp.seq ?_
                refine Wp.region ?_
                first | refine Ops.pv (pv_fieldAddr0 rfl rfl) rfl ?_ | refine Ops.pv (pv_fieldAddr rfl rfl) rfl ?_
                first | refine Ops.pv (pv_load rfl rfl rfl) rfl ?_ | refine Ops.pv (pv_load rfl rfl (by assumption)) rfl ?_
                refine Ops.pv (pv_neq rfl rfl) rfl ?_
                refine Ops.nil ?_
                refine Ends.seq ?_
                first | refine Wp.cond_dect rfl (fun h58 => ?_) (fun h58 => ?_) | refine Wp.cond_t rfl (fun h58 => ?_) (fun h58 => ?_)
                · refine Wp.region ?_
                  refine Ops.pv (pv_move rfl) rfl ?_
                  refine Ops.pv (pv_move rfl) rfl ?_
                  refine Ops.skipg ⟨_, _, rfl, rfl, rfl⟩ rfl ?_
                  refine Ops.skipg ⟨_, _, rfl, rfl, rfl⟩ rfl ?_
                  refine Ops.skipg ⟨_, _, rfl, rfl, rfl⟩ rfl ?_
                  refine Ops.pv (pv_pick_false rfl rfl) rfl ?_
                  refine Ops.pv (pv_assign rfl) rfl ?_
                  refine Ops.nil ?_
                  refine Ends.seq ?_
                  refine Wp.seq ?_
                  refine Wp.seq ?_
                  refine Wp.region ?_
                  refine Ops.pv (pv_move rfl) rfl ?_
                  first | refine Ops.pv (pv_not_dec rfl) rfl ?_ | refine Ops.pv (pv_not rfl) rfl ?_
                  refine Ops.nil ?_
                  refine Ends.seq ?_
                  refine Wp.cond_true rfl ?_
                  refine Wp.seq ?_
                  refine Wp.region ?_
                  refine Ops.pv (pv_assign rfl) rfl ?_
                  refine Ops.nil ?_
                  refine Ends.seq ?_
                  refine Wp.ret ?_
                  refine Ends.then_ret ?_
                  exact Ends.ret (res1 rfl rfl) ⟨by first | (rw [check_bad (by omega)]; done) | (rw [check_ok hr (by omega) (by unfold dOk; omega)]; done) | (rw [check_no hr (by omega) (by unfold dOk; omega)]; done), rfl⟩
                · refine Wp.skip ?_
                  refine Ends.seq ?_
                  refine Wp.seq ?_
                  refine Wp.seq ?_
                  refine Wp.region ?_
                  refine Ops.pv (pv_move rfl) rfl ?_
                  first | refine Ops.pv (pv_not_dec rfl) rfl ?_ | refine Ops.pv (pv_not rfl) rfl ?_
                  refine Ops.nil ?_
                  refine Ends.seq ?_
                  refine Wp.cond_true rfl ?_
                  refine Wp.seq ?_
                  refine Wp.region ?_
                  refine Ops.pv (pv_assign rfl) rfl ?_
                  refine Ops.nil ?_
                  refine Ends.seq ?_
                  refine Wp.ret ?_
                  refine Ends.then_ret ?_
                  exact Ends.ret (res1 rfl rfl) ⟨by first | (rw [check_bad (by omega)]; done) | (rw [check_ok hr (by omega) (by unfold dOk; omega)]; done) | (rw [check_no hr (by omega) (by unfold dOk; omega)]; done), rfl⟩
          · refine Wp.skip ?_
            refine Ends.seq ?_
            refine Wp.seq ?_
            refine Wp.seq ?_
            refine Wp.region ?_
            first | refine Ops.pv (pv_fieldAddr0 rfl rfl) rfl ?_ | refine Ops.pv (pv_fieldAddr rfl rfl) rfl ?_
            first | refine Ops.pv (pv_load rfl rfl rfl) rfl ?_ | refine Ops.pv (pv_load rfl rfl (by assumption)) rfl ?_
            refine Ops.ef rfl (ef_callr (tr_righted c.kind) rfl rfl) ?_
            rintro _ _ ⟨rfl, rfl⟩
            first | refine Ops.pv (pv_not_dec rfl) rfl ?_ | refine Ops.pv (pv_not rfl) rfl ?_
            refine Ops.nil ?_
            refine Ends.seq ?_
            first | refine Wp.cond_dect rfl (fun h59 => ?_) (fun h59 => ?_) | refine Wp.cond_t rfl (fun h59 => ?_) (fun h59 => ?_)
            · refine Wp.region ?_
              refine Ops.pv (pv_move rfl) rfl ?_
              refine Ops.pv (pv_move rfl) rfl ?_
              refine Ops.skipg ⟨_, _, rfl, rfl, rfl⟩ rfl ?_
              refine Ops.skipg ⟨_, _, rfl, rfl, rfl⟩ rfl ?_
              refine Ops.skipg ⟨_, _, rfl, rfl, rfl⟩ rfl ?_
              refine Ops.pv (pv_pick_false rfl rfl) rfl ?_
              refine Ops.pv (pv_assign rfl) rfl ?_
              refine Ops.nil ?_
              refine Ends.seq ?_
              refine Wp.seq ?_
              refine Wp.seq ?_
              refine Wp.region ?_
              first | refine Ops.pv (pv_fieldAddr0 rfl rfl) rfl ?_ | refine Ops.pv (pv_fieldAddr rfl rfl) rfl ?_
              first | refine Ops.pv (pv_load rfl rfl rfl) rfl ?_ | refine Ops.pv (pv_load rfl rfl (by assumption)) rfl ?_
              refine Ops.ef rfl (ef_callr (tr_badged c.kind) rfl rfl) ?_
              rintro _ _ ⟨rfl, rfl⟩
              first | refine Ops.pv (pv_not_dec rfl) rfl ?_ | refine Ops.pv (pv_not rfl) rfl ?_
              refine Ops.nil ?_
              refine Ends.seq ?_
              first | refine Wp.cond_dect rfl (fun h60 => ?_) (fun h60 => ?_) | refine Wp.cond_t rfl (fun h60 => ?_) (fun h60 => ?_)
              · refine Wp.region ?_
                refine Ops.pv (pv_move rfl) rfl ?_
                refine Ops.pv (pv_move rfl) rfl ?_
                refine Ops.skipg ⟨_, _, rfl, rfl, rfl⟩ rfl ?_
                refine Ops.skipg ⟨_, _, rfl, rfl, rfl⟩ rfl ?_
                refine Ops.skipg ⟨_, _, rfl, rfl, rfl⟩ rfl ?_
                refine Ops.pv (pv_pick_false rfl rfl) rfl ?_
                refine Ops.pv (pv_assign rfl) rfl ?_
                refine Ops.nil ?_
                refine Ends.seq ?_
                refine Wp.seq ?_
                refine Wp.seq ?_
                refine Wp.region ?_
                first | refine Ops.pv (pv_fieldAddr0 rfl rfl) rfl ?_ | refine Ops.pv (pv_fieldAddr rfl rfl) rfl ?_
                first | refine Ops.pv (pv_load rfl rfl rfl) rfl ?_ | refine Ops.pv (pv_load rfl rfl (by assumption)) rfl ?_
                refine Ops.pv (pv_neq rfl rfl) rfl ?_
                refine Ops.nil ?_
                refine Ends.seq ?_
                first | refine Wp.cond_dect rfl (fun h61 => ?_) (fun h61 => ?_) | refine Wp.cond_t rfl (fun h61 => ?_) (fun h61 => ?_)
                · refine Wp.region ?_
                  refine Ops.pv (pv_move rfl) rfl ?_
                  refine Ops.pv (pv_move rfl) rfl ?_
                  refine Ops.skipg ⟨_, _, rfl, rfl, rfl⟩ rfl ?_
                  refine Ops.skipg ⟨_, _, rfl, rfl, rfl⟩ rfl ?_
                  refine Ops.skipg ⟨_, _, rfl, rfl, rfl⟩ rfl ?_
                  refine Ops.pv (pv_pick_false rfl rfl) rfl ?_
                  refine Ops.pv (pv_assign rfl) rfl ?_
                  refine Ops.nil ?_
                  refine Ends.seq ?_
                  refine Wp.seq ?_
                  refine Wp.seq ?_
                  refine Wp.region ?_
                  refine Ops.pv (pv_move rfl) rfl ?_
                  first | refine Ops.pv (pv_not_dec rfl) rfl ?_ | refine Ops.pv (pv_not rfl) rfl ?_
                  refine Ops.nil ?_
                  refine Ends.seq ?_
                  refine Wp.cond_true rfl ?_
                  refine Wp.seq ?_
                  refine Wp.region ?_
                  refine Ops.pv (pv_assign rfl) rfl ?_
                  refine Ops.nil ?_
                  refine Ends.seq ?_
                  refine Wp.ret ?_
                  refine Ends.then_ret ?_
                  exact Ends.ret (res1 rfl rfl) ⟨by first | (rw [check_bad (by omega)]; done) | (rw [check_ok hr (by omega) (by unfold dOk; omega)]; done) | (rw [check_no hr (by omega) (by unfold dOk; omega)]; done), rfl⟩
                · refine Wp.skip ?_
                  refine Ends.seq ?_
                  refine Wp.seq ?_
                  refine Wp.seq ?_
                  refine Wp.region ?_
                  refine Ops.pv (pv_move rfl) rfl ?_
                  first | refine Ops.pv (pv_not_dec rfl) rfl ?_ | refine Ops.pv (pv_not rfl) rfl ?_
                  refine Ops.nil ?_
                  refine Ends.seq ?_
                  refine Wp.cond_true rfl ?_
                  refine Wp.seq ?_
                  refine Wp.region ?_
                  refine Ops.pv (pv_assign rfl) rfl ?_
                  refine Ops.nil ?_
                  refine Ends.seq ?_
                  refine Wp.ret ?_
                  refine Ends.then_ret ?_
                  exact Ends.ret (res1 rfl rfl) ⟨by first | (rw [check_bad (by omega)]; done) | (rw [check_ok hr (by omega) (by unfold dOk; omega)]; done) | (rw [check_no hr (by omega) (by unfold dOk; omega)]; done), rfl⟩
              · refine Wp.skip ?_
                refine Ends.seq ?_
                refine Wp.seq ?_
                refine Wp.seq ?_
                refine Wp.region ?_
                first | refine Ops.pv (pv_fieldAddr0 rfl rfl) rfl ?_ | refine Ops.pv (pv_fieldAddr rfl rfl) rfl ?_
                first | refine Ops.pv (pv_load rfl rfl rfl) rfl ?_ | refine Ops.pv (pv_load rfl rfl (by assumption)) rfl ?_
                refine Ops.pv (pv_neq rfl rfl) rfl ?_
                refine Ops.nil ?_
                refine Ends.seq ?_
                first | refine Wp.cond_dect rfl (fun h62 => ?_) (fun h62 => ?_) | refine Wp.cond_t rfl (fun h62 => ?_) (fun h62 => ?_)
                · refine Wp.region ?_
                  refine Ops.pv (pv_move rfl) rfl ?_
                  refine Ops.pv (pv_move rfl) rfl ?_
                  refine Ops.skipg ⟨_, _, rfl, rfl, rfl⟩ rfl ?_
                  refine Ops.skipg ⟨_, _, rfl, rfl, rfl⟩ rfl ?_
                  refine Ops.skipg ⟨_, _, rfl, rfl, rfl⟩ rfl ?_
                  refine Ops.pv (pv_pick_false rfl rfl) rfl ?_
                  refine Ops.pv (pv_assign rfl) rfl ?_
                  refine Ops.nil ?_
                  refine Ends.seq ?_
                  refine Wp.seq ?_
                  refine Wp.seq ?_
                  refine Wp.region ?_
                  refine Ops.pv (pv_move rfl) rfl ?_
                  first | refine Ops.pv (pv_not_dec rfl) rfl ?_ | refine Ops.pv (pv_not rfl) rfl ?_
                  refine Ops.nil ?_
                  refine Ends.seq ?_
                  refine Wp.cond_true rfl ?_
                  refine Wp.seq ?_
                  refine Wp.region ?_
                  refine Ops.pv (pv_assign rfl) rfl ?_
                  refine Ops.nil ?_
                  refine Ends.seq ?_
                  refine Wp.ret ?_
                  refine Ends.then_ret ?_
                  exact Ends.ret (res1 rfl rfl) ⟨by first | (rw [check_bad (by omega)]; done) | (rw [check_ok hr (by omega) (by unfold dOk; omega)]; done) | (rw [check_no hr (by omega) (by unfold dOk; omega)]; done), rfl⟩
                · refine Wp.skip ?_
                  refine Ends.seq ?_
                  refine Wp.seq ?_
                  refine Wp.seq ?_
                  refine Wp.region ?_
                  refine Ops.pv (pv_move rfl) rfl ?_
                  first | refine Ops.pv (pv_not_dec rfl) rfl ?_ | refine Ops.pv (pv_not rfl) rfl ?_
                  refine Ops.nil ?_
                  refine Ends.seq ?_
                  refine Wp.cond_true rfl ?_
                  refine Wp.seq ?_
                  refine Wp.region ?_
                  refine Ops.pv (pv_assign rfl) rfl ?_
                  refine Ops.nil ?_
                  refine Ends.seq ?_
                  refine Wp.ret ?_
                  refine Ends.then_ret ?_
                  exact Ends.ret (res1 rfl rfl) ⟨by first | (rw [check_bad (by omega)]; done) | (rw [check_ok hr (by omega) (by unfold dOk; omega)]; done) | (rw [check_no hr (by omega) (by unfold dOk; omega)]; done), rfl⟩
            · refine Wp.skip ?_
              refine Ends.seq ?_
              refine Wp.seq ?_
              refine Wp.seq ?_
              refine Wp.region ?_
              first | refine Ops.pv (pv_fieldAddr0 rfl rfl) rfl ?_ | refine Ops.pv (pv_fieldAddr rfl rfl) rfl ?_
              first | refine Ops.pv (pv_load rfl rfl rfl) rfl ?_ | refine Ops.pv (pv_load rfl rfl (by assumption)) rfl ?_
              refine Ops.ef rfl (ef_callr (tr_badged c.kind) rfl rfl) ?_
              rintro _ _ ⟨rfl, rfl⟩
              first | refine Ops.pv (pv_not_dec rfl) rfl ?_ | refine Ops.pv (pv_not rfl) rfl ?_
              refine Ops.nil ?_
              refine Ends.seq ?_
              first | refine Wp.cond_dect rfl (fun h63 => ?_) (fun h63 => ?_) | refine Wp.cond_t rfl (fun h63 => ?_) (fun h63 => ?_)
              · refine Wp.region ?_
                refine Ops.pv (pv_move rfl) rfl ?_
                refine Ops.pv (pv_move rfl) rfl ?_
                refine Ops.skipg ⟨_, _, rfl, rfl, rfl⟩ rfl ?_
                refine Ops.skipg ⟨_, _, rfl, rfl, rfl⟩ rfl ?_
                refine Ops.skipg ⟨_, _, rfl, rfl, rfl⟩ rfl ?_
                refine Ops.pv (pv_pick_false rfl rfl) rfl ?_
                refine Ops.pv (pv_assign rfl) rfl ?_
                refine Ops.nil ?_
                refine Ends.seq ?_
                refine Wp.seq ?_
                refine Wp.seq ?_
                refine Wp.region ?_
                first | refine Ops.pv (pv_fieldAddr0 rfl rfl) rfl ?_ | refine Ops.pv (pv_fieldAddr rfl rfl) rfl ?_
                first | refine Ops.pv (pv_load rfl rfl rfl) rfl ?_ | refine Ops.pv (pv_load rfl rfl (by assumption)) rfl ?_
                refine Ops.pv (pv_neq rfl rfl) rfl ?_
                refine Ops.nil ?_
                refine Ends.seq ?_
                first | refine Wp.cond_dect rfl (fun h64 => ?_) (fun h64 => ?_) | refine Wp.cond_t rfl (fun h64 => ?_) (fun h64 => ?_)
                · refine Wp.region ?_
                  refine Ops.pv (pv_move rfl) rfl ?_
                  refine Ops.pv (pv_move rfl) rfl ?_
                  refine Ops.skipg ⟨_, _, rfl, rfl, rfl⟩ rfl ?_
                  refine Ops.skipg ⟨_, _, rfl, rfl, rfl⟩ rfl ?_
                  refine Ops.skipg ⟨_, _, rfl, rfl, rfl⟩ rfl ?_
                  refine Ops.pv (pv_pick_false rfl rfl) rfl ?_
                  refine Ops.pv (pv_assign rfl) rfl ?_
                  refine Ops.nil ?_
                  refine Ends.seq ?_
                  refine Wp.seq ?_
                  refine Wp.seq ?_
                  refine Wp.region ?_
                  refine Ops.pv (pv_move rfl) rfl ?_
                  first | refine Ops.pv (pv_not_dec rfl) rfl ?_ | refine Ops.pv (pv_not rfl) rfl ?_
                  refine Ops.nil ?_
                  refine Ends.seq ?_
                  refine Wp.cond_true rfl ?_
                  refine Wp.seq ?_
                  refine Wp.region ?_
                  refine Ops.pv (pv_assign rfl) rfl ?_
                  refine Ops.nil ?_
                  refine Ends.seq ?_
                  refine Wp.ret ?_
                  refine Ends.then_ret ?_
                  exact Ends.ret (res1 rfl rfl) ⟨by first | (rw [check_bad (by omega)]; done) | (rw [check_ok hr (by omega) (by unfold dOk; omega)]; done) | (rw [check_no hr (by omega) (by unfold dOk; omega)]; done), rfl⟩
                · refine Wp.skip ?_
                  refine Ends.seq ?_
                  refine Wp.seq ?_
                  refine Wp.seq ?_
                  refine Wp.region ?_
                  refine Ops.pv (pv_move rfl) rfl ?_
                  first | refine Ops.pv (pv_not_dec rfl) rfl ?_ | refine Ops.pv (pv_not rfl) rfl ?_
                  refine Ops.nil ?_
                  refine Ends.seq ?_
                  refine Wp.cond_true rfl ?_
                  refine Wp.seq ?_
                  refine Wp.region ?_
                  refine Ops.pv (pv_assign rfl) rfl ?_
                  refine Ops.nil ?_
                  refine Ends.seq ?_
                  refine Wp.ret ?_
                  refine Ends.then_ret ?_
                  exact Ends.ret (res1 rfl rfl) ⟨by first | (rw [check_bad (by omega)]; done) | (rw [check_ok hr (by omega) (by unfold dOk; omega)]; done) | (rw [check_no hr (by omega) (by unfold dOk; omega)]; done), rfl⟩
              · refine Wp.skip ?_
                refine Ends.seq ?_
                refine Wp.seq ?_
                refine Wp.seq ?_
                refine Wp.region ?_
                first | refine Ops.pv (pv_fieldAddr0 rfl rfl) rfl ?_ | refine Ops.pv (pv_fieldAddr rfl rfl) rfl ?_
                first | refine Ops.pv (pv_load rfl rfl rfl) rfl ?_ | refine Ops.pv (pv_load rfl rfl (by assumption)) rfl ?_
                refine Ops.pv (pv_neq rfl rfl) rfl ?_
                refine Ops.nil ?_
                refine Ends.seq ?_
                first | refine Wp.cond_dect rfl (fun h65 => ?_) (fun h65 => ?_) | refine Wp.cond_t rfl (fun h65 => ?_) (fun h65 => ?_)
                · refine Wp.region ?_
                  refine Ops.pv (pv_move rfl) rfl ?_
                  refine Ops.pv (pv_move rfl) rfl ?_
                  refine Ops.skipg ⟨_, _, rfl, rfl, rfl⟩ rfl ?_
                  refine Ops.skipg ⟨_, _, rfl, rfl, rfl⟩ rfl ?_
                  refine Ops.skipg ⟨_, _, rfl, rfl, rfl⟩ rfl ?_
                  refine Ops.pv (pv_pick_false rfl rfl) rfl ?_
                  refine Ops.pv (pv_assign rfl) rfl ?_
                  refine Ops.nil ?_
                  refine Ends.seq ?_
                  refine Wp.seq ?_
                  refine Wp.seq ?_
                  refine Wp.region ?_
                  refine Ops.pv (pv_move rfl) rfl ?_
                  first | refine Ops.pv (pv_not_dec rfl) rfl ?_ | refine Ops.pv (pv_not rfl) rfl ?_
                  refine Ops.nil ?_
                  refine Ends.seq ?_
                  refine Wp.cond_true rfl ?_
                  refine Wp.seq ?_
                  refine Wp.region ?_
                  refine Ops.pv (pv_assign rfl) rfl ?_
                  refine Ops.nil ?_
                  refine Ends.seq ?_
                  refine Wp.ret ?_
                  refine Ends.then_ret ?_
                  exact Ends.ret (res1 rfl rfl) ⟨by first | (rw [check_bad (by omega)]; done) | (rw [check_ok hr (by omega) (by unfold dOk; omega)]; done) | (rw [check_no hr (by omega) (by unfold dOk; omega)]; done), rfl⟩
                · refine Wp.skip ?_
                  refine Ends.seq ?_
                  refine Wp.seq ?_
                  refine Wp.seq ?_
                  refine Wp.region ?_
                  refine Ops.pv (pv_move rfl) rfl ?_
                  first | refine Ops.pv (pv_not_dec rfl) rfl ?_ | refine Ops.pv (pv_not rfl) rfl ?_
                  refine Ops.nil ?_
                  refine Ends.seq ?_
                  refine Wp.cond_true rfl ?_
                  refine Wp.seq ?_
                  refine Wp.region ?_
                  refine Ops.pv (pv_assign rfl) rfl ?_
                  refine Ops.nil ?_
                  refine Ends.seq ?_
                  refine Wp.ret ?_
                  refine Ends.then_ret ?_
                  exact Ends.ret (res1 rfl rfl) ⟨by first | (rw [check_bad (by omega)]; done) | (rw [check_ok hr (by omega) (by unfold dOk; omega)]; done) | (rw [check_no hr (by omega) (by unfold dOk; omega)]; done), rfl⟩
      · refine Ops.skipg ⟨_, _, rfl, rfl, rfl⟩ rfl ?_
        refine Ops.skipg ⟨_, _, rfl, rfl, rfl⟩ rfl ?_
        refine Ops.skipg ⟨_, _, rfl, rfl, rfl⟩ rfl ?_
        refine Ops.pv (pv_pick_false rfl rfl) rfl ?_
        refine Ops.pv (pv_move rfl) rfl ?_
        refine Ops.skipg ⟨_, _, rfl, rfl, rfl⟩ rfl ?_
        refine Ops.skipg ⟨_, _, rfl, rfl, rfl⟩ rfl ?_
        refine Ops.skipg ⟨_, _, rfl, rfl, rfl⟩ rfl ?_
        refine Ops.skipg ⟨_, _, rfl, rfl, rfl⟩ rfl ?_
        refine Ops.skipg ⟨_, _, rfl, rfl, rfl⟩ rfl ?_
        refine Ops.pv (pv_pick_false rfl rfl) rfl ?_
        refine Ops.pv (pv_assign rfl) rfl ?_
        refine Ops.nil ?_
        refine Ends.seq ?_
        refine Wp.seq ?_
        refine Wp.seq ?_
        refine Wp.region ?_
        first | refine Ops.pv (pv_fieldAddr0 rfl rfl) rfl ?_ | refine Ops.pv (pv_fieldAddr rfl rfl) rfl ?_
        first | refine Ops.pv (pv_load rfl rfl rfl) rfl ?_ | refine Ops.pv (pv_load rfl rfl (by assumption)) rfl ?_
        refine Ops.pv (pv_eql rfl rfl) rfl ?_
        refine Ops.pv (pv_move rfl) rfl ?_
        first | refine Ops.pvcn rfl rfl (fun hg => pv_fieldAddr0 rfl rfl) rfl ?_ | refine Ops.pvcn rfl rfl (fun hg => pv_fieldAddr rfl rfl) rfl ?_
        first | refine Ops.pvcn rfl rfl (fun hg => Pv.setE (t := 41) rfl (cv_pos hg) (pv_load rfl rfl rfl)) rfl ?_ | refine Ops.pvcn rfl rfl (fun hg => Pv.setE (t := 41) rfl (cv_pos hg) (pv_load rfl rfl (by assumption))) rfl ?_
        refine Ops.pvcn rfl rfl (fun hg => Pv.setE (t := 41) rfl (cv_pos hg) (Pv.setE (t := 42) rfl (cv_pos hg) (pv_eql rfl rfl))) rfl ?_
        refine Ops.pv (pv_pick_or rfl rfl) rfl ?_
        refine Ops.nil ?_
        refine Ends.seq ?_
        first | refine Wp.cond_dect rfl (fun h66 => ?_) (fun h66 => ?_) | refine Wp.cond_t rfl (fun h66 => ?_) (fun h66 => ?_)
        · refine Wp.region ?_
          refine Ops.pv (pv_move rfl) rfl ?_
          refine Ops.pv (pv_move rfl) rfl ?_
          refine Ops.skipg ⟨_, _, rfl, rfl, rfl⟩ rfl ?_
          refine Ops.skipg ⟨_, _, rfl, rfl, rfl⟩ rfl ?_
          refine Ops.skipg ⟨_, _, rfl, rfl, rfl⟩ rfl ?_
          refine Ops.pv (pv_pick_false rfl rfl) rfl ?_
          refine Ops.pv (pv_assign rfl) rfl ?_
          refine Ops.nil ?_
          refine Ends.seq ?_
          refine Wp.seq ?_
          refine Wp.seq ?_
          refine Wp.region ?_
          first | refine Ops.pv (pv_fieldAddr0 rfl rfl) rfl ?_ | refine Ops.pv (pv_fieldAddr rfl rfl) rfl ?_
          first | refine Ops.pv (pv_load rfl rfl rfl) rfl ?_ | refine Ops.pv (pv_load rfl rfl (by assumption)) rfl ?_
          refine Ops.ef rfl (ef_callr (tr_righted c.kind) rfl rfl) ?_
          rintro _ _ ⟨rfl, rfl⟩
          first | refine Ops.pv (pv_not_dec rfl) rfl ?_ | refine Ops.pv (pv_not rfl) rfl ?_
          refine Ops.nil ?_
          refine Ends.seq ?_
          first | refine Wp.cond_dect rfl (fun h67 => ?_) (fun h67 => ?_) | refine Wp.cond_t rfl (fun h67 => ?_) (fun h67 => ?_)
          · refine Wp.region ?_
            refine Ops.pv (pv_move rfl) rfl ?_
            refine Ops.pv (pv_move rfl) rfl ?_
            refine Ops.skipg ⟨_, _, rfl, rfl, rfl⟩ rfl ?_
            refine Ops.skipg ⟨_, _, rfl, rfl, rfl⟩ rfl ?_
            refine Ops.skipg ⟨_, _, rfl, rfl, rfl⟩ rfl ?_
            refine Ops.pv (pv_pick_false rfl rfl) rfl ?_
            refine Ops.pv (pv_assign rfl) rfl ?_
            refine Ops.nil ?_
            refine Ends.seq ?_
            refine Wp.seq ?_
            refine Wp.seq ?_
            refine Wp.region ?_
            first | refine Ops.pv (pv_fieldAddr0 rfl rfl) rfl ?_ | refine Ops.pv (pv_fieldAddr rfl rfl) rfl ?_
            first | refine Ops.pv (pv_load rfl rfl rfl) rfl ?_ | refine Ops.pv (pv_load rfl rfl (by assumption)) rfl ?_
            refine Ops.ef rfl (ef_callr (tr_badged c.kind) rfl rfl) ?_
            rintro _ _ ⟨rfl, rfl⟩
            first | refine Ops.pv (pv_not_dec rfl) rfl ?_ | refine Ops.pv (pv_not rfl) rfl ?_
            refine Ops.nil ?_
            refine Ends.seq ?_
            first | refine Wp.cond_dect rfl (fun h68 => ?_) (fun h68 => ?_) | refine Wp.cond_t rfl (fun h68 => ?_) (fun h68 => ?_)
            · refine Wp.region ?_
              refine Ops.pv (pv_move rfl) rfl ?_
              refine Ops.pv (pv_move rfl) rfl ?_
              refine Ops.skipg ⟨_, _, rfl, rfl, rfl⟩ rfl ?_
              refine Ops.skipg ⟨_, _, rfl, rfl, rfl⟩ rfl ?_
              refine Ops.skipg ⟨_, _, rfl, rfl, rfl⟩ rfl ?_
              refine Ops.pv (pv_pick_false rfl rfl) rfl ?_
              refine Ops.pv (pv_assign rfl) rfl ?_
              refine Ops.nil ?_
              refine Ends.seq ?_
              refine Wp.seq ?_
              refine Wp.seq ?_
              refine Wp.region ?_
              first | refine Ops.pv (pv_fieldAddr0 rfl rfl) rfl ?_ | refine Ops.pv (pv_fieldAddr rfl rfl) rfl ?_
              first | refine Ops.pv (pv_load rfl rfl rfl) rfl ?_ | refine Ops.pv (pv_load rfl rfl (by assumption)) rfl ?_
              refine Ops.pv (pv_neq rfl rfl) rfl ?_
              refine Ops.nil ?_
              refine Ends.seq ?_
              first | refine Wp.cond_dect rfl (fun h69 => ?_) (fun h69 => ?_) | refine Wp.cond_t rfl (fun h69 => ?_) (fun h69 => ?_)
              · refine Wp.region ?_
                refine Ops.pv (pv_move rfl) rfl ?_
                refine Ops.pv (pv_move rfl) rfl ?_
                refine Ops.skipg ⟨_, _, rfl, rfl, rfl⟩ rfl ?_
                refine Ops.skipg ⟨_, _, rfl, rfl, rfl⟩ rfl ?_
                refine Ops.skipg ⟨_, _, rfl, rfl, rfl⟩ rfl ?_
                refine Ops.pv (pv_pick_false rfl rfl) rfl ?_
                refine Ops.pv (pv_assign rfl) rfl ?_
                refine Ops.nil ?_
                refine Ends.seq ?_
                refine Wp.seq ?_
                refine Wp.seq ?_
                refine Wp.region ?_
                refine Ops.pv (pv_move rfl) rfl ?_
                first | refine Ops.pv (pv_not_dec rfl) rfl ?_ | refine Ops.pv (pv_not rfl) rfl ?_
                refine Ops.nil ?_
                refine Ends.seq ?_
                refine Wp.cond_true rfl ?_
                refine Wp.seq ?_
                refine Wp.region ?_
                refine Ops.pv (pv_assign rfl) rfl ?_
                refine Ops.nil ?_
                refine Ends.seq ?_
                refine Wp.ret ?_
                refine Ends.then_ret ?_
                exact Ends.ret (res1 rfl rfl) ⟨by first | (rw [check_bad (by omega)]; done) | (rw [check_ok hr (by omega) (by unfold dOk; omega)]; done) | (rw [check_no hr (by omega) (by unfold dOk; omega)]; done), rfl⟩
              · refine Wp.skip ?_
                refine Ends.seq ?_
                refine Wp.seq ?_
                refine Wp.seq ?_
                refine Wp.region ?_
                refine Ops.pv (pv_move rfl) rfl ?_
                first | refine Ops.pv (pv_not_dec rfl) rfl ?_ | refine Ops.pv (pv_not rfl) rfl ?_
                refine Ops.nil ?_
                refine Ends.seq ?_
                refine Wp.cond_true rfl ?_
                refine Wp.seq ?_
                refine Wp.region ?_
                refine Ops.pv (pv_assign rfl) rfl ?_
                refine Ops.nil ?_
                refine Ends.seq ?_
                refine Wp.ret ?_
                refine Ends.then_ret ?_
                exact Ends.ret (res1 rfl rfl) ⟨by first | (rw [check_bad (by omega)]; done) | (rw [check_ok hr (by omega) (by unfold dOk; omega)]; done) | (rw [check_no hr (by omega) (by unfold dOk; omega)]; done), rfl⟩
            · refine Wp.skip ?_
              refine Ends.seq ?_
              refine Wp.seq ?_
              refine Wp.seq ?_
              refine Wp.region ?_
              first | refine Ops.pv (pv_fieldAddr0 rfl rfl) rfl ?_ | refine Ops.pv (pv_fieldAddr rfl rfl) rfl ?_
              first | refine Ops.pv (pv_load rfl rfl rfl) rfl ?_ | refine Ops.pv (pv_load rfl rfl (by assumption)) rfl ?_
              refine Ops.pv (pv_neq rfl rfl) rfl ?_
              refine Ops.nil ?_
              refine Ends.seq ?_
              first | refine Wp.cond_dect rfl (fun h70 => ?_) (fun h70 => ?_) | refine Wp.cond_t rfl (fun h70 => ?_) (fun h70 => ?_)
              · refine Wp.region ?_
                refine Ops.pv (pv_move rfl) rfl ?_
                refine Ops.pv (pv_move rfl) rfl ?_
                refine Ops.skipg ⟨_, _, rfl, rfl, rfl⟩ rfl ?_
                refine Ops.skipg ⟨_, _, rfl, rfl, rfl⟩ rfl ?_
                refine Ops.skipg ⟨_, _, rfl, rfl, rfl⟩ rfl ?_
                refine Ops.pv (pv_pick_false rfl rfl) rfl ?_
                refine Ops.pv (pv_assign rfl) rfl ?_
                refine Ops.nil ?_
                refine Ends.seq ?_
                refine Wp.seq ?_
                refine Wp.seq ?_
                refine Wp.region ?_
                refine Ops.pv (pv_move rfl) rfl ?_
                first | refine Ops.pv (pv_not_dec rfl) rfl ?_ | refine Ops.pv (pv_not rfl) rfl ?_
                refine Ops.nil ?_
                refine Ends.seq ?_
                refine Wp.cond_true rfl ?_
                refine Wp.seq ?_
                refine Wp.region ?_
                refine Ops.pv (pv_assign rfl) rfl ?_
                refine Ops.nil ?_
                refine Ends.seq ?_
                refine Wp.ret ?_
                refine Ends.then_ret ?_
                exact Ends.ret (res1 rfl rfl) ⟨by first | (rw [check_bad (by omega)]; done) | (rw [check_ok hr (by omega) (by unfold dOk; omega)]; done) | (rw [check_no hr (by omega) (by unfold dOk; omega)]; done), rfl⟩
              · refine Wp.skip ?_
                refine Ends.seq ?_
                refine Wp.seq ?_
                refine Wp.seq ?_
                refine Wp.region ?_
                refine Ops.pv (pv_move rfl) rfl ?_
                first | refine Ops.pv (pv_not_dec rfl) rfl ?_ | refine Ops.pv (pv_not rfl) rfl ?_
                refine Ops.nil ?_
                refine Ends.seq ?_
                refine Wp.cond_true rfl ?_
                refine Wp.seq ?_
                refine Wp.region ?_
                refine Ops.pv (pv_assign rfl) rfl ?_
                refine Ops.nil ?_
                refine Ends.seq ?_
                refine Wp.ret ?_
                refine Ends.then_ret ?_
                exact Ends.ret (res1 rfl rfl) ⟨by first | (rw [check_bad (by omega)]; done) | (rw [check_ok hr (by omega) (by unfold dOk; omega)]; done) | (rw [check_no hr (by omega) (by unfold dOk; omega)]; done), rfl⟩
          · refine Wp.skip ?_
            refine Ends.seq ?_
            refine Wp.seq ?_
            refine Wp.seq ?_
            refine Wp.region ?_
            first | refine Ops.pv (pv_fieldAddr0 rfl rfl) rfl ?_ | refine Ops.pv (pv_fieldAddr rfl rfl) rfl ?_
            first | refine Ops.pv (pv_load rfl rfl rfl) rfl ?_ | refine Ops.pv (pv_load rfl rfl (by assumption)) rfl ?_
            refine Ops.ef rfl (ef_callr (tr_badged c.kind) rfl rfl) ?_
            rintro _ _ ⟨rfl, rfl⟩
            first | refine Ops.pv (pv_not_dec rfl) rfl ?_ | refine Ops.pv (pv_not rfl) rfl ?_
            refine Ops.nil ?_
            refine Ends.seq ?_
            first | refine Wp.cond_dect rfl (fun h71 => ?_) (fun h71 => ?_) | refine Wp.cond_t rfl (fun h71 => ?_) (fun h71 => ?_)
            · refine Wp.region ?_
              refine Ops.pv (pv_move rfl) rfl ?_
              refine Ops.pv (pv_move rfl) rfl ?_
              refine Ops.skipg ⟨_, _, rfl, rfl, rfl⟩ rfl ?_
              refine Ops.skipg ⟨_, _, rfl, rfl, rfl⟩ rfl ?_
              refine Ops.skipg ⟨_, _, rfl, rfl, rfl⟩ rfl ?_
              refine Ops.pv (pv_pick_false rfl rfl) rfl ?_
              refine Ops.pv (pv_assign rfl) rfl ?_
              refine Ops.nil ?_
              refine Ends.seq ?_
              refine Wp.seq ?_
              refine Wp.seq ?_
              refine Wp.region ?_
              first | refine Ops.pv (pv_fieldAddr0 rfl rfl) rfl ?_ | refine Ops.pv (pv_fieldAddr rfl rfl) rfl ?_
              first | refine Ops.pv (pv_load rfl rfl rfl) rfl ?_ | refine Ops.pv (pv_load rfl rfl (by assumption)) rfl ?_
              refine Ops.pv (pv_neq rfl rfl) rfl ?_
              refine Ops.nil ?_
              refine Ends.seq ?_
              first | refine Wp.cond_dect rfl (fun h72 => ?_) (fun h72 => ?_) | refine Wp.cond_t rfl (fun h72 => ?_) (fun h72 => ?_)
              · refine Wp.region ?_
                refine Ops.pv (pv_move rfl) rfl ?_
                refine Ops.pv (pv_move rfl) rfl ?_
                refine Ops.skipg ⟨_, _, rfl, rfl, rfl⟩ rfl ?_
                refine Ops.skipg ⟨_, _, rfl, rfl, rfl⟩ rfl ?_
                refine Ops.skipg ⟨_, _, rfl, rfl, rfl⟩ rfl ?_
                refine Ops.pv (pv_pick_false rfl rfl) rfl ?_
                refine Ops.pv (pv_assign rfl) rfl ?_
                refine Ops.nil ?_
                refine Ends.seq ?_
                refine Wp.seq ?_
                refine Wp.seq ?_
                refine Wp.region ?_
                refine Ops.pv (pv_move rfl) rfl ?_
                first | refine Ops.pv (pv_not_dec rfl) rfl ?_ | refine Ops.pv (pv_not rfl) rfl ?_
                refine Ops.nil ?_
                refine Ends.seq ?_
                refine Wp.cond_true rfl ?_
                refine Wp.seq ?_
                refine Wp.region ?_
                refine Ops.pv (pv_assign rfl) rfl ?_
                refine Ops.nil ?_
                refine Ends.seq ?_
                refine Wp.ret ?_
                refine Ends.then_ret ?_
                exact Ends.ret (res1 rfl rfl) ⟨by first | (rw [check_bad (by omega)]; done) | (rw [check_ok hr (by omega) (by unfold dOk; omega)]; done) | (rw [check_no hr (by omega) (by unfold dOk; omega)]; done), rfl⟩
              · refine Wp.skip ?_
                refine Ends.seq ?_
                refine Wp.seq ?_
                refine Wp.seq ?_
                refine Wp.region ?_
                refine Ops.pv (pv_move rfl) rfl ?_
                first | refine Ops.pv (pv_not_dec rfl) rfl ?_ | refine Ops.pv (pv_not rfl) rfl ?_
                refine Ops.nil ?_
                refine Ends.seq ?_
                refine Wp.cond_true rfl ?_
                refine Wp.seq ?_
                refine Wp.region ?_
                refine Ops.pv (pv_assign rfl) rfl ?_
                refine Ops.nil ?_
                refine Ends.seq ?_
                refine Wp.ret ?_
                refine Ends.then_ret ?_
                exact Ends.ret (res1 rfl rfl) ⟨by first | (rw [check_bad (by omega)]; done) | (rw [check_ok hr (by omega) (by unfold dOk; omega)]; done) | (rw [check_no hr (by omega) (by unfold dOk; omega)]; done), rfl⟩
            · refine Wp.skip ?_
              refine Ends.seq ?_
              refine Wp.seq ?_
              refine Wp.seq ?_
              refine Wp.region ?_
              first | refine Ops.pv (pv_fieldAddr0 rfl rfl) rfl ?_ | refine Ops.pv (pv_fieldAddr rfl rfl) rfl ?_
              first | refine Ops.pv (pv_load rfl rfl rfl) rfl ?_ | refine Ops.pv (pv_load rfl rfl (by assumption)) rfl ?_
              refine Ops.pv (pv_neq rfl rfl) rfl ?_
              refine Ops.nil ?_
              refine Ends.seq ?_
              first | refine Wp.cond_dect rfl (fun h73 => ?_) (fun h73 => ?_) | refine Wp.cond_t rfl (fun h73 => ?_) (fun h73 => ?_)
              · refine Wp.region ?_
                refine Ops.pv (pv_move rfl) rfl ?_
                refine Ops.pv (pv_move rfl) rfl ?_
                refine Ops.skipg ⟨_, _, rfl, rfl, rfl⟩ rfl ?_
                refine Ops.skipg ⟨_, _, rfl, rfl, rfl⟩ rfl ?_
                refine Ops.skipg ⟨_, _, rfl, rfl, rfl⟩ rfl ?_
                refine Ops.pv (pv_pick_false rfl rfl) rfl ?_
                refine Ops.pv (pv_assign rfl) rfl ?_
                refine Ops.nil ?_
                refine Ends.seq ?_
                refine Wp.seq ?_
                refine Wp.seq ?_
                refine Wp.region ?_
                refine Ops.pv (pv_move rfl) rfl ?_
                first | refine Ops.pv (pv_not_dec rfl) rfl ?_ | refine Ops.pv (pv_not rfl) rfl ?_
                refine Ops.nil ?_
                refine Ends.seq ?_
                refine Wp.cond_true rfl ?_
                refine Wp.seq ?_
                refine Wp.region ?_
                refine Ops.pv (pv_assign rfl) rfl ?_
                refine Ops.nil ?_
                refine Ends.seq ?_
                refine Wp.ret ?_
                refine Ends.then_ret ?_
                exact Ends.ret (res1 rfl rfl) ⟨by first | (rw [check_bad (by omega)]; done) | (rw [check_ok hr (by omega) (by unfold dOk; omega)]; done) | (rw [check_no hr (by omega) (by unfold dOk; omega)]; done), rfl⟩
              · refine Wp.skip ?_
                refine Ends.seq ?_
                refine Wp.seq ?_
                refine Wp.seq ?_
                refine Wp.region ?_
                refine Ops.pv (pv_move rfl) rfl ?_
                first | refine Ops.pv (pv_not_dec rfl) rfl ?_ | refine Ops.pv (pv_not rfl) rfl ?_
                refine Ops.nil ?_
                refine Ends.seq ?_
                refine Wp.cond_true rfl ?_
                refine Wp.seq ?_
                refine Wp.region ?_
                refine Ops.pv (pv_assign rfl) rfl ?_
                refine Ops.nil ?_
                refine Ends.seq ?_
                refine Wp.ret ?_
                refine Ends.then_ret ?_
                exact Ends.ret (res1 rfl rfl) ⟨by first | (rw [check_bad (by omega)]; done) | (rw [check_ok hr (by omega) (by unfold dOk; omega)]; done) | (rw [check_no hr (by omega) (by unfold dOk; omega)]; done), rfl⟩
        · refine Wp.skip ?_
          refine Ends.seq ?_
          refine Wp.seq ?_
          refine Wp.seq ?_
          refine Wp.region ?_
          first | refine Ops.pv (pv_fieldAddr0 rfl rfl) rfl ?_ | refine Ops.pv (pv_fieldAddr rfl rfl) rfl ?_
          first | refine Ops.pv (pv_load rfl rfl rfl) rfl ?_ | refine Ops.pv (pv_load rfl rfl (by assumption)) rfl ?_
          refine Ops.ef rfl (ef_callr (tr_righted c.kind) rfl rfl) ?_
          rintro _ _ ⟨rfl, rfl⟩
          first | refine Ops.pv (pv_not_dec rfl) rfl ?_ | refine Ops.pv (pv_not rfl) rfl ?_
          refine Ops.nil ?_
          refine Ends.seq ?_
          first | refine Wp.cond_dect rfl (fun h74 => ?_) (fun h74 => ?_) | refine Wp.cond_t rfl (fun h74 => ?_) (fun h74 => ?_)
          · refine Wp.region ?_
            refine Ops.pv (pv_move rfl) rfl ?_
            refine Ops.pv (pv_move rfl) rfl ?_
            refine Ops.skipg ⟨_, _, rfl, rfl, rfl⟩ rfl ?_
            refine Ops.skipg ⟨_, _, rfl, rfl, rfl⟩ rfl ?_
            refine Ops.skipg ⟨_, _, rfl, rfl, rfl⟩ rfl ?_
            refine Ops.pv (pv_pick_false rfl rfl) rfl ?_
            refine Ops.pv (pv_assign rfl) rfl ?_
            refine Ops.nil ?_
            refine Ends.seq ?_
            refine Wp.seq ?_
            refine Wp.seq ?_
            refine Wp.region ?_
            first | refine Ops.pv (pv_fieldAddr0 rfl rfl) rfl ?_ | refine Ops.pv (pv_fieldAddr rfl rfl) rfl ?_
            first | refine Ops.pv (pv_load rfl rfl rfl) rfl ?_ | refine Ops.pv (pv_load rfl rfl (by assumption)) rfl ?_
            refine Ops.ef rfl (ef_callr (tr_badged c.kind) rfl rfl) ?_
            rintro _ _ ⟨rfl, rfl⟩
            first | refine Ops.pv (pv_not_dec rfl) rfl ?_ | refine Ops.pv (pv_not rfl) rfl ?_
            refine Ops.nil ?_
            refine Ends.seq ?_
            first | refine Wp.cond_dect rfl (fun h75 => ?_) (fun h75 => ?_) | refine Wp.cond_t rfl (fun h75 => ?_) (fun h75 => ?_)
            · refine Wp.region ?_
              refine Ops.pv (pv_move rfl) rfl ?_
              refine Ops.pv (pv_move rfl) rfl ?_
              refine Ops.skipg ⟨_, _, rfl, rfl, rfl⟩ rfl ?_
              refine Ops.skipg ⟨_, _, rfl, rfl, rfl⟩ rfl ?_
              refine Ops.skipg ⟨_, _, rfl, rfl, rfl⟩ rfl ?_
              refine Ops.pv (pv_pick_false rfl rfl) rfl ?_
              refine Ops.pv (pv_assign rfl) rfl ?_
              refine Ops.nil ?_
              refine Ends.seq ?_
              refine Wp.seq ?_
              refine Wp.seq ?_
              refine Wp.region ?_
              first | refine Ops.pv (pv_fieldAddr0 rfl rfl) rfl ?_ | refine Ops.pv (pv_fieldAddr rfl rfl) rfl ?_
              first | refine Ops.pv (pv_load rfl rfl rfl) rfl ?_ | refine Ops.pv (pv_load rfl rfl (by assumption)) rfl ?_
              refine Ops.pv (pv_neq rfl rfl) rfl ?_
              refine Ops.nil ?_
              refine Ends.seq ?_
              first | refine Wp.cond_dect rfl (fun h76 => ?_) (fun h76 => ?_) | refine Wp.cond_t rfl (fun h76 => ?_) (fun h76 => ?_)
              · refine Wp.region ?_
                refine Ops.pv (pv_move rfl) rfl ?_
                refine Ops.pv (pv_move rfl) rfl ?_
                refine Ops.skipg ⟨_, _, rfl, rfl, rfl⟩ rfl ?_
                refine Ops.skipg ⟨_, _, rfl, rfl, rfl⟩ rfl ?_
                refine Ops.skipg ⟨_, _, rfl, rfl, rfl⟩ rfl ?_
                refine Ops.pv (pv_pick_false rfl rfl) rfl ?_
                refine Ops.pv (pv_assign rfl) rfl ?_
                refine Ops.nil ?_
                refine Ends.seq ?_
                refine Wp.seq ?_
                refine Wp.seq ?_
                refine Wp.region ?_
                refine Ops.pv (pv_move rfl) rfl ?_
                first | refine Ops.pv (pv_not_dec rfl) rfl ?_ | refine Ops.pv (pv_not rfl) rfl ?_
                refine Ops.nil ?_
                refine Ends.seq ?_
                refine Wp.cond_true rfl ?_
                refine Wp.seq ?_
                refine Wp.region ?_
                refine Ops.pv (pv_assign rfl) rfl ?_
                refine Ops.nil ?_
                refine Ends.seq ?_
                refine Wp.ret ?_
                refine Ends.then_ret ?_
                exact Ends.ret (res1 rfl rfl) ⟨by first | (rw [check_bad (by omega)]; done) | (rw [check_ok hr (by omega) (by unfold dOk; omega)]; done) | (rw [check_no hr (by omega) (by unfold dOk; omega)]; done), rfl⟩
              · refine Wp.skip ?_
                refine Ends.seq ?_
                refine Wp.seq ?_
                refine Wp.seq ?_
                refine Wp.region ?_
                refine Ops.pv (pv_move rfl) rfl ?_
                first | refine Ops.pv (pv_not_dec rfl) rfl ?_ | refine Ops.pv (pv_not rfl) rfl ?_
                refine Ops.nil ?_
                refine Ends.seq ?_
                refine Wp.cond_true rfl ?_
                refine Wp.seq ?_
                refine Wp.region ?_
                refine Ops.pv (pv_assign rfl) rfl ?_
                refine Ops.nil ?_
                refine Ends.seq ?_
                refine Wp.ret ?_
                refine Ends.then_ret ?_
                exact Ends.ret (res1 rfl rfl) ⟨by first | (rw [check_bad (by omega)]; done) | (rw [check_ok hr (by omega) (by unfold dOk; omega)]; done) | (rw [check_no hr (by omega) (by unfold dOk; omega)]; done), rfl⟩
            · refine Wp.skip ?_
              refine Ends.seq ?_
              refine Wp.seq ?_
              refine Wp.seq ?_
              refine Wp.region ?_
              first | refine Ops.pv (pv_fieldAddr0 rfl rfl) rfl ?_ | refine Ops.pv (pv_fieldAddr rfl rfl) rfl ?_
              first | refine Ops.pv (pv_load rfl rfl rfl) rfl ?_ | refine Ops.pv (pv_load rfl rfl (by assumption)) rfl ?_
              refine Ops.pv (pv_neq rfl rfl) rfl ?_
              refine Ops.nil ?_
              refine Ends.seq ?_
              first | refine Wp.cond_dect rfl (fun h77 => ?_) (fun h77 => ?_) | refine Wp.cond_t rfl (fun h77 => ?_) (fun h77 => ?_)
              · refine Wp.region ?_
                refine Ops.pv (pv_move rfl) rfl ?_
                refine Ops.pv (pv_move rfl) rfl ?_
                refine Ops.skipg ⟨_, _, rfl, rfl, rfl⟩ rfl ?_
                refine Ops.skipg ⟨_, _, rfl, rfl, rfl⟩ rfl ?_
                refine Ops.skipg ⟨_, _, rfl, rfl, rfl⟩ rfl ?_
                refine Ops.pv (pv_pick_false rfl rfl) rfl ?_
                refine Ops.pv (pv_assign rfl) rfl ?_
                refine Ops.nil ?_
                refine Ends.seq ?_
                refine Wp.seq ?_
                refine Wp.seq ?_
                refine Wp.region ?_
                refine Ops.pv (pv_move rfl) rfl ?_
                first | refine Ops.pv (pv_not_dec rfl) rfl ?_ | refine Ops.pv (pv_not rfl) rfl ?_
                refine Ops.nil ?_
                refine Ends.seq ?_
                refine Wp.cond_true rfl ?_
                refine Wp.seq ?_
                refine Wp.region ?_
                refine Ops.pv (pv_assign rfl) rfl ?_
                refine Ops.nil ?_
                refine Ends.seq ?_
                refine Wp.ret ?_
                refine Ends.then_ret ?_
                exact Ends.ret (res1 rfl rfl) ⟨by first | (rw [check_bad (by omega)]; done) | (rw [check_ok hr (by omega) (by unfold dOk; omega)]; done) | (rw [check_no hr (by omega) (by unfold dOk; omega)]; done), rfl⟩
              · refine Wp.skip ?_
                refine Ends.seq ?_
                refine Wp.seq ?_
                refine Wp.seq ?_
                refine Wp.region ?_
                refine Ops.pv (pv_move rfl) rfl ?_
                first | refine Ops.pv (pv_not_dec rfl) rfl ?_ | refine Ops.pv (pv_not rfl) rfl ?_
                refine Ops.nil ?_
                refine Ends.seq ?_
                refine Wp.cond_true rfl ?_
                refine Wp.seq ?_
                refine Wp.region ?_
                refine Ops.pv (pv_assign rfl) rfl ?_
                refine Ops.nil ?_
                refine Ends.seq ?_
                refine Wp.ret ?_
                refine Ends.then_ret ?_
                exact Ends.ret (res1 rfl rfl) ⟨by first | (rw [check_bad (by omega)]; done) | (rw [check_ok hr (by omega) (by unfold dOk; omega)]; done) | (rw [check_no hr (by omega) (by unfold dOk; omega)]; done), rfl⟩
          · refine Wp.skip ?_
            refine Ends.seq ?_
            refine Wp.seq ?_
            refine Wp.seq ?_
            refine Wp.region ?_
            first | refine Ops.pv (pv_fieldAddr0 rfl rfl) rfl ?_ | refine Ops.pv (pv_fieldAddr rfl rfl) rfl ?_
            first | refine Ops.pv (pv_load rfl rfl rfl) rfl ?_ | refine Ops.pv (pv_load rfl rfl (by assumption)) rfl ?_
            refine Ops.ef rfl (ef_callr (tr_badged c.kind) rfl rfl) ?_
            rintro _ _ ⟨rfl, rfl⟩
            first | refine Ops.pv (pv_not_dec rfl) rfl ?_ | refine Ops.pv (pv_not rfl) rfl ?_
            refine Ops.nil ?_
            refine Ends.seq ?_
            first | refine Wp.cond_dect rfl (fun h78 => ?_) (fun h78 => ?_) | refine Wp.cond_t rfl (fun h78 => ?_) (fun h78 => ?_)
            · refine Wp.region ?_
              refine Ops.pv (pv_move rfl) rfl ?_
              refine Ops.pv (pv_move rfl) rfl ?_
              refine Ops.skipg ⟨_, _, rfl, rfl, rfl⟩ rfl ?_
              refine Ops.skipg ⟨_, _, rfl, rfl, rfl⟩ rfl ?_
              refine Ops.skipg ⟨_, _, rfl, rfl, rfl⟩ rfl ?_
              refine Ops.pv (pv_pick_false rfl rfl) rfl ?_
              refine Ops.pv (pv_assign rfl) rfl ?_
              refine Ops.nil ?_
              refine Ends.seq ?_
              refine Wp.seq ?_
              refine Wp.seq ?_
              refine Wp.region ?_
              first | refine Ops.pv (pv_fieldAddr0 rfl rfl) rfl ?_ | refine Ops.pv (pv_fieldAddr rfl rfl) rfl ?_
              first | refine Ops.pv (pv_load rfl rfl rfl) rfl ?_ | refine Ops.pv (pv_load rfl rfl (by assumption)) rfl ?_
              refine Ops.pv (pv_neq rfl rfl) rfl ?_
              refine Ops.nil ?_
              refine Ends.seq ?_
              first | refine Wp.cond_dect rfl (fun h79 => ?_) (fun h79 => ?_) | refine Wp.cond_t rfl (fun h79 => ?_) (fun h79 => ?_)
              · refine Wp.region ?_
                refine Ops.pv (pv_move rfl) rfl ?_
                refine Ops.pv (pv_move rfl) rfl ?_
                refine Ops.skipg ⟨_, _, rfl, rfl, rfl⟩ rfl ?_
                refine Ops.skipg ⟨_, _, rfl, rfl, rfl⟩ rfl ?_
                refine Ops.skipg ⟨_, _, rfl, rfl, rfl⟩ rfl ?_
                refine Ops.pv (pv_pick_false rfl rfl) rfl ?_
                refine Ops.pv (pv_assign rfl) rfl ?_
                refine Ops.nil ?_
                refine Ends.seq ?_
                refine Wp.seq ?_
                refine Wp.seq ?_
                refine Wp.region ?_
                refine Ops.pv (pv_move rfl) rfl ?_
                first | refine Ops.pv (pv_not_dec rfl) rfl ?_ | refine Ops.pv (pv_not rfl) rfl ?_
                refine Ops.nil ?_
                refine Ends.seq ?_
                refine Wp.cond_true rfl ?_
                refine Wp.seq ?_
                refine Wp.region ?_
                refine Ops.pv (pv_assign rfl) rfl ?_
                refine Ops.nil ?_
                refine Ends.seq ?_
                refine Wp.ret ?_
                refine Ends.then_ret ?_
                exact Ends.ret (res1 rfl rfl) ⟨by first | (rw [check_bad (by omega)]; done) | (rw [check_ok hr (by omega) (by unfold dOk; omega)]; done) | (rw [check_no hr (by omega) (by unfold dOk; omega)]; done), rfl⟩
              · refine Wp.skip ?_
                refine Ends.seq ?_
                refine Wp.seq ?_
                refine Wp.seq ?_
                refine Wp.region ?_
                refine Ops.pv (pv_move rfl) rfl ?_
                first | refine Ops.pv (pv_not_dec rfl) rfl ?_ | refine Ops.pv (pv_not rfl) rfl ?_
                refine Ops.nil ?_
                refine Ends.seq ?_
                refine Wp.cond_true rfl ?_
                refine Wp.seq ?_
                refine Wp.region ?_
                refine Ops.pv (pv_assign rfl) rfl ?_
                refine Ops.nil ?_
                refine Ends.seq ?_
                refine Wp.ret ?_
                refine Ends.then_ret ?_
                exact Ends.ret (res1 rfl rfl) ⟨by first | (rw [check_bad (by omega)]; done) | (rw [check_ok hr (by omega) (by unfold dOk; omega)]; done) | (rw [check_no hr (by omega) (by unfold dOk; omega)]; done), rfl⟩
            · refine Wp.skip ?_
              refine Ends.seq ?_
              refine Wp.seq ?_
              refine Wp.seq ?_
              refine Wp.region ?_
              first | refine Ops.pv (pv_fieldAddr0 rfl rfl) rfl ?_ | refine Ops.pv (pv_fieldAddr rfl rfl) rfl ?_
              first | refine Ops.pv (pv_load rfl rfl rfl) rfl ?_ | refine Ops.pv (pv_load rfl rfl (by assumption)) rfl ?_
              refine Ops.pv (pv_neq rfl rfl) rfl ?_
              refine Ops.nil ?_
              refine Ends.seq ?_
              first | refine Wp.cond_dect rfl (fun h80 => ?_) (fun h80 => ?_) | refine Wp.cond_t rfl (fun h80 => ?_) (fun h80 => ?_)
              · refine Wp.region ?_
                refine Ops.pv (pv_move rfl) rfl ?_
                refine Ops.pv (pv_move rfl) rfl ?_
                refine Ops.skipg ⟨_, _, rfl, rfl, rfl⟩ rfl ?_
                refine Ops.skipg ⟨_, _, rfl, rfl, rfl⟩ rfl ?_
                refine Ops.skipg ⟨_, _, rfl, rfl, rfl⟩ rfl ?_
                refine Ops.pv (pv_pick_false rfl rfl) rfl ?_
                refine Ops.pv (pv_assign rfl) rfl ?_
                refine Ops.nil ?_
                refine Ends.seq ?_
                refine Wp.seq ?_
                refine Wp.seq ?_
                refine Wp.region ?_
                refine Ops.pv (pv_move rfl) rfl ?_
                first | refine Ops.pv (pv_not_dec rfl) rfl ?_ | refine Ops.pv (pv_not rfl) rfl ?_
                refine Ops.nil ?_
                refine Ends.seq ?_
                refine Wp.cond_true rfl ?_
                refine Wp.seq ?_
                refine Wp.region ?_
                refine Ops.pv (pv_assign rfl) rfl ?_
                refine Ops.nil ?_
                refine Ends.seq ?_
                refine Wp.ret ?_
                refine Ends.then_ret ?_
                exact Ends.ret (res1 rfl rfl) ⟨by first | (rw [check_bad (by omega)]; done) | (rw [check_ok hr (by omega) (by unfold dOk; omega)]; done) | (rw [check_no hr (by omega) (by unfold dOk; omega)]; done), rfl⟩
              · refine Wp.skip ?_
                refine Ends.seq ?_
                refine Wp.seq ?_
                refine Wp.seq ?_
                refine Wp.region ?_
                refine Ops.pv (pv_move rfl) rfl ?_
                first | refine Ops.pv (pv_not_dec rfl) rfl ?_ | refine Ops.pv (pv_not rfl) rfl ?_
                refine Ops.nil ?_
                refine Ends.seq ?_
                refine Wp.cond_true rfl ?_
                refine Wp.seq ?_
                refine Wp.region ?_
                refine Ops.pv (pv_assign rfl) rfl ?_
                refine Ops.nil ?_
                refine Ends.seq ?_
                refine Wp.ret ?_
                refine Ends.then_ret ?_
                exact Ends.ret (res1 rfl rfl) ⟨by first | (rw [check_bad (by omega)]; done) | (rw [check_ok hr (by omega) (by unfold dOk; omega)]; done) | (rw [check_no hr (by omega) (by unfold dOk; omega)]; done), rfl⟩
    · refine Ops.skipg ⟨_, _, rfl, rfl, rfl⟩ rfl ?_
      refine Ops.skipg ⟨_, _, rfl, rfl, rfl⟩ rfl ?_
      refine Ops.skipg ⟨_, _, rfl, rfl, rfl⟩ rfl ?_
      refine Ops.pv (pv_pick_false rfl rfl) rfl ?_
      refine Ops.pv (pv_move rfl) rfl ?_
      refine Ops.skipg ⟨_, _, rfl, rfl, rfl⟩ rfl ?_
      refine Ops.skipg ⟨_, _, rfl, rfl, rfl⟩ rfl ?_
      refine Ops.skipg ⟨_, _, rfl, rfl, rfl⟩ rfl ?_
      refine Ops.pv (pv_pick_false rfl rfl) rfl ?_
      refine Ops.pv (pv_move rfl) rfl ?_
      refine Ops.skipg ⟨_, _, rfl, rfl, rfl⟩ rfl ?_
      refine Ops.skipg ⟨_, _, rfl, rfl, rfl⟩ rfl ?_
      refine Ops.skipg ⟨_, _, rfl, rfl, rfl⟩ rfl ?_
      refine Ops.skipg ⟨_, _, rfl, rfl, rfl⟩ rfl ?_
      refine Ops.skipg ⟨_, _, rfl, rfl, rfl⟩ rfl ?_
      refine Ops.pv (pv_pick_false rfl rfl) rfl ?_
      refine Ops.pv (pv_assign rfl) rfl ?_
      refine Ops.nil ?_
      refine Ends.seq ?_
      refine Wp.seq ?_
      refine Wp.seq ?_
      refine Wp.region ?_
      first | refine Ops.pv (pv_fieldAddr0 rfl rfl) rfl ?_ | refine Ops.pv (pv_fieldAddr rfl rfl) rfl ?_
      first | refine Ops.pv (pv_load rfl rfl rfl) rfl ?_ | refine Ops.pv (pv_load rfl rfl (by assumption)) rfl ?_
      refine Ops.pv (pv_eql rfl rfl) rfl ?_
      refine Ops.pv (pv_move rfl) rfl ?_
      first | refine Ops.pvcn rfl rfl (fun hg => pv_fieldAddr0 rfl rfl) rfl ?_ | refine Ops.pvcn rfl rfl (fun hg => pv_fieldAddr rfl rfl) rfl ?_
      first | refine Ops.pvcn rfl rfl (fun hg => Pv.setE (t := 41) rfl (cv_pos hg) (pv_load rfl rfl rfl)) rfl ?_ | refine Ops.pvcn rfl rfl (fun hg => Pv.setE (t := 41) rfl (cv_pos hg) (pv_load rfl rfl (by assumption))) rfl ?_
      refine Ops.pvcn rfl rfl (fun hg => Pv.setE (t := 41) rfl (cv_pos hg) (Pv.setE (t := 42) rfl (cv_pos hg) (pv_eql rfl rfl))) rfl ?_
      refine Ops.pv (pv_pick_or rfl rfl) rfl ?_
      refine Ops.nil ?_
      refine Ends.seq ?_
      first | refine Wp.cond_dect rfl (fun h81 => ?_) (fun h81 => ?_) | refine Wp.cond_t rfl (fun h81 => ?_) (fun h81 => ?_)
      · refine Wp.region ?_
        refine Ops.pv (pv_move rfl) rfl ?_
        refine Ops.pv (pv_move rfl) rfl ?_
        refine Ops.skipg ⟨_, _, rfl, rfl, rfl⟩ rfl ?_
        refine Ops.skipg ⟨_, _, rfl, rfl, rfl⟩ rfl ?_
        refine Ops.skipg ⟨_, _, rfl, rfl, rfl⟩ rfl ?_
        refine Ops.pv (pv_pick_false rfl rfl) rfl ?_
        refine Ops.pv (pv_assign rfl) rfl ?_
        refine Ops.nil ?_
        refine Ends.seq ?_
        refine Wp.seq ?_
        refine Wp.seq ?_
        refine Wp.region ?_
        first | refine Ops.pv (pv_fieldAddr0 rfl rfl) rfl ?_ | refine Ops.pv (pv_fieldAddr rfl rfl) rfl ?_
        first | refine Ops.pv (pv_load rfl rfl rfl) rfl ?_ | refine Ops.pv (pv_load rfl rfl (by assumption)) rfl ?_
        refine Ops.ef rfl (ef_callr (tr_righted c.kind) rfl rfl) ?_
        rintro _ _ ⟨rfl, rfl⟩
        first | refine Ops.pv (pv_not_dec rfl) rfl ?_ | refine Ops.pv (pv_not rfl) rfl ?_
        refine Ops.nil ?_
        refine Ends.seq ?_
        first | refine Wp.cond_dect rfl (fun h82 => ?_) (fun h82 => ?_) | refine Wp.cond_t rfl (fun h82 => ?_) (fun h82 => ?_)
        · refine Wp.region ?_
          refine Ops.pv (pv_move rfl) rfl ?_
          refine Ops.pv (pv_move rfl) rfl ?_
          refine Ops.skipg ⟨_, _, rfl, rfl, rfl⟩ rfl ?_
          refine Ops.skipg ⟨_, _, rfl, rfl, rfl⟩ rfl ?_
          refine Ops.skipg ⟨_, _, rfl, rfl, rfl⟩ rfl ?_
          refine Ops.pv (pv_pick_false rfl rfl) rfl ?_
          refine Ops.pv (pv_assign rfl) rfl ?_
          refine Ops.nil ?_
          refine Ends.seq ?_
          refine Wp.seq ?_
          refine Wp.seq ?_
          refine Wp.region ?_
          first | refine Ops.pv (pv_fieldAddr0 rfl rfl) rfl ?_ | refine Ops.pv (pv_fieldAddr rfl rfl) rfl ?_
          first | refine Ops.pv (pv_load rfl rfl rfl) rfl ?_ | refine Ops.pv (pv_load rfl rfl (by assumption)) rfl ?_
          refine Ops.ef rfl (ef_callr (tr_badged c.kind) rfl rfl) ?_
          rintro _ _ ⟨rfl, rfl⟩
          first | refine Ops.pv (pv_not_dec rfl) rfl ?_ | refine Ops.pv (pv_not rfl) rfl ?_
          refine Ops.nil ?_
          refine Ends.seq ?_
          first | refine Wp.cond_dect rfl (fun h83 => ?_) (fun h83 => ?_) | refine Wp.cond_t rfl (fun h83 => ?_) (fun h83 => ?_)
          · refine Wp.region ?_
            refine Ops.pv (pv_move rfl) rfl ?_
            refine Ops.pv (pv_move rfl) rfl ?_
            refine Ops.skipg ⟨_, _, rfl, rfl, rfl⟩ rfl ?_
            refine Ops.skipg ⟨_, _, rfl, rfl, rfl⟩ rfl ?_
            refine Ops.skipg ⟨_, _, rfl, rfl, rfl⟩ rfl ?_
            refine Ops.pv (pv_pick_false rfl rfl) rfl ?_
            refine Ops.pv (pv_assign rfl) rfl ?_
            refine Ops.nil ?_
            refine Ends.seq ?_
            refine Wp.seq ?_
            refine Wp.seq ?_
            refine Wp.region ?_
            first | refine Ops.pv (pv_fieldAddr0 rfl rfl) rfl ?_ | refine Ops.pv (pv_fieldAddr rfl rfl) rfl ?_
            first | refine Ops.pv (pv_load rfl rfl rfl) rfl ?_ | refine Ops.pv (pv_load rfl rfl (by assumption)) rfl ?_
            refine Ops.pv (pv_neq rfl rfl) rfl ?_
            refine Ops.nil ?_
            refine Ends.seq ?_
            first | refine Wp.cond_dect rfl (fun h84 => ?_) (fun h84 => ?_) | refine Wp.cond_t rfl (fun h84 => ?_) (fun h84 => ?_)
            · refine Wp.region ?_
              refine Ops.pv (pv_move rfl) rfl ?_
              refine Ops.pv (pv_move rfl) rfl ?_
              refine Ops.skipg ⟨_, _, rfl, rfl, rfl⟩ rfl ?_
              refine Ops.skipg ⟨_, _, rfl, rfl, rfl⟩ rfl ?_
              refine Ops.skipg ⟨_, _, rfl, rfl, rfl⟩ rfl ?_
              refine Ops.pv (pv_pick_false rfl rfl) rfl ?_
              refine Ops.pv (pv_assign rfl) rfl ?_
              refine Ops.nil ?_
              refine Ends.seq ?_
              refine Wp.seq ?_
              refine Wp.seq ?_
              refine Wp.region ?_
              refine Ops.pv (pv_move rfl) rfl ?_
              first | refine Ops.pv (pv_not_dec rfl) rfl ?_ | refine Ops.pv (pv_not rfl) rfl ?_
              refine Ops.nil ?_
              refine Ends.seq ?_
              refine Wp.cond_true rfl ?_
              refine Wp.seq ?_
              refine Wp.region ?_
              refine Ops.pv (pv_assign rfl) rfl ?_
              refine Ops.nil ?_
              refine Ends.seq ?_
              refine Wp.ret ?_
              refine Ends.then_ret ?_
              exact Ends.ret (res1 rfl rfl) ⟨by first | (rw [check_bad (by omega)]; done) | (rw [check_ok hr (by omega) (by unfold dOk; omega)]; done) | (rw [check_no hr (by omega) (by unfold dOk; omega)]; done), rfl⟩
            · refine Wp.skip ?_
              refine Ends.seq ?_
              refine Wp.seq ?_
              refine Wp.seq ?_
              refine Wp.region ?_
              refine Ops.pv (pv_move rfl) rfl ?_
              first | refine Ops.pv (pv_not_dec rfl) rfl ?_ | refine Ops.pv (pv_not rfl) rfl ?_
              refine Ops.nil ?_
              refine Ends.seq ?_
              refine Wp.cond_true rfl ?_
              refine Wp.seq ?_
              refine Wp.region ?_
              refine Ops.pv (pv_assign rfl) rfl ?_
              refine Ops.nil ?_
              refine Ends.seq ?_
              refine Wp.ret ?_
              refine Ends.then_ret ?_
              exact Ends.ret (res1 rfl rfl) ⟨by first | (rw [check_bad (by omega)]; done) | (rw [check_ok hr (by omega) (by unfold dOk; omega)]; done) | (rw [check_no hr (by omega) (by unfold dOk; omega)]; done), rfl⟩
          · refine Wp.skip ?_
            refine Ends.seq ?_
            refine Wp.seq ?_
            refine Wp.seq ?_
            refine Wp.region ?_
            first | refine Ops.pv (pv_fieldAddr0 rfl rfl) rfl ?_ | refine Ops.pv (pv_fieldAddr rfl rfl) rfl ?_
            first | refine Ops.pv (pv_load rfl rfl rfl) rfl ?_ | refine Ops.pv (pv_load rfl rfl (by assumption)) rfl ?_
            refine Ops.pv (pv_neq rfl rfl) rfl ?_
            refine Ops.nil ?_
            refine Ends.seq ?_
            first | refine Wp.cond_dect rfl (fun h85 => ?_) (fun h85 => ?_) | refine Wp.cond_t rfl (fun h85 => ?_) (fun h85 => ?_)
            · refine Wp.region ?_
              refine Ops.pv (pv_move rfl) rfl ?_
              refine Ops.pv (pv_move rfl) rfl ?_
              refine Ops.skipg ⟨_, _, rfl, rfl, rfl⟩ rfl ?_
              refine Ops.skipg ⟨_, _, rfl, rfl, rfl⟩ rfl ?_
              refine Ops.skipg ⟨_, _, rfl, rfl, rfl⟩ rfl ?_
              refine Ops.pv (pv_pick_false rfl rfl) rfl ?_
              refine Ops.pv (pv_assign rfl) rfl ?_
              refine Ops.nil ?_
              refine Ends.seq ?_
              refine Wp.seq ?_
              refine Wp.seq ?_
              refine Wp.region ?_
              refine Ops.pv (pv_move rfl) rfl ?_
              first | refine Ops.pv (pv_not_dec rfl) rfl ?_ | refine Ops.pv (pv_not rfl) rfl ?_
              refine Ops.nil ?_
              refine Ends.seq ?_
              refine Wp.cond_true rfl ?_
              refine Wp.seq ?_
              refine Wp.region ?_
              refine Ops.pv (pv_assign rfl) rfl ?_
              refine Ops.nil ?_
              refine Ends.seq ?_
              refine Wp.ret ?_
              refine Ends.then_ret ?_
              exact Ends.ret (res1 rfl rfl) ⟨by first | (rw [check_bad (by omega)]; done) | (rw [check_ok hr (by omega) (by unfold dOk; omega)]; done) | (rw [check_no hr (by omega) (by unfold dOk; omega)]; done), rfl⟩
            · refine Wp.skip ?_
              refine Ends.seq ?_
              refine Wp.seq ?_
              refine Wp.seq ?_
              refine Wp.region ?_
              refine Ops.pv (pv_move rfl) rfl ?_
              first | refine Ops.pv (pv_not_dec rfl) rfl ?_ | refine Ops.pv (pv_not rfl) rfl ?_
              refine Ops.nil ?_
              refine Ends.seq ?_
              refine Wp.cond_true rfl ?_
              refine Wp.seq ?_
              refine Wp.region ?_
              refine Ops.pv (pv_assign rfl) rfl ?_
              refine Ops.nil ?_
              refine Ends.seq ?_
              refine Wp.ret ?_
              refine Ends.then_ret ?_
              exact Ends.ret (res1 rfl rfl) ⟨by first | (rw [check_bad (by omega)]; done) | (rw [check_ok hr (by omega) (by unfold dOk; omega)]; done) | (rw [check_no hr (by omega) (by unfold dOk; omega)]; done), rfl⟩
        · refine Wp.skip ?_
          refine Ends.seq ?_
          refine Wp.seq ?_
          refine Wp.seq ?_
          refine Wp.region ?_
          first | refine Ops.pv (pv_fieldAddr0 rfl rfl) rfl ?_ | refine Ops.pv (pv_fieldAddr rfl rfl) rfl ?_
          first | refine Ops.pv (pv_load rfl rfl rfl) rfl ?_ | refine Ops.pv (pv_load rfl rfl (by assumption)) rfl ?_
          refine Ops.ef rfl (ef_callr (tr_badged c.kind) rfl rfl) ?_
          rintro _ _ ⟨rfl, rfl⟩
          first | refine Ops.pv (pv_not_dec rfl) rfl ?_ | refine Ops.pv (pv_not rfl) rfl ?_
          refine Ops.nil ?_
          refine Ends.seq ?_
          first | refine Wp.cond_dect rfl (fun h86 => ?_) (fun h86 => ?_) | refine Wp.cond_t rfl (fun h86 => ?_) (fun h86 => ?_)
          · refine Wp.region ?_
            refine Ops.pv (pv_move rfl) rfl ?_
            refine Ops.pv (pv_move rfl) rfl ?_
            refine Ops.skipg ⟨_, _, rfl, rfl, rfl⟩ rfl ?_
            refine Ops.skipg ⟨_, _, rfl, rfl, rfl⟩ rfl ?_
            refine Ops.skipg ⟨_, _, rfl, rfl, rfl⟩ rfl ?_
            refine Ops.pv (pv_pick_false rfl rfl) rfl ?_
            refine Ops.pv (pv_assign rfl) rfl ?_
            refine Ops.nil ?_
            refine Ends.seq ?_
            refine Wp.seq ?_
            refine Wp.seq ?_
            refine Wp.region ?_
            first | refine Ops.pv (pv_fieldAddr0 rfl rfl) rfl ?_ | refine Ops.pv (pv_fieldAddr rfl rfl) rfl ?_
            first | refine Ops.pv (pv_load rfl rfl rfl) rfl ?_ | refine Ops.pv (pv_load rfl rfl (by assumption)) rfl ?_
            refine Ops.pv (pv_neq rfl rfl) rfl ?_
            refine Ops.nil ?_
            refine Ends.seq ?_
            first | refine Wp.cond_dect rfl (fun h87 => ?_) (fun h87 => ?_) | refine Wp.cond_t rfl (fun h87 => ?_) (fun h87 => ?_)
            · refine Wp.region ?_
              refine Ops.pv (pv_move rfl) rfl ?_
              refine Ops.pv (pv_move rfl) rfl ?_
              refine Ops.skipg ⟨_, _, rfl, rfl, rfl⟩ rfl ?_
              refine Ops.skipg ⟨_, _, rfl, rfl, rfl⟩ rfl ?_
              refine Ops.skipg ⟨_, _, rfl, rfl, rfl⟩ rfl ?_
              refine Ops.pv (pv_pick_false rfl rfl) rfl ?_
              refine Ops.pv (pv_assign rfl) rfl ?_
              refine Ops.nil ?_
              refine Ends.seq ?_
              refine Wp.seq ?_
              refine Wp.seq ?_
              refine Wp.region ?_
              refine Ops.pv (pv_move rfl) rfl ?_
              first | refine Ops.pv (pv_not_dec rfl) rfl ?_ | refine Ops.pv (pv_not rfl) rfl ?_
              refine Ops.nil ?_
              refine Ends.seq ?_
              refine Wp.cond_true rfl ?_
              refine Wp.seq ?_
              refine Wp.region ?_
              refine Ops.pv (pv_assign rfl) rfl ?_
              refine Ops.nil ?_
              refine Ends.seq ?_
              refine Wp.ret ?_
              refine Ends.then_ret ?_
              exact Ends.ret (res1 rfl rfl) ⟨by first | (rw [check_bad (by omega)]; done) | (rw [check_ok hr (by omega) (by unfold dOk; omega)]; done) | (rw [check_no hr (by omega) (by unfold dOk; omega)]; done), rfl⟩
            · refine Wp.skip ?_
              refine Ends.seq ?_
              refine Wp.seq ?_
              refine Wp.seq ?_
              refine Wp.region ?_
              refine Ops.pv (pv_move rfl) rfl ?_
              first | refine Ops.pv (pv_not_dec rfl) rfl ?_ | refine Ops.pv (pv_not rfl) rfl ?_
              refine Ops.nil ?_
              refine Ends.seq ?_
              refine Wp.cond_true rfl ?_
              refine Wp.seq ?_
              refine Wp.region ?_
              refine Ops.pv (pv_assign rfl) rfl ?_
              refine Ops.nil ?_
              refine Ends.seq ?_
              refine Wp.ret ?_
              refine Ends.then_ret ?_
              exact Ends.ret (res1 rfl rfl) ⟨by first | (rw [check_bad (by omega)]; done) | (rw [check_ok hr (by omega) (by unfold dOk; omega)]; done) | (rw [check_no hr (by omega) (by unfold dOk; omega)]; done), rfl⟩
          · refine Wp.skip ?_
            refine Ends.seq ?_
            refine Wp.seq ?_
            refine Wp.seq ?_
            refine Wp.region ?_
            first | refine Ops.pv (pv_fieldAddr0 rfl rfl) rfl ?_ | refine Ops.pv (pv_fieldAddr rfl rfl) rfl ?_
            first | refine Ops.pv (pv_load rfl rfl rfl) rfl ?_ | refine Ops.pv (pv_load rfl rfl (by assumption)) rfl ?_
            refine Ops.pv (pv_neq rfl rfl) rfl ?_
            refine Ops.nil ?_
            refine Ends.seq ?_
            first | refine Wp.cond_dect rfl (fun h88 => ?_) (fun h88 => ?_) | refine Wp.cond_t rfl (fun h88 => ?_) (fun h88 => ?_)
            · refine Wp.region ?_
              refine Ops.pv (pv_move rfl) rfl ?_
              refine Ops.pv (pv_move rfl) rfl ?_
              refine Ops.skipg ⟨_, _, rfl, rfl, rfl⟩ rfl ?_
              refine Ops.skipg ⟨_, _, rfl, rfl, rfl⟩ rfl ?_
              refine Ops.skipg ⟨_, _, rfl, rfl, rfl⟩ rfl ?_
              refine Ops.pv (pv_pick_false rfl rfl) rfl ?_
              refine Ops.pv (pv_assign rfl) rfl ?_
              refine Ops.nil ?_
              refine Ends.seq ?_
              refine Wp.seq ?_
              refine Wp.seq ?_
              refine Wp.region ?_
              refine Ops.pv (pv_move rfl) rfl ?_
              first | refine Ops.pv (pv_not_dec rfl) rfl ?_ | refine Ops.pv (pv_not rfl) rfl ?_
              refine Ops.nil ?_
              refine Ends.seq ?_
              refine Wp.cond_true rfl ?_
              refine Wp.seq ?_
              refine Wp.region ?_
              refine Ops.pv (pv_assign rfl) rfl ?_
              refine Ops.nil ?_
              refine Ends.seq ?_
              refine Wp.ret ?_
              refine Ends.then_ret ?_
              exact Ends.ret (res1 rfl rfl) ⟨by first | (rw [check_bad (by omega)]; done) | (rw [check_ok hr (by omega) (by unfold dOk; omega)]; done) | (rw [check_no hr (by omega) (by unfold dOk; omega)]; done), rfl⟩
            · refine Wp.skip ?_
              refine Ends.seq ?_
              refine Wp.seq ?_
              refine Wp.seq ?_
              refine Wp.region ?_
              refine Ops.pv (pv_move rfl) rfl ?_
              first | refine Ops.pv (pv_not_dec rfl) rfl ?_ | refine Ops.pv (pv_not rfl) rfl ?_
              refine Ops.nil ?_
              refine Ends.seq ?_
              refine Wp.cond_true rfl ?_
              refine Wp.seq ?_
              refine Wp.region ?_
              refine Ops.pv (pv_assign rfl) rfl ?_
              refine Ops.nil ?_
              refine Ends.seq ?_
              refine Wp.ret ?_
              refine Ends.then_ret ?_
              exact Ends.ret (res1 rfl rfl) ⟨by first | (rw [check_bad (by omega)]; done) | (rw [check_ok hr (by omega) (by unfold dOk; omega)]; done) | (rw [check_no hr (by omega) (by unfold dOk; omega)]; done), rfl⟩
      · refine Wp.skip ?_
        refine Ends.seq ?_
        refine Wp.seq ?_
        refine Wp.seq ?_
        refine Wp.region ?_
        first | refine Ops.pv (pv_fieldAddr0 rfl rfl) rfl ?_ | refine Ops.pv (pv_fieldAddr rfl rfl) rfl ?_
        first | refine Ops.pv (pv_load rfl rfl rfl) rfl ?_ | refine Ops.pv (pv_load rfl rfl (by assumption)) rfl ?_
        refine Ops.ef rfl (ef_callr (tr_righted c.kind) rfl rfl) ?_
        rintro _ _ ⟨rfl, rfl⟩
        first | refine Ops.pv (pv_not_dec rfl) rfl ?_ | refine Ops.pv (pv_not rfl) rfl ?_
        refine Ops.nil ?_
        refine Ends.seq ?_
        first | refine Wp.cond_dect rfl (fun h89 => ?_) (fun h89 => ?_) | refine Wp.cond_t rfl (fun h89 => ?_) (fun h89 => ?_)
        · refine Wp.region ?_
          refine Ops.pv (pv_move rfl) rfl ?_
          refine Ops.pv (pv_move rfl) rfl ?_
          refine Ops.skipg ⟨_, _, rfl, rfl, rfl⟩ rfl ?_
          refine Ops.skipg ⟨_, _, rfl, rfl, rfl⟩ rfl ?_
          refine Ops.skipg ⟨_, _, rfl, rfl, rfl⟩ rfl ?_
          refine Ops.pv (pv_pick_false rfl rfl) rfl ?_
          refine Ops.pv (pv_assign rfl) rfl ?_
          refine Ops.nil ?_
          refine Ends.seq ?_
          refine Wp.seq ?_
          refine Wp.seq ?_
          refine Wp.region ?_
          first | refine Ops.pv (pv_fieldAddr0 rfl rfl) rfl ?_ | refine Ops.pv (pv_fieldAddr rfl rfl) rfl ?_
          first | refine Ops.pv (pv_load rfl rfl rfl) rfl ?_ | refine Ops.pv (pv_load rfl rfl (by assumption)) rfl ?_
          refine Ops.ef rfl (ef_callr (tr_badged c.kind) rfl rfl) ?_
          rintro _ _ ⟨rfl, rfl⟩
          first | refine Ops.pv (pv_not_dec rfl) rfl ?_ | refine Ops.pv (pv_not rfl) rfl ?_
          refine Ops.nil ?_
          refine Ends.seq ?_
          first | refine Wp.cond_dect rfl (fun h90 => ?_) (fun h90 => ?_) | refine Wp.cond_t rfl (fun h90 => ?_) (fun h90 => ?_)
          · refine Wp.region ?_
            refine Ops.pv (pv_move rfl) rfl ?_
            refine Ops.pv (pv_move rfl) rfl ?_
            refine Ops.skipg ⟨_, _, rfl, rfl, rfl⟩ rfl ?_
            refine Ops.skipg ⟨_, _, rfl, rfl, rfl⟩ rfl ?_
            refine Ops.skipg ⟨_, _, rfl, rfl, rfl⟩ rfl ?_
            refine Ops.pv (pv_pick_false rfl rfl) rfl ?_
            refine Ops.pv (pv_assign rfl) rfl ?_
            refine Ops.nil ?_
            refine Ends.seq ?_
            refine Wp.seq ?_
            refine Wp.seq ?_
            refine Wp.region ?_
            first | refine Ops.pv (pv_fieldAddr0 rfl rfl) rfl ?_ | refine Ops.pv (pv_fieldAddr rfl rfl) rfl ?_
            first | refine Ops.pv (pv_load rfl rfl rfl) rfl ?_ | refine Ops.pv (pv_load rfl rfl (by assumption)) rfl ?_
            refine Ops.pv (pv_neq rfl rfl) rfl ?_
            refine Ops.nil ?_
            refine Ends.seq ?_
            first | refine Wp.cond_dect rfl (fun h91 => ?_) (fun h91 => ?_) | refine Wp.cond_t rfl (fun h91 => ?_) (fun h91 => ?_)
            · refine Wp.region ?_
              refine Ops.pv (pv_move rfl) rfl ?_
              refine Ops.pv (pv_move rfl) rfl ?_
              refine Ops.skipg ⟨_, _, rfl, rfl, rfl⟩ rfl ?_
              refine Ops.skipg ⟨_, _, rfl, rfl, rfl⟩ rfl ?_
              refine Ops.skipg ⟨_, _, rfl, rfl, rfl⟩ rfl ?_
              refine Ops.pv (pv_pick_false rfl rfl) rfl ?_
              refine Ops.pv (pv_assign rfl) rfl ?_
              refine Ops.nil ?_
              refine Ends.seq ?_
              refine Wp.seq ?_
              refine Wp.seq ?_
              refine Wp.region ?_
              refine Ops.pv (pv_move rfl) rfl ?_
              first | refine Ops.pv (pv_not_dec rfl) rfl ?_ | refine Ops.pv (pv_not rfl) rfl ?_
              refine Ops.nil ?_
              refine Ends.seq ?_
              refine Wp.cond_true rfl ?_
              refine Wp.seq ?_
              refine Wp.region ?_
              refine Ops.pv (pv_assign rfl) rfl ?_
              refine Ops.nil ?_
              refine Ends.seq ?_
              refine Wp.ret ?_
              refine Ends.then_ret ?_
              exact Ends.ret (res1 rfl rfl) ⟨by first | (rw [check_bad (by omega)]; done) | (rw [check_ok hr (by omega) (by unfold dOk; omega)]; done) | (rw [check_no hr (by omega) (by unfold dOk; omega)]; done), rfl⟩
            · refine Wp.skip ?_
              refine Ends.seq ?_
              refine Wp.seq ?_
              refine Wp.seq ?_
              refine Wp.region ?_
              refine Ops.pv (pv_move rfl) rfl ?_
              first | refine Ops.pv (pv_not_dec rfl) rfl ?_ | refine Ops.pv (pv_not rfl) rfl ?_
              refine Ops.nil ?_
              refine Ends.seq ?_
              refine Wp.cond_true rfl ?_
              refine Wp.seq ?_
              refine Wp.region ?_
              refine Ops.pv (pv_assign rfl) rfl ?_
              refine Ops.nil ?_
              refine Ends.seq ?_
              refine Wp.ret ?_
              refine Ends.then_ret ?_
              exact Ends.ret (res1 rfl rfl) ⟨by first | (rw [check_bad (by omega)]; done) | (rw [check_ok hr (by omega) (by unfold dOk; omega)]; done) | (rw [check_no hr (by omega) (by unfold dOk; omega)]; done), rfl⟩
          · refine Wp.skip ?_
            refine Ends.seq ?_
            refine Wp.seq ?_
            refine Wp.seq ?_
            refine Wp.region ?_
            first | refine Ops.pv (pv_fieldAddr0 rfl rfl) rfl ?_ | refine Ops.pv (pv_fieldAddr rfl rfl) rfl ?_
            first | refine Ops.pv (pv_load rfl rfl rfl) rfl ?_ | refine Ops.pv (pv_load rfl rfl (by assumption)) rfl ?_
            refine Ops.pv (pv_neq rfl rfl) rfl ?_
            refine Ops.nil ?_
            refine Ends.seq ?_
            first | refine Wp.cond_dect rfl (fun h92 => ?_) (fun h92 => ?_) | refine Wp.cond_t rfl (fun h92 => ?_) (fun h92 => ?_)
            · refine Wp.region ?_
              refine Ops.pv (pv_move rfl) rfl ?_
              refine Ops.pv (pv_move rfl) rfl ?_
              refine Ops.skipg ⟨_, _, rfl, rfl, rfl⟩ rfl ?_
              refine Ops.skipg ⟨_, _, rfl, rfl, rfl⟩ rfl ?_
              refine Ops.skipg ⟨_, _, rfl, rfl, rfl⟩ rfl ?_
              refine Ops.pv (pv_pick_false rfl rfl) rfl ?_
              refine Ops.pv (pv_assign rfl) rfl ?_
              refine Ops.nil ?_
              refine Ends.seq ?_
              refine Wp.seq ?_
              refine Wp.seq ?_
              refine Wp.region ?_
              refine Ops.pv (pv_move rfl) rfl ?_
              first | refine Ops.pv (pv_not_dec rfl) rfl ?_ | refine Ops.pv (pv_not rfl) rfl ?_
              refine Ops.nil ?_
              refine Ends.seq ?_
              refine Wp.cond_true rfl ?_
              refine Wp.seq ?_
              refine Wp.region ?_
              refine Ops.pv (pv_assign rfl) rfl ?_
              refine Ops.nil ?_
              refine Ends.seq ?_
              refine Wp.ret ?_
              refine Ends.then_ret ?_
              exact Ends.ret (res1 rfl rfl) ⟨by first | (rw [check_bad (by omega)]; done) | (rw [check_ok hr (by omega) (by unfold dOk; omega)]; done) | (rw [check_no hr (by omega) (by unfold dOk; omega)]; done), rfl⟩
            · refine Wp.skip ?_
              refine Ends.seq ?_
              refine Wp.seq ?_
              refine Wp.seq ?_
              refine Wp.region ?_
              refine Ops.pv (pv_move rfl) rfl ?_
              first | refine Ops.pv (pv_not_dec rfl) rfl ?_ | refine Ops.pv (pv_not rfl) rfl ?_
              refine Ops.nil ?_
              refine Ends.seq ?_
              refine Wp.cond_true rfl ?_
              refine Wp.seq ?_
              refine Wp.region ?_
              refine Ops.pv (pv_assign rfl) rfl ?_
              refine Ops.nil ?_
              refine Ends.seq ?_
              refine Wp.ret ?_
              refine Ends.then_ret ?_
              exact Ends.ret (res1 rfl rfl) ⟨by first | (rw [check_bad (by omega)]; done) | (rw [check_ok hr (by omega) (by unfold dOk; omega)]; done) | (rw [check_no hr (by omega) (by unfold dOk; omega)]; done), rfl⟩
        · refine Wp.skip ?_
          refine Ends.seq ?_
          refine Wp.seq ?_
          refine Wp.seq ?_
          refine Wp.region ?_
          first | refine Ops.pv (pv_fieldAddr0 rfl rfl) rfl ?_ | refine Ops.pv (pv_fieldAddr rfl rfl) rfl ?_
          first | refine Ops.pv (pv_load rfl rfl rfl) rfl ?_ | refine Ops.pv (pv_load rfl rfl (by assumption)) rfl ?_
          refine Ops.ef rfl (ef_callr (tr_badged c.kind) rfl rfl) ?_
          rintro _ _ ⟨rfl, rfl⟩
          first | refine Ops.pv (pv_not_dec rfl) rfl ?_ | refine Ops.pv (pv_not rfl) rfl ?_
          refine Ops.nil ?_
          refine Ends.seq ?_
          first | refine Wp.cond_dect rfl (fun h93 => ?_) (fun h93 => ?_) | refine Wp.cond_t rfl (fun h93 => ?_) (fun h93 => ?_)
          · refine Wp.region ?_
            refine Ops.pv (pv_move rfl) rfl ?_
            refine Ops.pv (pv_move rfl) rfl ?_
            refine Ops.skipg ⟨_, _, rfl, rfl, rfl⟩ rfl ?_
            refine Ops.skipg ⟨_, _, rfl, rfl, rfl⟩ rfl ?_
            refine Ops.skipg ⟨_, _, rfl, rfl, rfl⟩ rfl ?_
            refine Ops.pv (pv_pick_false rfl rfl) rfl ?_
            refine Ops.pv (pv_assign rfl) rfl ?_
            refine Ops.nil ?_
            refine Ends.seq ?_
            refine Wp.seq ?_
            refine Wp.seq ?_
            refine Wp.region ?_
            first | refine Ops.pv (pv_fieldAddr0 rfl rfl) rfl ?_ | refine Ops.pv (pv_fieldAddr rfl rfl) rfl ?_
            first | refine Ops.pv (pv_load rfl rfl rfl) rfl ?_ | refine Ops.pv (pv_load rfl rfl (by assumption)) rfl ?_
            refine Ops.pv (pv_neq rfl rfl) rfl ?_
            refine Ops.nil ?_
            refine Ends.seq ?_
            first | refine Wp.cond_dect rfl (fun h94 => ?_) (fun h94 => ?_) | refine Wp.cond_t rfl (fun h94 => ?_) (fun h94 => ?_)
            · refine Wp.region ?_
              refine Ops.pv (pv_move rfl) rfl ?_
              refine Ops.pv (pv_move rfl) rfl ?_
              refine Ops.skipg ⟨_, _, rfl, rfl, rfl⟩ rfl ?_
              refine Ops.skipg ⟨_, _, rfl, rfl, rfl⟩ rfl ?_
              refine Ops.skipg ⟨_, _, rfl, rfl, rfl⟩ rfl ?_
              refine Ops.pv (pv_pick_false rfl rfl) rfl ?_
              refine Ops.pv (pv_assign rfl) rfl ?_
              refine Ops.nil ?_
              refine Ends.seq ?_
              refine Wp.seq ?_
              refine Wp.seq ?_
              refine Wp.region ?_
              refine Ops.pv (pv_move rfl) rfl ?_
              first | refine Ops.pv (pv_not_dec rfl) rfl ?_ | refine Ops.pv (pv_not rfl) rfl ?_
              refine Ops.nil ?_
              refine Ends.seq ?_
              refine Wp.cond_true rfl ?_
              refine Wp.seq ?_
              refine Wp.region ?_
              refine Ops.pv (pv_assign rfl) rfl ?_
              refine Ops.nil ?_
              refine Ends.seq ?_
              refine Wp.ret ?_
              refine Ends.then_ret ?_
              exact Ends.ret (res1 rfl rfl) ⟨by first | (rw [check_bad (by omega)]; done) | (rw [check_ok hr (by omega) (by unfold dOk; omega)]; done) | (rw [check_no hr (by omega) (by unfold dOk; omega)]; done), rfl⟩
            · refine Wp.skip ?_
              refine Ends.seq ?_
              refine Wp.seq ?_
              refine Wp.seq ?_
              refine Wp.region ?_
              refine Ops.pv (pv_move rfl) rfl ?_
              first | refine Ops.pv (pv_not_dec rfl) rfl ?_ | refine Ops.pv (pv_not rfl) rfl ?_
              refine Ops.nil ?_
              refine Ends.seq ?_
              refine Wp.cond_true rfl ?_
              refine Wp.seq ?_
              refine Wp.region ?_
              refine Ops.pv (pv_assign rfl) rfl ?_
              refine Ops.nil ?_
              refine Ends.seq ?_
              refine Wp.ret ?_
              refine Ends.then_ret ?_
              exact Ends.ret (res1 rfl rfl) ⟨by first | (rw [check_bad (by omega)]; done) | (rw [check_ok hr (by omega) (by unfold dOk; omega)]; done) | (rw [check_no hr (by omega) (by unfold dOk; omega)]; done), rfl⟩
          · refine Wp.skip ?_
            refine Ends.seq ?_
            refine Wp.seq ?_
            refine Wp.seq ?_
            refine Wp.region ?_
            first | refine Ops.pv (pv_fieldAddr0 rfl rfl) rfl ?_ | refine Ops.pv (pv_fieldAddr rfl rfl) rfl ?_
            first | refine Ops.pv (pv_load rfl rfl rfl) rfl ?_ | refine Ops.pv (pv_load rfl rfl (by assumption)) rfl ?_
            refine Ops.pv (pv_neq rfl rfl) rfl ?_
            refine Ops.nil ?_
            refine Ends.seq ?_
            first | refine Wp.cond_dect rfl (fun h95 => ?_) (fun h95 => ?_) | refine Wp.cond_t rfl (fun h95 => ?_) (fun h95 => ?_)
            · refine Wp.region ?_
              refine Ops.pv (pv_move rfl) rfl ?_
              refine Ops.pv (pv_move rfl) rfl ?_
              refine Ops.skipg ⟨_, _, rfl, rfl, rfl⟩ rfl ?_
              refine Ops.skipg ⟨_, _, rfl, rfl, rfl⟩ rfl ?_
              refine Ops.skipg ⟨_, _, rfl, rfl, rfl⟩ rfl ?_
              refine Ops.pv (pv_pick_false rfl rfl) rfl ?_
              refine Ops.pv (pv_assign rfl) rfl ?_
              refine Ops.nil ?_
              refine Ends.seq ?_
              refine Wp.seq ?_
              refine Wp.seq ?_
              refine Wp.region ?_
              refine Ops.pv (pv_move rfl) rfl ?_
              first | refine Ops.pv (pv_not_dec rfl) rfl ?_ | refine Ops.pv (pv_not rfl) rfl ?_
              refine Ops.nil ?_
              refine Ends.seq ?_
              refine Wp.cond_true rfl ?_
              refine Wp.seq ?_
              refine Wp.region ?_
              refine Ops.pv (pv_assign rfl) rfl ?_
              refine Ops.nil ?_
              refine Ends.seq ?_
              refine Wp.ret ?_
              refine Ends.then_ret ?_
              exact Ends.ret (res1 rfl rfl) ⟨by first | (rw [check_bad (by omega)]; done) | (rw [check_ok hr (by omega) (by unfold dOk; omega)]; done) | (rw [check_no hr (by omega) (by unfold dOk; omega)]; done), rfl⟩
            · refine Wp.skip ?_
              refine Ends.seq ?_
              refine Wp.seq ?_
              refine Wp.seq ?_
              refine Wp.region ?_
              refine Ops.pv (pv_move rfl) rfl ?_
              first | refine Ops.pv (pv_not_dec rfl) rfl ?_ | refine Ops.pv (pv_not rfl) rfl ?_
              refine Ops.nil ?_
              refine Ends.seq ?_
              refine Wp.cond_true rfl ?_
              refine Wp.seq ?_
              refine Wp.region ?_
              refine Ops.pv (pv_assign rfl) rfl ?_
              refine Ops.nil ?_
              refine Ends.seq ?_
              refine Wp.ret ?_
              refine Ends.then_ret ?_
              exact Ends.ret (res1 rfl rfl) ⟨by first | (rw [check_bad (by omega)]; done) | (rw [check_ok hr (by omega) (by unfold dOk; omega)]; done) | (rw [check_no hr (by omega) (by unfold dOk; omega)]; done), rfl⟩

theorem tr_has4 (a n : Nat) (hn : 0 < n) (ha : a ≤ 7) : TrR Try.prog 90 [.int .i64 a, .int .i64 n] ([]) (.bool (decide (a / n % 2 = 1))) := by
  refine Tr.enter Try.func90 rfl Try.ntmps90 rfl (fun W F => ?_)
  refine Wp.app ?_
  refine Wp.seq ?_
  refine Wp.region ?_
  refine Ops.pv (pv_assign rfl) rfl ?_
  refine Ops.nil ?_
  refine Ends.seq ?_
  refine Wp.seq ?_
  refine Wp.region ?_
  refine Ops.pv (pv_move rfl) rfl ?_
  refine Ops.pv (pv_move rfl) rfl ?_
  refine Ops.pv (pv_quo rfl rfl (by omega) (w64n (k := a / n) (tdiv_nat rfl) (Nat.lt_of_le_of_lt (Nat.div_le_self a n) (by omega)))) rfl ?_
  refine Ops.pv (pv_rem rfl rfl (by omega) (tmod_nat (b := 2) rfl)) rfl ?_
  refine Ops.pv (pv_eql rfl rfl) rfl ?_
  refine Ops.pv (pv_assign rfl) rfl ?_
  refine Ops.nil ?_
  refine Ends.seq ?_
  refine Wp.ret ?_
  exact Ends.ret (res1 rfl rfl) ⟨congrArg Value.bool (decide_eq_decide.2 (by omega)), rfl⟩

theorem tr_mask4 (a b : Nat) (ha : a ≤ 7) (hb : b ≤ 7) : TrR Try.prog 83 [.int .i64 a, .int .i64 b] ([]) (.int .i64 (mask4 a b 3)) := by
  refine Tr.enter Try.func83 rfl Try.ntmps83 rfl (fun W F => ?_)
  refine Wp.app ?_
  refine Wp.seq ?_
  refine Wp.region ?_
  refine Ops.pv (pv_assign rfl) rfl ?_
  refine Ops.nil ?_
  refine Ends.seq ?_
  refine Wp.seq ?_
  refine Wp.seq ?_
  refine Wp.region ?_
  refine Ops.pv (pv_move rfl) rfl ?_
  refine Ops.ef rfl (ef_callr ((tr_check4 a).eq (r' := .bool true) (congrArg Value.bool (decide_eq_true (by omega)))) rfl rfl) ?_
  rintro _ _ ⟨rfl, rfl⟩
  first | refine Ops.pv (pv_not_dec rfl) rfl ?_ | refine Ops.pv (pv_not rfl) rfl ?_
  refine Ops.pv (pv_move rfl) rfl ?_
  refine Ops.pvg ⟨_, _, rfl, rfl, rfl⟩ (pv_move rfl) rfl ?_
  refine Ops.efg ⟨_, _, rfl, rfl, rfl⟩ (ef_callr ((tr_check4 b).eq (r' := .bool true) (congrArg Value.bool (decide_eq_true (by omega)))) rfl rfl) ?_
  rintro _ _ ⟨rfl, rfl⟩
  first | refine Ops.pvg ⟨_, _, rfl, rfl, rfl⟩ (pv_not_dec rfl) rfl ?_ | refine Ops.pvg ⟨_, _, rfl, rfl, rfl⟩ (pv_not rfl) rfl ?_
  refine Ops.pv (pv_pick_false rfl rfl) rfl ?_
  refine Ops.nil ?_
  refine Ends.seq ?_
  refine Wp.cond_false rfl ?_
  refine Wp.skip ?_
  refine Ends.seq ?_
  refine Wp.seq ?_
  refine Wp.region ?_
  refine Ops.pv (pv_assign rfl) rfl ?_
  refine Ops.nil ?_
  refine Ends.seq ?_
  refine Wp.seq ?_
  refine Wp.seq ?_
  refine Wp.region ?_
  refine Ops.pv (pv_assign rfl) rfl ?_
  refine Ops.nil ?_
  refine Ends.seq ?_
  refine Wp.block ?_
  rename_i F
  refine Wp.loopK (σ := Nat × Nat) [(0, _), (1, _)] (fun s => [(5, .int .i64 (s.2 : Nat)), (6, .int .i64 ((2 ^ s.1 : Nat) : Int))]) (fun s => F) (fun s => s.1 ≤ 3 ∧ s.2 = mask4 a b s.1) (fun s => 3 - s.1) (0, 0) ⟨by omega, rfl⟩ ⟨rfl, rfl, trivial⟩ ⟨rfl, rfl, trivial⟩ (by intro w ho; (try dsimp only [List.nil_append, List.cons_append]); exact Drop.own ho) ?_
  rintro ⟨k, m⟩ KK ⟨hk, hm⟩ hK
  dsimp only [List.cons_append, List.nil_append] at hK ⊢
  dsimp only at hk hm ⊢
  refine Wp.seq ?_
  refine Wp.seq ?_
  refine Wp.region ?_
  refine Ops.pv (pv_move rfl) rfl ?_
  refine Ops.pv (pv_leq rfl rfl) rfl ?_
  refine Ops.nil ?_
  refine Ends.seq ?_
  first | refine Wp.cond_dect rfl (fun h1 => ?_) (fun h1 => ?_) | refine Wp.cond_t rfl (fun h1 => ?_) (fun h1 => ?_)
  · have hk3 : k < 3 := by
      rcases Nat.lt_or_ge k 3 with h | h
      · exact h
      · exfalso; have : (2 : Nat) ^ 3 ≤ 2 ^ k := Nat.pow_le_pow_right (by omega) h; omega
    have hml := mask4_lt a b k
    have hp8 : (2 : Nat) ^ k ≤ 2 ^ 3 := Nat.pow_le_pow_right (by omega) (by omega)
    refine Wp.skip ?_
    refine Ends.seq ?_
    refine Wp.seq ?_
    refine Wp.block ?_
    refine Wp.seq ?_
    refine Wp.region ?_
    refine Ops.pv (pv_move rfl) rfl ?_
    refine Ops.pv (pv_move rfl) rfl ?_
    refine Ops.ef rfl (ef_callr (tr_has4 a (2 ^ k) (Nat.pow_pos (by omega)) ha) rfl rfl) ?_
    rintro _ _ ⟨rfl, rfl⟩
    refine Ops.pv (pv_move rfl) rfl ?_
    first | refine Ops.split (t := 22) rfl (fun h2 => ?_) (fun h2 => ?_) | refine Ops.splitb (t := 22) rfl (fun h2 => ?_) (fun h2 => ?_)
    · refine Ops.pvg ⟨_, _, rfl, rfl, rfl⟩ (pv_move rfl) rfl ?_
      refine Ops.pvg ⟨_, _, rfl, rfl, rfl⟩ (pv_move rfl) rfl ?_
      refine Ops.efg ⟨_, _, rfl, rfl, rfl⟩ (ef_callr (tr_has4 b (2 ^ k) (Nat.pow_pos (by omega)) hb) rfl rfl) ?_
      rintro _ _ ⟨rfl, rfl⟩
      refine Ops.pv (pv_pick_true rfl rfl) rfl ?_
      refine Ops.nil ?_
      refine Ends.seq ?_
      first | refine Wp.cond_dect rfl (fun h3 => ?_) (fun h3 => ?_) | refine Wp.cond_t rfl (fun h3 => ?_) (fun h3 => ?_)
      · refine Wp.region ?_
        refine Ops.pv (pv_move rfl) rfl ?_
        refine Ops.pv (pv_move rfl) rfl ?_
        refine Ops.pv (pv_add rfl rfl (w64n (k := m + 2 ^ k) (by push_cast; rfl) (by omega))) rfl ?_
        refine Ops.pv (pv_assign rfl) rfl ?_
        refine Ops.nil ?_
        refine Ends.block_normal ?_
        refine Ends.seq ?_
        refine Wp.region ?_
        refine Ops.pv (pv_move rfl) rfl ?_
        refine Ops.pv (pv_mul rfl rfl (w64n (k := 2 ^ (k + 1)) (by rw [Nat.pow_succ, Nat.mul_comm]; push_cast; rfl) (by rw [Nat.pow_succ]; omega))) rfl ?_
        refine Ops.pv (pv_assign rfl) rfl ?_
        refine Ops.nil ?_
        refine Ends.goes ?_
        refine Goes.back (hK (k + 1, m + 2 ^ k) ⟨by dsimp only; omega, by dsimp only; rw [hm]; simp only [mask4]; simp_all⟩ (by dsimp only; omega)) ⟨rfl, rfl, rfl, rfl, trivial⟩
      · refine Wp.skip ?_
        refine Ends.block_normal ?_
        refine Ends.seq ?_
        refine Wp.region ?_
        refine Ops.pv (pv_move rfl) rfl ?_
        refine Ops.pv (pv_mul rfl rfl (w64n (k := 2 ^ (k + 1)) (by rw [Nat.pow_succ, Nat.mul_comm]; push_cast; rfl) (by rw [Nat.pow_succ]; omega))) rfl ?_
        refine Ops.pv (pv_assign rfl) rfl ?_
        refine Ops.nil ?_
        refine Ends.goes ?_
        refine Goes.back (hK (k + 1, m) ⟨by dsimp only; omega, by dsimp only; rw [hm]; simp only [mask4]; simp_all⟩ (by dsimp only; omega)) ⟨rfl, rfl, rfl, rfl, trivial⟩
    · refine Ops.skipg ⟨_, _, rfl, rfl, rfl⟩ rfl ?_
      refine Ops.skipg ⟨_, _, rfl, rfl, rfl⟩ rfl ?_
      refine Ops.skipg ⟨_, _, rfl, rfl, rfl⟩ rfl ?_
      refine Ops.pv (pv_pick_false rfl rfl) rfl ?_
      refine Ops.nil ?_
      refine Ends.seq ?_
      refine Wp.cond_false rfl ?_
      refine Wp.skip ?_
      refine Ends.block_normal ?_
      refine Ends.seq ?_
      refine Wp.region ?_
      refine Ops.pv (pv_move rfl) rfl ?_
      refine Ops.pv (pv_mul rfl rfl (w64n (k := 2 ^ (k + 1)) (by rw [Nat.pow_succ, Nat.mul_comm]; push_cast; rfl) (by rw [Nat.pow_succ]; omega))) rfl ?_
      refine Ops.pv (pv_assign rfl) rfl ?_
      refine Ops.nil ?_
      refine Ends.goes ?_
      refine Goes.back (hK (k + 1, m) ⟨by dsimp only; omega, by dsimp only; rw [hm]; simp only [mask4]; simp_all⟩ (by dsimp only; omega)) ⟨rfl, rfl, rfl, rfl, trivial⟩
  · obtain rfl : k = 3 := by
      rcases Nat.lt_or_ge k 3 with h | h
      · exfalso; have : (2 : Nat) ^ k ≤ 2 ^ 2 := Nat.pow_le_pow_right (by omega) (by omega); omega
      · omega
    refine Wp.exit ?_
    refine Ends.then_exit ?_
    refine Ends.then_exit ?_
    refine Ends.block_hit ?_
    refine Ends.seq ?_
    refine Wp.seq ?_
    refine Wp.region ?_
    refine Ops.pv (pv_move rfl) rfl ?_
    refine Ops.pv (pv_assign rfl) rfl ?_
    refine Ops.nil ?_
    refine Ends.seq ?_
    refine Wp.ret ?_
    rw [hm]
    exact Ends.ret (res1 rfl rfl) ⟨rfl, rfl⟩

theorem tr_mask4I (a b : Int) (ha : 0 ≤ a ∧ a ≤ 7) (hb : 0 ≤ b ∧ b ≤ 7) : TrR Try.prog 83 [.int .i64 a, .int .i64 b] [] (.int .i64 (mask4 a.toNat b.toNat 3)) := by
  obtain ⟨m, rfl⟩ : ∃ m : Nat, a = m := ⟨a.toNat, by omega⟩
  obtain ⟨k, rfl⟩ : ∃ k : Nat, b = k := ⟨b.toNat, by omega⟩
  exact tr_mask4 m k (by omega) (by omega)

theorem tr_within4 (a b : Int) : TrR Try.prog 59 [.int .i64 a, .int .i64 b] ([]) (.bool (decide (withinM a b))) := by
  refine Tr.enter Try.func59 rfl Try.ntmps59 rfl (fun W F => ?_)
  refine Wp.app ?_
  refine Wp.seq ?_
  refine Wp.region ?_
  refine Ops.pv (pv_assign rfl) rfl ?_
  refine Ops.nil ?_
  refine Ends.seq ?_
  refine Wp.seq ?_
  refine Wp.region ?_
  refine Ops.pv (pv_move rfl) rfl ?_
  refine Ops.ef rfl (ef_callr (tr_check4 a) rfl rfl) ?_
  rintro _ _ ⟨rfl, rfl⟩
  refine Ops.pv (pv_move rfl) rfl ?_
  first | refine Ops.split (t := 7) rfl (fun h1 => ?_) (fun h1 => ?_) | refine Ops.splitb (t := 7) rfl (fun h1 => ?_) (fun h1 => ?_)
  · refine Ops.pvg ⟨_, _, rfl, rfl, rfl⟩ (pv_move rfl) rfl ?_
    refine Ops.efg ⟨_, _, rfl, rfl, rfl⟩ (ef_callr (tr_check4 b) rfl rfl) ?_
    rintro _ _ ⟨rfl, rfl⟩
    refine Ops.pv (pv_pick_true rfl rfl) rfl ?_
    refine Ops.pv (pv_move rfl) rfl ?_
    first | refine Ops.split (t := 11) rfl (fun h2 => ?_) (fun h2 => ?_) | refine Ops.splitb (t := 11) rfl (fun h2 => ?_) (fun h2 => ?_)
    · refine Ops.pvg ⟨_, _, rfl, rfl, rfl⟩ (pv_move rfl) rfl ?_
      refine Ops.pvg ⟨_, _, rfl, rfl, rfl⟩ (pv_move rfl) rfl ?_
      refine Ops.efg ⟨_, _, rfl, rfl, rfl⟩ (ef_callr (tr_mask4I a b (by assumption) (by assumption)) rfl rfl) ?_
      rintro _ _ ⟨rfl, rfl⟩
      refine Ops.pvg ⟨_, _, rfl, rfl, rfl⟩ (pv_move rfl) rfl ?_
      refine Ops.pvg ⟨_, _, rfl, rfl, rfl⟩ (pv_eql rfl rfl) rfl ?_
      refine Ops.pv (pv_pick_true rfl rfl) rfl ?_
      refine Ops.pv (pv_assign rfl) rfl ?_
      refine Ops.nil ?_
      refine Ends.seq ?_
      refine Wp.ret ?_
      exact Ends.ret (res1 rfl rfl) ⟨by first | exact congrArg Value.bool (decide_eq_decide.2 ⟨fun h => ⟨by assumption, by assumption, h⟩, fun h => h.2.2⟩) | exact (congrArg Value.bool (decide_eq_false (fun h => by unfold withinM at h; omega))).symm, rfl⟩
    · refine Ops.skipg ⟨_, _, rfl, rfl, rfl⟩ rfl ?_
      refine Ops.skipg ⟨_, _, rfl, rfl, rfl⟩ rfl ?_
      refine Ops.skipg ⟨_, _, rfl, rfl, rfl⟩ rfl ?_
      refine Ops.skipg ⟨_, _, rfl, rfl, rfl⟩ rfl ?_
      refine Ops.skipg ⟨_, _, rfl, rfl, rfl⟩ rfl ?_
      refine Ops.pv (pv_pick_false rfl rfl) rfl ?_
      refine Ops.pv (pv_assign rfl) rfl ?_
      refine Ops.nil ?_
      refine Ends.seq ?_
      refine Wp.ret ?_
      exact Ends.ret (res1 rfl rfl) ⟨by first | exact congrArg Value.bool (decide_eq_decide.2 ⟨fun h => ⟨by assumption, by assumption, h⟩, fun h => h.2.2⟩) | exact (congrArg Value.bool (decide_eq_false (fun h => by unfold withinM at h; omega))).symm, rfl⟩
  · refine Ops.skipg ⟨_, _, rfl, rfl, rfl⟩ rfl ?_
    refine Ops.skipg ⟨_, _, rfl, rfl, rfl⟩ rfl ?_
    refine Ops.pv (pv_pick_false rfl rfl) rfl ?_
    refine Ops.pv (pv_move rfl) rfl ?_
    refine Ops.skipg ⟨_, _, rfl, rfl, rfl⟩ rfl ?_
    refine Ops.skipg ⟨_, _, rfl, rfl, rfl⟩ rfl ?_
    refine Ops.skipg ⟨_, _, rfl, rfl, rfl⟩ rfl ?_
    refine Ops.skipg ⟨_, _, rfl, rfl, rfl⟩ rfl ?_
    refine Ops.skipg ⟨_, _, rfl, rfl, rfl⟩ rfl ?_
    refine Ops.pv (pv_pick_false rfl rfl) rfl ?_
    refine Ops.pv (pv_assign rfl) rfl ?_
    refine Ops.nil ?_
    refine Ends.seq ?_
    refine Wp.ret ?_
    exact Ends.ret (res1 rfl rfl) ⟨by first | exact congrArg Value.bool (decide_eq_decide.2 ⟨fun h => ⟨by assumption, by assumption, h⟩, fun h => h.2.2⟩) | exact (congrArg Value.bool (decide_eq_false (fun h => by unfold withinM at h; omega))).symm, rfl⟩

theorem tr_weaker (a b : CapM) (ha : a.Rg) (hb : b.Rg) : TrR Try.prog 28 [a.v, b.v] ([]) (.bool (decide (weakM a b))) := by
  refine Tr.enter Try.func28 rfl Try.ntmps28 rfl (fun W F => ?_)
  refine Wp.app ?_
  refine Wp.seq ?_
  refine Wp.region ?_
  refine Ops.ef rfl (ef_boxK rfl rfl) ?_
  rintro _ _ ⟨b1, rfl, rfl⟩
  refine Ops.ef rfl (ef_boxK rfl rfl) ?_
  rintro _ _ ⟨b2, rfl, rfl⟩
  refine Ops.pv (pv_assign rfl) rfl ?_
  refine Ops.nil ?_
  refine Ends.seq ?_
  refine Wp.seq ?_
  refine Wp.region ?_
  refine Ops.pv (pv_loadK [_, _, _, _, _, _] rfl rfl rfl ⟨rfl, rfl, rfl, rfl, rfl, rfl, trivial⟩) rfl ?_
  refine Ops.ef rfl (ef_callr (tr_dcheck a ha) rfl rfl) ?_
  rintro _ _ ⟨rfl, rfl⟩
  refine Ops.pv (pv_eql rfl rfl) rfl ?_
  refine Ops.pv (pv_move rfl) rfl ?_
  first | refine Ops.split (t := 8) rfl (fun h1 => ?_) (fun h1 => ?_) | refine Ops.splitb (t := 8) rfl (fun h1 => ?_) (fun h1 => ?_)
  · refine Ops.pvg ⟨_, _, rfl, rfl, rfl⟩ (pv_loadK [_, _, _, _, _, _] rfl rfl rfl ⟨rfl, rfl, rfl, rfl, rfl, rfl, trivial⟩) rfl ?_
    refine Ops.efg ⟨_, _, rfl, rfl, rfl⟩ (ef_callr (tr_dcheck b hb) rfl rfl) ?_
    rintro _ _ ⟨rfl, rfl⟩
    refine Ops.pvg ⟨_, _, rfl, rfl, rfl⟩ (pv_eql rfl rfl) rfl ?_
    refine Ops.pv (pv_pick_true rfl rfl) rfl ?_
    refine Ops.pv (pv_move rfl) rfl ?_
    first | refine Ops.pvc rfl rfl (fun hg => pv_fieldAddr0 rfl rfl) rfl ?_ | refine Ops.pvc rfl rfl (fun hg => pv_fieldAddr rfl rfl) rfl ?_
    first | refine Ops.pvc rfl rfl (fun hg => Pv.setE (t := 14) rfl (cv_pos hg) (pv_load rfl rfl rfl)) rfl ?_ | refine Ops.pvc rfl rfl (fun hg => Pv.setE (t := 14) rfl (cv_pos hg) (pv_load rfl rfl (by assumption))) rfl ?_
    first | refine Ops.pvc rfl rfl (fun hg => Pv.setE (t := 14) rfl (cv_pos hg) (Pv.setE (t := 15) rfl (cv_pos hg) (pv_fieldAddr0 rfl rfl))) rfl ?_ | refine Ops.pvc rfl rfl (fun hg => Pv.setE (t := 14) rfl (cv_pos hg) (Pv.setE (t := 15) rfl (cv_pos hg) (pv_fieldAddr rfl rfl))) rfl ?_
    first | refine Ops.pvc rfl rfl (fun hg => Pv.setE (t := 14) rfl (cv_pos hg) (Pv.setE (t := 15) rfl (cv_pos hg) (Pv.setE (t := 16) rfl (cv_pos hg) (pv_load rfl rfl rfl)))) rfl ?_ | refine Ops.pvc rfl rfl (fun hg => Pv.setE (t := 14) rfl (cv_pos hg) (Pv.setE (t := 15) rfl (cv_pos hg) (Pv.setE (t := 16) rfl (cv_pos hg) (pv_load rfl rfl (by assumption))))) rfl ?_
    refine Ops.pvc rfl rfl (fun hg => Pv.setE (t := 14) rfl (cv_pos hg) (Pv.setE (t := 15) rfl (cv_pos hg) (Pv.setE (t := 16) rfl (cv_pos hg) (Pv.setE (t := 17) rfl (cv_pos hg) (pv_eql rfl rfl))))) rfl ?_
    refine Ops.pv (pv_pick_and rfl rfl) rfl ?_
    refine Ops.pv (pv_move rfl) rfl ?_
    first | refine Ops.pvc rfl rfl (fun hg => pv_fieldAddr0 rfl rfl) rfl ?_ | refine Ops.pvc rfl rfl (fun hg => pv_fieldAddr rfl rfl) rfl ?_
    first | refine Ops.pvc rfl rfl (fun hg => Pv.setE (t := 21) rfl (cv_pos hg) (pv_load rfl rfl rfl)) rfl ?_ | refine Ops.pvc rfl rfl (fun hg => Pv.setE (t := 21) rfl (cv_pos hg) (pv_load rfl rfl (by assumption))) rfl ?_
    first | refine Ops.pvc rfl rfl (fun hg => Pv.setE (t := 21) rfl (cv_pos hg) (Pv.setE (t := 22) rfl (cv_pos hg) (pv_fieldAddr0 rfl rfl))) rfl ?_ | refine Ops.pvc rfl rfl (fun hg => Pv.setE (t := 21) rfl (cv_pos hg) (Pv.setE (t := 22) rfl (cv_pos hg) (pv_fieldAddr rfl rfl))) rfl ?_
    first | refine Ops.pvc rfl rfl (fun hg => Pv.setE (t := 21) rfl (cv_pos hg) (Pv.setE (t := 22) rfl (cv_pos hg) (Pv.setE (t := 23) rfl (cv_pos hg) (pv_load rfl rfl rfl)))) rfl ?_ | refine Ops.pvc rfl rfl (fun hg => Pv.setE (t := 21) rfl (cv_pos hg) (Pv.setE (t := 22) rfl (cv_pos hg) (Pv.setE (t := 23) rfl (cv_pos hg) (pv_load rfl rfl (by assumption))))) rfl ?_
    refine Ops.pvc rfl rfl (fun hg => Pv.setE (t := 21) rfl (cv_pos hg) (Pv.setE (t := 22) rfl (cv_pos hg) (Pv.setE (t := 23) rfl (cv_pos hg) (Pv.setE (t := 24) rfl (cv_pos hg) (pv_eql rfl rfl))))) rfl ?_
    refine Ops.pv (pv_pick_and rfl rfl) rfl ?_
    refine Ops.pv (pv_move rfl) rfl ?_
    first | refine Ops.split (t := 27) rfl (fun h2 => ?_) (fun h2 => ?_) | refine Ops.splitb (t := 27) rfl (fun h2 => ?_) (fun h2 => ?_)
    · first | refine Ops.pvg ⟨_, _, rfl, rfl, rfl⟩ (pv_fieldAddr0 rfl rfl) rfl ?_ | refine Ops.pvg ⟨_, _, rfl, rfl, rfl⟩ (pv_fieldAddr rfl rfl) rfl ?_
      first | refine Ops.pvg ⟨_, _, rfl, rfl, rfl⟩ (pv_load rfl rfl rfl) rfl ?_ | refine Ops.pvg ⟨_, _, rfl, rfl, rfl⟩ (pv_load rfl rfl (by assumption)) rfl ?_
      first | refine Ops.pvg ⟨_, _, rfl, rfl, rfl⟩ (pv_fieldAddr0 rfl rfl) rfl ?_ | refine Ops.pvg ⟨_, _, rfl, rfl, rfl⟩ (pv_fieldAddr rfl rfl) rfl ?_
      first | refine Ops.pvg ⟨_, _, rfl, rfl, rfl⟩ (pv_load rfl rfl rfl) rfl ?_ | refine Ops.pvg ⟨_, _, rfl, rfl, rfl⟩ (pv_load rfl rfl (by assumption)) rfl ?_
      refine Ops.efg ⟨_, _, rfl, rfl, rfl⟩ (ef_callr (tr_within4 a.rights b.rights) rfl rfl) ?_
      rintro _ _ ⟨rfl, rfl⟩
      refine Ops.pv (pv_pick_true rfl rfl) rfl ?_
      refine Ops.pv (pv_move rfl) rfl ?_
      first | refine Ops.split (t := 34) rfl (fun h3 => ?_) (fun h3 => ?_) | refine Ops.splitb (t := 34) rfl (fun h3 => ?_) (fun h3 => ?_)
      · first | refine Ops.pvg ⟨_, _, rfl, rfl, rfl⟩ (pv_fieldAddr0 rfl rfl) rfl ?_ | refine Ops.pvg ⟨_, _, rfl, rfl, rfl⟩ (pv_fieldAddr rfl rfl) rfl ?_
        first | refine Ops.pvg ⟨_, _, rfl, rfl, rfl⟩ (pv_load rfl rfl rfl) rfl ?_ | refine Ops.pvg ⟨_, _, rfl, rfl, rfl⟩ (pv_load rfl rfl (by assumption)) rfl ?_
        refine Ops.pvg ⟨_, _, rfl, rfl, rfl⟩ (pv_eql rfl rfl) rfl ?_
        refine Ops.pvg ⟨_, _, rfl, rfl, rfl⟩ (pv_move rfl) rfl ?_
        first | refine Ops.split (t := 38) rfl (fun h4 => ?_) (fun h4 => ?_) | refine Ops.splitb (t := 38) rfl (fun h4 => ?_) (fun h4 => ?_)
        · refine Ops.skipg ⟨_, _, rfl, rfl, rfl⟩ rfl ?_
          refine Ops.skipg ⟨_, _, rfl, rfl, rfl⟩ rfl ?_
          refine Ops.skipg ⟨_, _, rfl, rfl, rfl⟩ rfl ?_
          refine Ops.skipg ⟨_, _, rfl, rfl, rfl⟩ rfl ?_
          refine Ops.skipg ⟨_, _, rfl, rfl, rfl⟩ rfl ?_
          refine Ops.pvg ⟨_, _, rfl, rfl, rfl⟩ (pv_pick_true rfl rfl) rfl ?_
          refine Ops.pv (pv_pick_true rfl rfl) rfl ?_
          refine Ops.pv (pv_assign rfl) rfl ?_
          refine Ops.nil ?_
          refine Ends.seq ?_
          refine Wp.ret ?_
          exact Ends.ret (res1 rfl rfl) ⟨by first | (simp_all [weakM]; done) | exact (congrArg Value.bool (decide_eq_false (fun h => by obtain ⟨h1, h2, h3, h4, h5, h6⟩ := h; simp_all))).symm, rfl⟩
        · first | refine Ops.pvg ⟨_, _, rfl, rfl, rfl⟩ (pv_fieldAddr0 rfl rfl) rfl ?_ | refine Ops.pvg ⟨_, _, rfl, rfl, rfl⟩ (pv_fieldAddr rfl rfl) rfl ?_
          first | refine Ops.pvg ⟨_, _, rfl, rfl, rfl⟩ (pv_load rfl rfl rfl) rfl ?_ | refine Ops.pvg ⟨_, _, rfl, rfl, rfl⟩ (pv_load rfl rfl (by assumption)) rfl ?_
          first | refine Ops.pvg ⟨_, _, rfl, rfl, rfl⟩ (pv_fieldAddr0 rfl rfl) rfl ?_ | refine Ops.pvg ⟨_, _, rfl, rfl, rfl⟩ (pv_fieldAddr rfl rfl) rfl ?_
          first | refine Ops.pvg ⟨_, _, rfl, rfl, rfl⟩ (pv_load rfl rfl rfl) rfl ?_ | refine Ops.pvg ⟨_, _, rfl, rfl, rfl⟩ (pv_load rfl rfl (by assumption)) rfl ?_
          refine Ops.pvg ⟨_, _, rfl, rfl, rfl⟩ (pv_eql rfl rfl) rfl ?_
          refine Ops.pvg ⟨_, _, rfl, rfl, rfl⟩ (pv_pick_false rfl rfl) rfl ?_
          refine Ops.pv (pv_pick_true rfl rfl) rfl ?_
          refine Ops.pv (pv_assign rfl) rfl ?_
          refine Ops.nil ?_
          refine Ends.seq ?_
          refine Wp.ret ?_
          exact Ends.ret (res1 rfl rfl) ⟨by first | (simp_all [weakM]; done) | exact (congrArg Value.bool (decide_eq_false (fun h => by obtain ⟨h1, h2, h3, h4, h5, h6⟩ := h; simp_all))).symm, rfl⟩
      · refine Ops.skipg ⟨_, _, rfl, rfl, rfl⟩ rfl ?_
        refine Ops.skipg ⟨_, _, rfl, rfl, rfl⟩ rfl ?_
        refine Ops.skipg ⟨_, _, rfl, rfl, rfl⟩ rfl ?_
        refine Ops.skipg ⟨_, _, rfl, rfl, rfl⟩ rfl ?_
        refine Ops.skipu rfl rfl rfl ?_
        refine Ops.skipu rfl rfl rfl ?_
        refine Ops.skipu rfl rfl rfl ?_
        refine Ops.skipu rfl rfl rfl ?_
        refine Ops.skipu rfl rfl rfl ?_
        refine Ops.skipg ⟨_, _, rfl, rfl, rfl⟩ rfl ?_
        refine Ops.pv (pv_pick_false rfl rfl) rfl ?_
        refine Ops.pv (pv_assign rfl) rfl ?_
        refine Ops.nil ?_
        refine Ends.seq ?_
        refine Wp.ret ?_
        exact Ends.ret (res1 rfl rfl) ⟨by first | (simp_all [weakM]; done) | exact (congrArg Value.bool (decide_eq_false (fun h => by obtain ⟨h1, h2, h3, h4, h5, h6⟩ := h; simp_all))).symm, rfl⟩
    · refine Ops.skipg ⟨_, _, rfl, rfl, rfl⟩ rfl ?_
      refine Ops.skipg ⟨_, _, rfl, rfl, rfl⟩ rfl ?_
      refine Ops.skipg ⟨_, _, rfl, rfl, rfl⟩ rfl ?_
      refine Ops.skipg ⟨_, _, rfl, rfl, rfl⟩ rfl ?_
      refine Ops.skipg ⟨_, _, rfl, rfl, rfl⟩ rfl ?_
      refine Ops.pv (pv_pick_false rfl rfl) rfl ?_
      refine Ops.pv (pv_move rfl) rfl ?_
      refine Ops.skipg ⟨_, _, rfl, rfl, rfl⟩ rfl ?_
      refine Ops.skipg ⟨_, _, rfl, rfl, rfl⟩ rfl ?_
      refine Ops.skipg ⟨_, _, rfl, rfl, rfl⟩ rfl ?_
      refine Ops.skipg ⟨_, _, rfl, rfl, rfl⟩ rfl ?_
      refine Ops.skipu rfl rfl rfl ?_
      refine Ops.skipu rfl rfl rfl ?_
      refine Ops.skipu rfl rfl rfl ?_
      refine Ops.skipu rfl rfl rfl ?_
      refine Ops.skipu rfl rfl rfl ?_
      refine Ops.skipg ⟨_, _, rfl, rfl, rfl⟩ rfl ?_
      refine Ops.pv (pv_pick_false rfl rfl) rfl ?_
      refine Ops.pv (pv_assign rfl) rfl ?_
      refine Ops.nil ?_
      refine Ends.seq ?_
      refine Wp.ret ?_
      exact Ends.ret (res1 rfl rfl) ⟨by first | (simp_all [weakM]; done) | exact (congrArg Value.bool (decide_eq_false (fun h => by obtain ⟨h1, h2, h3, h4, h5, h6⟩ := h; simp_all))).symm, rfl⟩
  · refine Ops.skipg ⟨_, _, rfl, rfl, rfl⟩ rfl ?_
    refine Ops.skipg ⟨_, _, rfl, rfl, rfl⟩ rfl ?_
    refine Ops.skipg ⟨_, _, rfl, rfl, rfl⟩ rfl ?_
    refine Ops.pv (pv_pick_false rfl rfl) rfl ?_
    refine Ops.pv (pv_move rfl) rfl ?_
    refine Ops.skipg ⟨_, _, rfl, rfl, rfl⟩ rfl ?_
    refine Ops.skipg ⟨_, _, rfl, rfl, rfl⟩ rfl ?_
    refine Ops.skipg ⟨_, _, rfl, rfl, rfl⟩ rfl ?_
    refine Ops.skipg ⟨_, _, rfl, rfl, rfl⟩ rfl ?_
    refine Ops.skipg ⟨_, _, rfl, rfl, rfl⟩ rfl ?_
    refine Ops.pv (pv_pick_false rfl rfl) rfl ?_
    refine Ops.pv (pv_move rfl) rfl ?_
    refine Ops.skipg ⟨_, _, rfl, rfl, rfl⟩ rfl ?_
    refine Ops.skipg ⟨_, _, rfl, rfl, rfl⟩ rfl ?_
    refine Ops.skipg ⟨_, _, rfl, rfl, rfl⟩ rfl ?_
    refine Ops.skipg ⟨_, _, rfl, rfl, rfl⟩ rfl ?_
    refine Ops.skipg ⟨_, _, rfl, rfl, rfl⟩ rfl ?_
    refine Ops.pv (pv_pick_false rfl rfl) rfl ?_
    refine Ops.pv (pv_move rfl) rfl ?_
    refine Ops.skipg ⟨_, _, rfl, rfl, rfl⟩ rfl ?_
    refine Ops.skipg ⟨_, _, rfl, rfl, rfl⟩ rfl ?_
    refine Ops.skipg ⟨_, _, rfl, rfl, rfl⟩ rfl ?_
    refine Ops.skipg ⟨_, _, rfl, rfl, rfl⟩ rfl ?_
    refine Ops.skipg ⟨_, _, rfl, rfl, rfl⟩ rfl ?_
    refine Ops.pv (pv_pick_false rfl rfl) rfl ?_
    refine Ops.pv (pv_move rfl) rfl ?_
    refine Ops.skipg ⟨_, _, rfl, rfl, rfl⟩ rfl ?_
    refine Ops.skipg ⟨_, _, rfl, rfl, rfl⟩ rfl ?_
    refine Ops.skipg ⟨_, _, rfl, rfl, rfl⟩ rfl ?_
    refine Ops.skipg ⟨_, _, rfl, rfl, rfl⟩ rfl ?_
    refine Ops.skipu rfl rfl rfl ?_
    refine Ops.skipu rfl rfl rfl ?_
    refine Ops.skipu rfl rfl rfl ?_
    refine Ops.skipu rfl rfl rfl ?_
    refine Ops.skipu rfl rfl rfl ?_
    refine Ops.skipg ⟨_, _, rfl, rfl, rfl⟩ rfl ?_
    refine Ops.pv (pv_pick_false rfl rfl) rfl ?_
    refine Ops.pv (pv_assign rfl) rfl ?_
    refine Ops.nil ?_
    refine Ends.seq ?_
    refine Wp.ret ?_
    exact Ends.ret (res1 rfl rfl) ⟨by first | (simp_all [weakM]; done) | exact (congrArg Value.bool (decide_eq_false (fun h => by obtain ⟨h1, h2, h3, h4, h5, h6⟩ := h; simp_all))).symm, rfl⟩

end Go.Proofs.Ytdodfnjmkpgdbaa
