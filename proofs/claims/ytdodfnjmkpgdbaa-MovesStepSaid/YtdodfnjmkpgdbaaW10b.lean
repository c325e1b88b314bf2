/- Walks of layer 10: the acts of moves answer and leave what the plain functions say. Condition: not more than 2^19 knots were made. -/
import Derived.Test.YtdodfnjmkpgdbaaW10
import Derived.Test.YtdodfnjmkpgdbaaW09g
set_option linter.unusedVariables false
set_option linter.unusedSimpArgs false
namespace Go.Proofs.Ytdodfnjmkpgdbaa
open Go.SL
abbrev cpP (cb : Nat) : Value := .pointer (some ⟨cb, 0, none⟩)

theorem tr_mask (a b : Int) : TrR Try.prog 76 [.int .i64 a, .int .i64 b] ([]) (.int .i64 (maskM a b)) := by
  refine Tr.enter Try.func76 rfl Try.ntmps76 rfl (fun W F => ?_)
  refine Wp.app ?_
  refine Wp.seq ?_
  refine Wp.region ?_
  refine Ops.pv (pv_assign rfl) rfl ?_
  refine Ops.nil ?_
  refine Ends.seq ?_
  refine Wp.seq ?_
  refine Wp.seq ?_
  refine Wp.region ?_
  refine Ops.pv (pv_move rfl) rfl ?_
  refine Ops.ef rfl (ef_callr (tr_rightsOk a) rfl rfl) ?_
  rintro _ _ ⟨rfl, rfl⟩
  first | refine Ops.pv (pv_not_dec rfl) rfl ?_ | refine Ops.pv (pv_not rfl) rfl ?_
  refine Ops.pv (pv_move rfl) rfl ?_
  first | refine Ops.split (t := 8) rfl (fun h1 => ?_) (fun h1 => ?_) | refine Ops.splitb (t := 8) rfl (fun h1 => ?_) (fun h1 => ?_)
  · refine Ops.skipg ⟨_, _, rfl, rfl, rfl⟩ rfl ?_
    refine Ops.skipg ⟨_, _, rfl, rfl, rfl⟩ rfl ?_
    refine Ops.skipg ⟨_, _, rfl, rfl, rfl⟩ rfl ?_
    refine Ops.pv (pv_pick_true rfl rfl) rfl ?_
    refine Ops.nil ?_
    refine Ends.seq ?_
    refine Wp.cond_true rfl ?_
    refine Wp.seq ?_
    refine Wp.region ?_
    refine Ops.pv (pv_assign rfl) rfl ?_
    refine Ops.nil ?_
    refine Ends.seq ?_
    refine Wp.ret ?_
    refine Ends.then_ret ?_
    exact Ends.ret (res1 rfl rfl) ⟨by simp_all [maskM, rightsOk], rfl⟩
  · refine Ops.pvg ⟨_, _, rfl, rfl, rfl⟩ (pv_move rfl) rfl ?_
    refine Ops.efg ⟨_, _, rfl, rfl, rfl⟩ (ef_callr (tr_rightsOk b) rfl rfl) ?_
    rintro _ _ ⟨rfl, rfl⟩
    first | refine Ops.pvg ⟨_, _, rfl, rfl, rfl⟩ (pv_not_dec rfl) rfl ?_ | refine Ops.pvg ⟨_, _, rfl, rfl, rfl⟩ (pv_not rfl) rfl ?_
    refine Ops.pv (pv_pick_false rfl rfl) rfl ?_
    refine Ops.nil ?_
    refine Ends.seq ?_
    first | refine Wp.cond_dect rfl (fun h2 => ?_) (fun h2 => ?_) | refine Wp.cond_t rfl (fun h2 => ?_) (fun h2 => ?_)
    · refine Wp.seq ?_
      refine Wp.region ?_
      refine Ops.pv (pv_assign rfl) rfl ?_
      refine Ops.nil ?_
      refine Ends.seq ?_
      refine Wp.ret ?_
      refine Ends.then_ret ?_
      exact Ends.ret (res1 rfl rfl) ⟨by simp_all [maskM, rightsOk], rfl⟩
    · refine Wp.skip ?_
      refine Ends.seq ?_
      refine Wp.seq ?_
      refine Wp.region ?_
      refine Ops.pv (pv_move rfl) rfl ?_
      refine Ops.pv (pv_move rfl) rfl ?_
      refine Ops.pv (pv_and rfl rfl rfl) rfl ?_
      refine Ops.pv (pv_assign rfl) rfl ?_
      refine Ops.nil ?_
      refine Ends.seq ?_
      refine Wp.ret ?_
      exact Ends.ret (res1 rfl rfl) ⟨by simp_all [maskM, rightsOk], rfl⟩

set_option maxHeartbeats 4000000 in
theorem tr_derive (c : CapM) (r bd g n : Int) : TrR Try.prog 56 [c.v, .int .i64 r, .int .u64 bd, .int .u64 g, .int .i64 n] ([]) (.tuple #[(derive c r bd g n).1.v, .int .i64 (derive c r bd g n).2]) := by
  refine Tr.enter Try.func56 rfl Try.ntmps56 rfl (fun W F => ?_)
  refine Wp.app ?_
  refine Wp.seq ?_
  refine Wp.region ?_
  refine Ops.ef rfl (ef_boxK rfl rfl) ?_
  rintro _ _ ⟨b1, rfl, rfl⟩
  refine Ops.ef rfl (ef_allocK tyZ24 rfl) ?_
  rintro _ _ ⟨b2, rfl, rfl⟩
  refine Ops.pv (pv_assign rfl) rfl ?_
  refine Ops.nil ?_
  refine Ends.seq ?_
  refine Wp.seq ?_
  refine Wp.seq ?_
  refine Wp.region ?_
  refine Ops.pv (pv_loadK [_, _, _, _, _, _] rfl rfl rfl ⟨rfl, rfl, rfl, rfl, rfl, rfl, trivial⟩) rfl ?_
  refine Ops.ef rfl (ef_callr (tr_check c) rfl rfl) ?_
  rintro _ _ ⟨rfl, rfl⟩
  refine Ops.pv (pv_assign rfl) rfl ?_
  refine Ops.nil ?_
  refine Ends.seq ?_
  refine Wp.seq ?_
  refine Wp.region ?_
  refine Ops.pv (pv_move rfl) rfl ?_
  refine Ops.pv (pv_neq rfl rfl) rfl ?_
  refine Ops.nil ?_
  refine Ends.seq ?_
  first | refine Wp.cond_dect rfl (fun h1 => ?_) (fun h1 => ?_) | refine Wp.cond_t rfl (fun h1 => ?_) (fun h1 => ?_)
  · refine Wp.seq ?_
    refine Wp.region ?_
    refine Ops.pv (pv_build rfl) rfl ?_
    refine Ops.pv (pv_move rfl) rfl ?_
    refine Ops.ef rfl (ef_storeK rfl rfl rfl rfl) ?_
    rintro _ _ ⟨rfl, rfl⟩
    refine Ops.pv (pv_assign rfl) rfl ?_
    refine Ops.nil ?_
    refine Ends.seq ?_
    refine Wp.ret ?_
    refine Ends.then_ret ?_
    exact Ends.ret (res_list (rs := [.cell 10 24, .tmp 11]) rfl ⟨_, _, rfl, rv_cellK [_, _, _, _, _, _] rfl rfl rfl ⟨rfl, rfl, rfl, rfl, rfl, rfl, trivial⟩, ⟨_, _, rfl, rv_tmp rfl, rfl⟩⟩ rfl) ⟨by simp_all [derive, rightsOk, IntKind.bits], rfl⟩
  · refine Wp.skip ?_
    refine Ends.seq ?_
    refine Wp.seq ?_
    refine Wp.seq ?_
    refine Wp.region ?_
    first | refine Ops.pv (pv_fieldAddr0 rfl rfl) rfl ?_ | refine Ops.pv (pv_fieldAddr rfl rfl) rfl ?_
    first | refine Ops.pv (pv_load rfl rfl rfl) rfl ?_ | refine Ops.pv (pv_load rfl rfl (by assumption)) rfl ?_
    refine Ops.nil ?_
    refine Ends.seq ?_
    refine Wp.block ?_
    refine Wp.seq ?_
    refine Wp.region ?_
    refine Ops.pv (pv_eql rfl rfl) rfl ?_
    refine Ops.pv (pv_assign rfl) rfl ?_
    refine Ops.nil ?_
    refine Ends.seq ?_
    first | refine Wp.cond_dect rfl (fun h2 => ?_) (fun h2 => ?_) | refine Wp.cond_t rfl (fun h2 => ?_) (fun h2 => ?_)
    · refine Wp.seq ?_
      refine Wp.region ?_
      refine Ops.pv (pv_build rfl) rfl ?_
      refine Ops.ef rfl (ef_storeK rfl rfl rfl rfl) ?_
      rintro _ _ ⟨rfl, rfl⟩
      refine Ops.pv (pv_assign rfl) rfl ?_
      refine Ops.nil ?_
      refine Ends.seq ?_
      refine Wp.ret ?_
      refine Ends.block_ret ?_
      refine Ends.then_ret ?_
      exact Ends.ret (res_list (rs := [.cell 10 24, .tmp 11]) rfl ⟨_, _, rfl, rv_cellK [_, _, _, _, _, _] rfl rfl rfl ⟨rfl, rfl, rfl, rfl, rfl, rfl, trivial⟩, ⟨_, _, rfl, rv_tmp rfl, rfl⟩⟩ rfl) ⟨by simp_all [derive, rightsOk, IntKind.bits], rfl⟩
    · refine Wp.seq ?_
      refine Wp.seq ?_
      refine Wp.region ?_
      refine Ops.pv (pv_eql rfl rfl) rfl ?_
      refine Ops.pv (pv_assign rfl) rfl ?_
      refine Ops.nil ?_
      refine Ends.seq ?_
      first | refine Wp.cond_dect rfl (fun h3 => ?_) (fun h3 => ?_) | refine Wp.cond_t rfl (fun h3 => ?_) (fun h3 => ?_)
      · refine Wp.skip ?_
        refine Ends.seq ?_
        refine Wp.cond_true rfl ?_
        refine Wp.seq ?_
        refine Wp.region ?_
        refine Ops.pv (pv_build rfl) rfl ?_
        refine Ops.ef rfl (ef_storeK rfl rfl rfl rfl) ?_
        rintro _ _ ⟨rfl, rfl⟩
        refine Ops.pv (pv_assign rfl) rfl ?_
        refine Ops.nil ?_
        refine Ends.seq ?_
        refine Wp.ret ?_
        refine Ends.block_ret ?_
        refine Ends.then_ret ?_
        exact Ends.ret (res_list (rs := [.cell 10 24, .tmp 11]) rfl ⟨_, _, rfl, rv_cellK [_, _, _, _, _, _] rfl rfl rfl ⟨rfl, rfl, rfl, rfl, rfl, rfl, trivial⟩, ⟨_, _, rfl, rv_tmp rfl, rfl⟩⟩ rfl) ⟨by simp_all [derive, rightsOk, IntKind.bits], rfl⟩
      · refine Wp.seq ?_
        refine Wp.region ?_
        refine Ops.pv (pv_eql rfl rfl) rfl ?_
        refine Ops.pv (pv_assign rfl) rfl ?_
        refine Ops.nil ?_
        refine Ends.seq ?_
        first | refine Wp.cond_dect rfl (fun h4 => ?_) (fun h4 => ?_) | refine Wp.cond_t rfl (fun h4 => ?_) (fun h4 => ?_)
        · refine Wp.skip ?_
          refine Ends.seq ?_
          refine Wp.cond_true rfl ?_
          refine Wp.seq ?_
          refine Wp.region ?_
          refine Ops.pv (pv_build rfl) rfl ?_
          refine Ops.ef rfl (ef_storeK rfl rfl rfl rfl) ?_
          rintro _ _ ⟨rfl, rfl⟩
          refine Ops.pv (pv_assign rfl) rfl ?_
          refine Ops.nil ?_
          refine Ends.seq ?_
          refine Wp.ret ?_
          refine Ends.block_ret ?_
          refine Ends.then_ret ?_
          exact Ends.ret (res_list (rs := [.cell 10 24, .tmp 11]) rfl ⟨_, _, rfl, rv_cellK [_, _, _, _, _, _] rfl rfl rfl ⟨rfl, rfl, rfl, rfl, rfl, rfl, trivial⟩, ⟨_, _, rfl, rv_tmp rfl, rfl⟩⟩ rfl) ⟨by simp_all [derive, rightsOk, IntKind.bits], rfl⟩
        · refine Wp.region ?_
          refine Ops.pv (pv_eql rfl rfl) rfl ?_
          refine Ops.pv (pv_assign rfl) rfl ?_
          refine Ops.nil ?_
          refine Ends.seq ?_
          first | refine Wp.cond_dect rfl (fun h5 => ?_) (fun h5 => ?_) | refine Wp.cond_t rfl (fun h5 => ?_) (fun h5 => ?_)
          · refine Wp.seq ?_
            refine Wp.region ?_
            refine Ops.pv (pv_build rfl) rfl ?_
            refine Ops.ef rfl (ef_storeK rfl rfl rfl rfl) ?_
            rintro _ _ ⟨rfl, rfl⟩
            refine Ops.pv (pv_assign rfl) rfl ?_
            refine Ops.nil ?_
            refine Ends.seq ?_
            refine Wp.ret ?_
            refine Ends.block_ret ?_
            refine Ends.then_ret ?_
            exact Ends.ret (res_list (rs := [.cell 10 24, .tmp 11]) rfl ⟨_, _, rfl, rv_cellK [_, _, _, _, _, _] rfl rfl rfl ⟨rfl, rfl, rfl, rfl, rfl, rfl, trivial⟩, ⟨_, _, rfl, rv_tmp rfl, rfl⟩⟩ rfl) ⟨by simp_all [derive, rightsOk, IntKind.bits], rfl⟩
          · refine Wp.skip ?_
            refine Ends.block_normal ?_
            refine Ends.seq ?_
            refine Wp.seq ?_
            refine Wp.seq ?_
            refine Wp.region ?_
            refine Ops.pv (pv_move rfl) rfl ?_
            refine Ops.ef rfl (ef_callr (tr_rightsOk r) rfl rfl) ?_
            rintro _ _ ⟨rfl, rfl⟩
            first | refine Ops.pv (pv_not_dec rfl) rfl ?_ | refine Ops.pv (pv_not rfl) rfl ?_
            refine Ops.nil ?_
            refine Ends.seq ?_
            first | refine Wp.cond_dect rfl (fun h6 => ?_) (fun h6 => ?_) | refine Wp.cond_t rfl (fun h6 => ?_) (fun h6 => ?_)
            · refine Wp.seq ?_
              refine Wp.region ?_
              refine Ops.pv (pv_build rfl) rfl ?_
              refine Ops.ef rfl (ef_storeK rfl rfl rfl rfl) ?_
              rintro _ _ ⟨rfl, rfl⟩
              refine Ops.pv (pv_assign rfl) rfl ?_
              refine Ops.nil ?_
              refine Ends.seq ?_
              refine Wp.ret ?_
              refine Ends.then_ret ?_
              exact Ends.ret (res_list (rs := [.cell 10 24, .tmp 11]) rfl ⟨_, _, rfl, rv_cellK [_, _, _, _, _, _] rfl rfl rfl ⟨rfl, rfl, rfl, rfl, rfl, rfl, trivial⟩, ⟨_, _, rfl, rv_tmp rfl, rfl⟩⟩ rfl) ⟨by simp_all [derive, rightsOk, IntKind.bits], rfl⟩
            · refine Wp.skip ?_
              refine Ends.seq ?_
              refine Wp.seq ?_
              refine Wp.seq ?_
              refine Wp.region ?_
              first | refine Ops.pv (pv_fieldAddr0 rfl rfl) rfl ?_ | refine Ops.pv (pv_fieldAddr rfl rfl) rfl ?_
              first | refine Ops.pv (pv_load rfl rfl rfl) rfl ?_ | refine Ops.pv (pv_load rfl rfl (by assumption)) rfl ?_
              refine Ops.nil ?_
              refine Ends.seq ?_
              refine Wp.block ?_
              refine Wp.seq ?_
              refine Wp.region ?_
              refine Ops.pv (pv_eql rfl rfl) rfl ?_
              refine Ops.pv (pv_assign rfl) rfl ?_
              refine Ops.nil ?_
              refine Ends.seq ?_
              first | refine Wp.cond_dect rfl (fun h7 => ?_) (fun h7 => ?_) | refine Wp.cond_t rfl (fun h7 => ?_) (fun h7 => ?_)
              · refine Wp.region ?_
                first | refine Ops.pv (pv_fieldAddr0 rfl rfl) rfl ?_ | refine Ops.pv (pv_fieldAddr rfl rfl) rfl ?_
                first | refine Ops.pv (pv_load rfl rfl rfl) rfl ?_ | refine Ops.pv (pv_load rfl rfl (by assumption)) rfl ?_
                refine Ops.pv (pv_move rfl) rfl ?_
                refine Ops.ef rfl (ef_callr (tr_mask c.rights r) rfl rfl) ?_
                rintro _ _ ⟨rfl, rfl⟩
                first | refine Ops.pv (pv_fieldAddr0 rfl rfl) rfl ?_ | refine Ops.pv (pv_fieldAddr rfl rfl) rfl ?_
                refine Ops.ef rfl (ef_store1 rfl rfl (by first | rfl | assumption) (by first | rfl | assumption)) ?_
                rintro _ _ ⟨rfl, rfl⟩
                refine Ops.nil ?_
                refine Ends.block_normal ?_
                refine Ends.seq ?_
                refine Wp.seq ?_
                refine Wp.region ?_
                refine Ops.pv (pv_loadK [_, _, _, _, _, _] rfl rfl rfl ⟨rfl, rfl, rfl, rfl, rfl, rfl, trivial⟩) rfl ?_
                refine Ops.ef rfl (ef_storeK rfl rfl rfl rfl) ?_
                rintro _ _ ⟨rfl, rfl⟩
                refine Ops.pv (pv_assign rfl) rfl ?_
                refine Ops.nil ?_
                refine Ends.seq ?_
                refine Wp.ret ?_
                exact Ends.ret (res_list (rs := [.cell 10 24, .tmp 11]) rfl ⟨_, _, rfl, rv_cellK [_, _, _, _, _, _] rfl rfl rfl ⟨rfl, rfl, rfl, rfl, rfl, rfl, trivial⟩, ⟨_, _, rfl, rv_tmp rfl, rfl⟩⟩ rfl) ⟨by simp_all [derive, rightsOk, IntKind.bits], rfl⟩
              · refine Wp.seq ?_
                refine Wp.region ?_
                refine Ops.pv (pv_eql rfl rfl) rfl ?_
                refine Ops.pv (pv_assign rfl) rfl ?_
                refine Ops.nil ?_
                refine Ends.seq ?_
                first | refine Wp.cond_dect rfl (fun h8 => ?_) (fun h8 => ?_) | refine Wp.cond_t rfl (fun h8 => ?_) (fun h8 => ?_)
                · refine Wp.seq ?_
                  refine Wp.seq ?_
                  refine Wp.region ?_
                  refine Ops.pv (pv_move rfl) rfl ?_
                  refine Ops.pv (pv_move rfl) rfl ?_
                  refine Ops.ef rfl (ef_callr (tr_fits g n) rfl rfl) ?_
                  rintro _ _ ⟨rfl, rfl⟩
                  first | refine Ops.pv (pv_not_dec rfl) rfl ?_ | refine Ops.pv (pv_not rfl) rfl ?_
                  refine Ops.nil ?_
                  refine Ends.seq ?_
                  first | refine Wp.cond_dect rfl (fun h9 => ?_) (fun h9 => ?_) | refine Wp.cond_t rfl (fun h9 => ?_) (fun h9 => ?_)
                  · refine Wp.seq ?_
                    refine Wp.region ?_
                    refine Ops.pv (pv_build rfl) rfl ?_
                    refine Ops.ef rfl (ef_storeK rfl rfl rfl rfl) ?_
                    rintro _ _ ⟨rfl, rfl⟩
                    refine Ops.pv (pv_assign rfl) rfl ?_
                    refine Ops.nil ?_
                    refine Ends.seq ?_
                    refine Wp.ret ?_
                    refine Ends.then_ret ?_
                    refine Ends.block_ret ?_
                    refine Ends.then_ret ?_
                    exact Ends.ret (res_list (rs := [.cell 10 24, .tmp 11]) rfl ⟨_, _, rfl, rv_cellK [_, _, _, _, _, _] rfl rfl rfl ⟨rfl, rfl, rfl, rfl, rfl, rfl, trivial⟩, ⟨_, _, rfl, rv_tmp rfl, rfl⟩⟩ rfl) ⟨by simp_all [derive, rightsOk, IntKind.bits], rfl⟩
                  · refine Wp.skip ?_
                    refine Ends.seq ?_
                    refine Wp.region ?_
                    refine Ops.pv (pv_move rfl) rfl ?_
                    refine Ops.pv (pv_move rfl) rfl ?_
                    first | refine Ops.pv (pv_fieldAddr0 rfl rfl) rfl ?_ | refine Ops.pv (pv_fieldAddr rfl rfl) rfl ?_
                    refine Ops.ef rfl (ef_store1 rfl rfl (by first | rfl | assumption) (by first | rfl | assumption)) ?_
                    rintro _ _ ⟨rfl, rfl⟩
                    first | refine Ops.pv (pv_fieldAddr0 rfl rfl) rfl ?_ | refine Ops.pv (pv_fieldAddr rfl rfl) rfl ?_
                    refine Ops.ef rfl (ef_store1 rfl rfl (by first | rfl | assumption) (by first | rfl | assumption)) ?_
                    rintro _ _ ⟨rfl, rfl⟩
                    refine Ops.nil ?_
                    refine Ends.block_normal ?_
                    refine Ends.seq ?_
                    refine Wp.seq ?_
                    refine Wp.region ?_
                    refine Ops.pv (pv_loadK [_, _, _, _, _, _] rfl rfl rfl ⟨rfl, rfl, rfl, rfl, rfl, rfl, trivial⟩) rfl ?_
                    refine Ops.ef rfl (ef_storeK rfl rfl rfl rfl) ?_
                    rintro _ _ ⟨rfl, rfl⟩
                    refine Ops.pv (pv_assign rfl) rfl ?_
                    refine Ops.nil ?_
                    refine Ends.seq ?_
                    refine Wp.ret ?_
                    exact Ends.ret (res_list (rs := [.cell 10 24, .tmp 11]) rfl ⟨_, _, rfl, rv_cellK [_, _, _, _, _, _] rfl rfl rfl ⟨rfl, rfl, rfl, rfl, rfl, rfl, trivial⟩, ⟨_, _, rfl, rv_tmp rfl, rfl⟩⟩ rfl) ⟨by simp_all [derive, rightsOk, IntKind.bits], rfl⟩
                · refine Wp.seq ?_
                  refine Wp.seq ?_
                  refine Wp.region ?_
                  refine Ops.pv (pv_eql rfl rfl) rfl ?_
                  refine Ops.pv (pv_assign rfl) rfl ?_
                  refine Ops.nil ?_
                  refine Ends.seq ?_
                  first | refine Wp.cond_dect rfl (fun h10 => ?_) (fun h10 => ?_) | refine Wp.cond_t rfl (fun h10 => ?_) (fun h10 => ?_)
                  · refine Wp.skip ?_
                    refine Ends.seq ?_
                    refine Wp.cond_true rfl ?_
                    refine Wp.seq ?_
                    refine Wp.region ?_
                    first | refine Ops.pv (pv_fieldAddr0 rfl rfl) rfl ?_ | refine Ops.pv (pv_fieldAddr rfl rfl) rfl ?_
                    first | refine Ops.pv (pv_load rfl rfl rfl) rfl ?_ | refine Ops.pv (pv_load rfl rfl (by assumption)) rfl ?_
                    refine Ops.pv (pv_move rfl) rfl ?_
                    refine Ops.ef rfl (ef_callr (tr_mask c.rights r) rfl rfl) ?_
                    rintro _ _ ⟨rfl, rfl⟩
                    first | refine Ops.pv (pv_fieldAddr0 rfl rfl) rfl ?_ | refine Ops.pv (pv_fieldAddr rfl rfl) rfl ?_
                    refine Ops.ef rfl (ef_store1 rfl rfl (by first | rfl | assumption) (by first | rfl | assumption)) ?_
                    rintro _ _ ⟨rfl, rfl⟩
                    refine Ops.nil ?_
                    refine Ends.seq ?_
                    refine Wp.seq ?_
                    refine Wp.seq ?_
                    refine Wp.region ?_
                    refine Ops.pv (pv_move rfl) rfl ?_
                    refine Ops.pv (pv_neq rfl rfl) rfl ?_
                    refine Ops.nil ?_
                    refine Ends.seq ?_
                    first | refine Wp.cond_dect rfl (fun h11 => ?_) (fun h11 => ?_) | refine Wp.cond_t rfl (fun h11 => ?_) (fun h11 => ?_)
                    · refine Wp.seq ?_
                      refine Wp.seq ?_
                      refine Wp.region ?_
                      first | refine Ops.pv (pv_fieldAddr0 rfl rfl) rfl ?_ | refine Ops.pv (pv_fieldAddr rfl rfl) rfl ?_
                      first | refine Ops.pv (pv_load rfl rfl rfl) rfl ?_ | refine Ops.pv (pv_load rfl rfl (by assumption)) rfl ?_
                      refine Ops.pv (pv_neq rfl rfl) rfl ?_
                      refine Ops.nil ?_
                      refine Ends.seq ?_
                      first | refine Wp.cond_dect rfl (fun h12 => ?_) (fun h12 => ?_) | refine Wp.cond_t rfl (fun h12 => ?_) (fun h12 => ?_)
                      · refine Wp.seq ?_
                        refine Wp.region ?_
                        refine Ops.pv (pv_build rfl) rfl ?_
                        refine Ops.ef rfl (ef_storeK rfl rfl rfl rfl) ?_
                        rintro _ _ ⟨rfl, rfl⟩
                        refine Ops.pv (pv_assign rfl) rfl ?_
                        refine Ops.nil ?_
                        refine Ends.seq ?_
                        refine Wp.ret ?_
                        refine Ends.then_ret ?_
                        refine Ends.then_ret ?_
                        refine Ends.block_ret ?_
                        refine Ends.then_ret ?_
                        exact Ends.ret (res_list (rs := [.cell 10 24, .tmp 11]) rfl ⟨_, _, rfl, rv_cellK [_, _, _, _, _, _] rfl rfl rfl ⟨rfl, rfl, rfl, rfl, rfl, rfl, trivial⟩, ⟨_, _, rfl, rv_tmp rfl, rfl⟩⟩ rfl) ⟨by simp_all [derive, rightsOk, IntKind.bits], rfl⟩
                      · refine Wp.skip ?_
                        refine Ends.seq ?_
                        refine Wp.region ?_
                        refine Ops.pv (pv_move rfl) rfl ?_
                        first | refine Ops.pv (pv_fieldAddr0 rfl rfl) rfl ?_ | refine Ops.pv (pv_fieldAddr rfl rfl) rfl ?_
                        refine Ops.ef rfl (ef_store1 rfl rfl (by first | rfl | assumption) (by first | rfl | assumption)) ?_
                        rintro _ _ ⟨rfl, rfl⟩
                        refine Ops.nil ?_
                        refine Ends.seq ?_
                        refine Wp.seq ?_
                        refine Wp.region ?_
                        first | refine Ops.pv (pv_fieldAddr0 rfl rfl) rfl ?_ | refine Ops.pv (pv_fieldAddr rfl rfl) rfl ?_
                        first | refine Ops.pv (pv_load rfl rfl rfl) rfl ?_ | refine Ops.pv (pv_load rfl rfl (by assumption)) rfl ?_
                        refine Ops.pv (pv_shr rfl rfl (by omega) rfl) rfl ?_
                        refine Ops.pv (pv_neq rfl rfl) rfl ?_
                        refine Ops.nil ?_
                        refine Ends.seq ?_
                        first | refine Wp.cond_dect rfl (fun h13 => ?_) (fun h13 => ?_) | refine Wp.cond_t rfl (fun h13 => ?_) (fun h13 => ?_)
                        · refine Wp.seq ?_
                          refine Wp.region ?_
                          refine Ops.pv (pv_build rfl) rfl ?_
                          refine Ops.ef rfl (ef_storeK rfl rfl rfl rfl) ?_
                          rintro _ _ ⟨rfl, rfl⟩
                          refine Ops.pv (pv_assign rfl) rfl ?_
                          refine Ops.nil ?_
                          refine Ends.seq ?_
                          refine Wp.ret ?_
                          refine Ends.block_ret ?_
                          refine Ends.then_ret ?_
                          exact Ends.ret (res_list (rs := [.cell 10 24, .tmp 11]) rfl ⟨_, _, rfl, rv_cellK [_, _, _, _, _, _] rfl rfl rfl ⟨rfl, rfl, rfl, rfl, rfl, rfl, trivial⟩, ⟨_, _, rfl, rv_tmp rfl, rfl⟩⟩ rfl) ⟨by simp_all [derive, rightsOk, IntKind.bits], rfl⟩
                        · refine Wp.skip ?_
                          refine Ends.block_normal ?_
                          refine Ends.seq ?_
                          refine Wp.seq ?_
                          refine Wp.region ?_
                          refine Ops.pv (pv_loadK [_, _, _, _, _, _] rfl rfl rfl ⟨rfl, rfl, rfl, rfl, rfl, rfl, trivial⟩) rfl ?_
                          refine Ops.ef rfl (ef_storeK rfl rfl rfl rfl) ?_
                          rintro _ _ ⟨rfl, rfl⟩
                          refine Ops.pv (pv_assign rfl) rfl ?_
                          refine Ops.nil ?_
                          refine Ends.seq ?_
                          refine Wp.ret ?_
                          exact Ends.ret (res_list (rs := [.cell 10 24, .tmp 11]) rfl ⟨_, _, rfl, rv_cellK [_, _, _, _, _, _] rfl rfl rfl ⟨rfl, rfl, rfl, rfl, rfl, rfl, trivial⟩, ⟨_, _, rfl, rv_tmp rfl, rfl⟩⟩ rfl) ⟨by simp_all [derive, rightsOk, IntKind.bits], rfl⟩
                    · refine Wp.skip ?_
                      refine Ends.seq ?_
                      refine Wp.seq ?_
                      refine Wp.region ?_
                      first | refine Ops.pv (pv_fieldAddr0 rfl rfl) rfl ?_ | refine Ops.pv (pv_fieldAddr rfl rfl) rfl ?_
                      first | refine Ops.pv (pv_load rfl rfl rfl) rfl ?_ | refine Ops.pv (pv_load rfl rfl (by assumption)) rfl ?_
                      refine Ops.pv (pv_shr rfl rfl (by omega) rfl) rfl ?_
                      refine Ops.pv (pv_neq rfl rfl) rfl ?_
                      refine Ops.nil ?_
                      refine Ends.seq ?_
                      first | refine Wp.cond_dect rfl (fun h14 => ?_) (fun h14 => ?_) | refine Wp.cond_t rfl (fun h14 => ?_) (fun h14 => ?_)
                      · refine Wp.seq ?_
                        refine Wp.region ?_
                        refine Ops.pv (pv_build rfl) rfl ?_
                        refine Ops.ef rfl (ef_storeK rfl rfl rfl rfl) ?_
                        rintro _ _ ⟨rfl, rfl⟩
                        refine Ops.pv (pv_assign rfl) rfl ?_
                        refine Ops.nil ?_
                        refine Ends.seq ?_
                        refine Wp.ret ?_
                        refine Ends.block_ret ?_
                        refine Ends.then_ret ?_
                        exact Ends.ret (res_list (rs := [.cell 10 24, .tmp 11]) rfl ⟨_, _, rfl, rv_cellK [_, _, _, _, _, _] rfl rfl rfl ⟨rfl, rfl, rfl, rfl, rfl, rfl, trivial⟩, ⟨_, _, rfl, rv_tmp rfl, rfl⟩⟩ rfl) ⟨by simp_all [derive, rightsOk, IntKind.bits], rfl⟩
                      · refine Wp.skip ?_
                        refine Ends.block_normal ?_
                        refine Ends.seq ?_
                        refine Wp.seq ?_
                        refine Wp.region ?_
                        refine Ops.pv (pv_loadK [_, _, _, _, _, _] rfl rfl rfl ⟨rfl, rfl, rfl, rfl, rfl, rfl, trivial⟩) rfl ?_
                        refine Ops.ef rfl (ef_storeK rfl rfl rfl rfl) ?_
                        rintro _ _ ⟨rfl, rfl⟩
                        refine Ops.pv (pv_assign rfl) rfl ?_
                        refine Ops.nil ?_
                        refine Ends.seq ?_
                        refine Wp.ret ?_
                        exact Ends.ret (res_list (rs := [.cell 10 24, .tmp 11]) rfl ⟨_, _, rfl, rv_cellK [_, _, _, _, _, _] rfl rfl rfl ⟨rfl, rfl, rfl, rfl, rfl, rfl, trivial⟩, ⟨_, _, rfl, rv_tmp rfl, rfl⟩⟩ rfl) ⟨by simp_all [derive, rightsOk, IntKind.bits], rfl⟩
                  · refine Wp.region ?_
                    refine Ops.pv (pv_eql rfl rfl) rfl ?_
                    refine Ops.pv (pv_assign rfl) rfl ?_
                    refine Ops.nil ?_
                    refine Ends.seq ?_
                    first | refine Wp.cond_dect rfl (fun h15 => ?_) (fun h15 => ?_) | refine Wp.cond_t rfl (fun h15 => ?_) (fun h15 => ?_)
                    · refine Wp.seq ?_
                      refine Wp.region ?_
                      first | refine Ops.pv (pv_fieldAddr0 rfl rfl) rfl ?_ | refine Ops.pv (pv_fieldAddr rfl rfl) rfl ?_
                      first | refine Ops.pv (pv_load rfl rfl rfl) rfl ?_ | refine Ops.pv (pv_load rfl rfl (by assumption)) rfl ?_
                      refine Ops.pv (pv_move rfl) rfl ?_
                      refine Ops.ef rfl (ef_callr (tr_mask c.rights r) rfl rfl) ?_
                      rintro _ _ ⟨rfl, rfl⟩
                      first | refine Ops.pv (pv_fieldAddr0 rfl rfl) rfl ?_ | refine Ops.pv (pv_fieldAddr rfl rfl) rfl ?_
                      refine Ops.ef rfl (ef_store1 rfl rfl (by first | rfl | assumption) (by first | rfl | assumption)) ?_
                      rintro _ _ ⟨rfl, rfl⟩
                      refine Ops.nil ?_
                      refine Ends.seq ?_
                      refine Wp.seq ?_
                      refine Wp.seq ?_
                      refine Wp.region ?_
                      refine Ops.pv (pv_move rfl) rfl ?_
                      refine Ops.pv (pv_neq rfl rfl) rfl ?_
                      refine Ops.nil ?_
                      refine Ends.seq ?_
                      first | refine Wp.cond_dect rfl (fun h16 => ?_) (fun h16 => ?_) | refine Wp.cond_t rfl (fun h16 => ?_) (fun h16 => ?_)
                      · refine Wp.seq ?_
                        refine Wp.seq ?_
                        refine Wp.region ?_
                        first | refine Ops.pv (pv_fieldAddr0 rfl rfl) rfl ?_ | refine Ops.pv (pv_fieldAddr rfl rfl) rfl ?_
                        first | refine Ops.pv (pv_load rfl rfl rfl) rfl ?_ | refine Ops.pv (pv_load rfl rfl (by assumption)) rfl ?_
                        refine Ops.pv (pv_neq rfl rfl) rfl ?_
                        refine Ops.nil ?_
                        refine Ends.seq ?_
                        first | refine Wp.cond_dect rfl (fun h17 => ?_) (fun h17 => ?_) | refine Wp.cond_t rfl (fun h17 => ?_) (fun h17 => ?_)
                        · refine Wp.seq ?_
                          refine Wp.region ?_
                          refine Ops.pv (pv_build rfl) rfl ?_
                          refine Ops.ef rfl (ef_storeK rfl rfl rfl rfl) ?_
                          rintro _ _ ⟨rfl, rfl⟩
                          refine Ops.pv (pv_assign rfl) rfl ?_
                          refine Ops.nil ?_
                          refine Ends.seq ?_
                          refine Wp.ret ?_
                          refine Ends.then_ret ?_
                          refine Ends.then_ret ?_
                          refine Ends.block_ret ?_
                          refine Ends.then_ret ?_
                          exact Ends.ret (res_list (rs := [.cell 10 24, .tmp 11]) rfl ⟨_, _, rfl, rv_cellK [_, _, _, _, _, _] rfl rfl rfl ⟨rfl, rfl, rfl, rfl, rfl, rfl, trivial⟩, ⟨_, _, rfl, rv_tmp rfl, rfl⟩⟩ rfl) ⟨by simp_all [derive, rightsOk, IntKind.bits], rfl⟩
                        · refine Wp.skip ?_
                          refine Ends.seq ?_
                          refine Wp.region ?_
                          refine Ops.pv (pv_move rfl) rfl ?_
                          first | refine Ops.pv (pv_fieldAddr0 rfl rfl) rfl ?_ | refine Ops.pv (pv_fieldAddr rfl rfl) rfl ?_
                          refine Ops.ef rfl (ef_store1 rfl rfl (by first | rfl | assumption) (by first | rfl | assumption)) ?_
                          rintro _ _ ⟨rfl, rfl⟩
                          refine Ops.nil ?_
                          refine Ends.seq ?_
                          refine Wp.seq ?_
                          refine Wp.region ?_
                          first | refine Ops.pv (pv_fieldAddr0 rfl rfl) rfl ?_ | refine Ops.pv (pv_fieldAddr rfl rfl) rfl ?_
                          first | refine Ops.pv (pv_load rfl rfl rfl) rfl ?_ | refine Ops.pv (pv_load rfl rfl (by assumption)) rfl ?_
                          refine Ops.pv (pv_shr rfl rfl (by omega) rfl) rfl ?_
                          refine Ops.pv (pv_neq rfl rfl) rfl ?_
                          refine Ops.nil ?_
                          refine Ends.seq ?_
                          first | refine Wp.cond_dect rfl (fun h18 => ?_) (fun h18 => ?_) | refine Wp.cond_t rfl (fun h18 => ?_) (fun h18 => ?_)
                          · refine Wp.seq ?_
                            refine Wp.region ?_
                            refine Ops.pv (pv_build rfl) rfl ?_
                            refine Ops.ef rfl (ef_storeK rfl rfl rfl rfl) ?_
                            rintro _ _ ⟨rfl, rfl⟩
                            refine Ops.pv (pv_assign rfl) rfl ?_
                            refine Ops.nil ?_
                            refine Ends.seq ?_
                            refine Wp.ret ?_
                            refine Ends.block_ret ?_
                            refine Ends.then_ret ?_
                            exact Ends.ret (res_list (rs := [.cell 10 24, .tmp 11]) rfl ⟨_, _, rfl, rv_cellK [_, _, _, _, _, _] rfl rfl rfl ⟨rfl, rfl, rfl, rfl, rfl, rfl, trivial⟩, ⟨_, _, rfl, rv_tmp rfl, rfl⟩⟩ rfl) ⟨by simp_all [derive, rightsOk, IntKind.bits], rfl⟩
                          · refine Wp.skip ?_
                            refine Ends.block_normal ?_
                            refine Ends.seq ?_
                            refine Wp.seq ?_
                            refine Wp.region ?_
                            refine Ops.pv (pv_loadK [_, _, _, _, _, _] rfl rfl rfl ⟨rfl, rfl, rfl, rfl, rfl, rfl, trivial⟩) rfl ?_
                            refine Ops.ef rfl (ef_storeK rfl rfl rfl rfl) ?_
                            rintro _ _ ⟨rfl, rfl⟩
                            refine Ops.pv (pv_assign rfl) rfl ?_
                            refine Ops.nil ?_
                            refine Ends.seq ?_
                            refine Wp.ret ?_
                            exact Ends.ret (res_list (rs := [.cell 10 24, .tmp 11]) rfl ⟨_, _, rfl, rv_cellK [_, _, _, _, _, _] rfl rfl rfl ⟨rfl, rfl, rfl, rfl, rfl, rfl, trivial⟩, ⟨_, _, rfl, rv_tmp rfl, rfl⟩⟩ rfl) ⟨by simp_all [derive, rightsOk, IntKind.bits], rfl⟩
                      · refine Wp.skip ?_
                        refine Ends.seq ?_
                        refine Wp.seq ?_
                        refine Wp.region ?_
                        first | refine Ops.pv (pv_fieldAddr0 rfl rfl) rfl ?_ | refine Ops.pv (pv_fieldAddr rfl rfl) rfl ?_
                        first | refine Ops.pv (pv_load rfl rfl rfl) rfl ?_ | refine Ops.pv (pv_load rfl rfl (by assumption)) rfl ?_
                        refine Ops.pv (pv_shr rfl rfl (by omega) rfl) rfl ?_
                        refine Ops.pv (pv_neq rfl rfl) rfl ?_
                        refine Ops.nil ?_
                        refine Ends.seq ?_
                        first | refine Wp.cond_dect rfl (fun h19 => ?_) (fun h19 => ?_) | refine Wp.cond_t rfl (fun h19 => ?_) (fun h19 => ?_)
                        · refine Wp.seq ?_
                          refine Wp.region ?_
                          refine Ops.pv (pv_build rfl) rfl ?_
                          refine Ops.ef rfl (ef_storeK rfl rfl rfl rfl) ?_
                          rintro _ _ ⟨rfl, rfl⟩
                          refine Ops.pv (pv_assign rfl) rfl ?_
                          refine Ops.nil ?_
                          refine Ends.seq ?_
                          refine Wp.ret ?_
                          refine Ends.block_ret ?_
                          refine Ends.then_ret ?_
                          exact Ends.ret (res_list (rs := [.cell 10 24, .tmp 11]) rfl ⟨_, _, rfl, rv_cellK [_, _, _, _, _, _] rfl rfl rfl ⟨rfl, rfl, rfl, rfl, rfl, rfl, trivial⟩, ⟨_, _, rfl, rv_tmp rfl, rfl⟩⟩ rfl) ⟨by simp_all [derive, rightsOk, IntKind.bits], rfl⟩
                        · refine Wp.skip ?_
                          refine Ends.block_normal ?_
                          refine Ends.seq ?_
                          refine Wp.seq ?_
                          refine Wp.region ?_
                          refine Ops.pv (pv_loadK [_, _, _, _, _, _] rfl rfl rfl ⟨rfl, rfl, rfl, rfl, rfl, rfl, trivial⟩) rfl ?_
                          refine Ops.ef rfl (ef_storeK rfl rfl rfl rfl) ?_
                          rintro _ _ ⟨rfl, rfl⟩
                          refine Ops.pv (pv_assign rfl) rfl ?_
                          refine Ops.nil ?_
                          refine Ends.seq ?_
                          refine Wp.ret ?_
                          exact Ends.ret (res_list (rs := [.cell 10 24, .tmp 11]) rfl ⟨_, _, rfl, rv_cellK [_, _, _, _, _, _] rfl rfl rfl ⟨rfl, rfl, rfl, rfl, rfl, rfl, trivial⟩, ⟨_, _, rfl, rv_tmp rfl, rfl⟩⟩ rfl) ⟨by simp_all [derive, rightsOk, IntKind.bits], rfl⟩
                    · refine Wp.skip ?_
                      refine Ends.block_normal ?_
                      refine Ends.seq ?_
                      refine Wp.seq ?_
                      refine Wp.region ?_
                      refine Ops.pv (pv_loadK [_, _, _, _, _, _] rfl rfl rfl ⟨rfl, rfl, rfl, rfl, rfl, rfl, trivial⟩) rfl ?_
                      refine Ops.ef rfl (ef_storeK rfl rfl rfl rfl) ?_
                      rintro _ _ ⟨rfl, rfl⟩
                      refine Ops.pv (pv_assign rfl) rfl ?_
                      refine Ops.nil ?_
                      refine Ends.seq ?_
                      refine Wp.ret ?_
                      exact Ends.ret (res_list (rs := [.cell 10 24, .tmp 11]) rfl ⟨_, _, rfl, rv_cellK [_, _, _, _, _, _] rfl rfl rfl ⟨rfl, rfl, rfl, rfl, rfl, rfl, trivial⟩, ⟨_, _, rfl, rv_tmp rfl, rfl⟩⟩ rfl) ⟨by simp_all [derive, rightsOk, IntKind.bits], rfl⟩

theorem tr_mNew  : Tr Try.prog 13 [] ([]) (fun v L' => ∃ cb, v = cpP cb ∧ CapsH 0 PS.new cb L') := by
  refine Tr.enter Try.func13 rfl Try.ntmps13 rfl (fun W F => ?_)
  refine Wp.app ?_
  refine Wp.seq ?_
  refine Wp.region ?_
  refine Ops.pv (pv_assign rfl) rfl ?_
  refine Ops.nil ?_
  refine Ends.seq ?_
  refine Wp.seq ?_
  refine Wp.region ?_
  refine Ops.ef rfl (ef_call sf_new rfl rfl) ?_
  rintro _ _ ⟨_, Q1, ⟨sb1, rfl, hS1⟩, rfl, rfl⟩
  refine Ops.app ?_
  skip
  refine Ops.pv (pv_build rfl) rfl ?_
  refine Ops.ef rfl (ef_call tr_fNew rfl rfl) ?_
  rintro _ _ ⟨_, R1, ⟨tb1, rfl, hT1⟩, rfl, rfl⟩
  refine Ops.app ?_
  skip
  refine Ops.pv (pv_build rfl) rfl ?_
  refine Ops.ef rfl (ef_boxK rfl rfl) ?_
  rintro _ _ ⟨b1, rfl, rfl⟩
  refine Ops.pv (pv_assign rfl) rfl ?_
  refine Ops.nil ?_
  refine Ends.seq ?_
  refine Wp.ret ?_
  exact Ends.ret (L' := cBlk b1 sb1 tb1 :: (Q1 ++ R1)) (res1 rfl rfl) ⟨b1, rfl, sb1, tb1, Q1, R1, hS1, hT1, rfl⟩

theorem tr_smNode (l : List DN) (sb : Nat) (Ls : Hp) (hS : StF l sb Ls) (x r : Int) : Tr Try.prog 14 [.agg #[stP sb], .int .i64 x, .int .i64 r] (Ls) (fun u L' => u = .int .i64 (dadd l x r).1 ∧ StF (dadd l x r).2 sb L') := by
  refine Tr.enter Try.func14 rfl Try.ntmps14 rfl (fun W F => ?_)
  refine Wp.app ?_
  refine Wp.seq ?_
  refine Wp.region ?_
  refine Ops.ef rfl (ef_boxK rfl rfl) ?_
  rintro _ _ ⟨b1, rfl, rfl⟩
  refine Ops.pv (pv_assign rfl) rfl ?_
  refine Ops.nil ?_
  refine Ends.seq ?_
  refine Wp.seq ?_
  refine Wp.region ?_
  first | refine Ops.pv (pv_fieldAddr0 rfl rfl) rfl ?_ | refine Ops.pv (pv_fieldAddr rfl rfl) rfl ?_
  first | refine Ops.pv (pv_load rfl rfl rfl) rfl ?_ | refine Ops.pv (pv_load rfl rfl (by assumption)) rfl ?_
  refine Ops.pv (pv_move rfl) rfl ?_
  refine Ops.pv (pv_move rfl) rfl ?_
  refine Ops.ef rfl (ef_call (sf_add hS x r) rfl rfl) ?_
  rintro _ _ ⟨_, Q1, ⟨rfl, hS1⟩, rfl, rfl⟩
  refine Ops.app ?_
  skip
  refine Ops.pv (pv_assign rfl) rfl ?_
  refine Ops.nil ?_
  refine Ends.seq ?_
  refine Wp.ret ?_
  exact Ends.ret (L' := Q1) (res1 rfl rfl) ⟨rfl, hS1⟩

theorem tr_smClear (l : List DN) (sb : Nat) (Ls : Hp) (hS : StF l sb Ls) (x : Int) : Tr Try.prog 31 [.agg #[stP sb], .int .i64 x] (Ls) (fun u L' => u = .int .i64 (ddrop l x).1 ∧ StF (ddrop l x).2 sb L') := by
  refine Tr.enter Try.func31 rfl Try.ntmps31 rfl (fun W F => ?_)
  refine Wp.app ?_
  refine Wp.seq ?_
  refine Wp.region ?_
  refine Ops.ef rfl (ef_boxK rfl rfl) ?_
  rintro _ _ ⟨b1, rfl, rfl⟩
  refine Ops.pv (pv_assign rfl) rfl ?_
  refine Ops.nil ?_
  refine Ends.seq ?_
  refine Wp.seq ?_
  refine Wp.region ?_
  first | refine Ops.pv (pv_fieldAddr0 rfl rfl) rfl ?_ | refine Ops.pv (pv_fieldAddr rfl rfl) rfl ?_
  first | refine Ops.pv (pv_load rfl rfl rfl) rfl ?_ | refine Ops.pv (pv_load rfl rfl (by assumption)) rfl ?_
  refine Ops.pv (pv_move rfl) rfl ?_
  refine Ops.ef rfl (ef_call (sf_drop hS x) rfl rfl) ?_
  rintro _ _ ⟨_, Q1, ⟨rfl, hS1⟩, rfl, rfl⟩
  refine Ops.app ?_
  skip
  refine Ops.pv (pv_assign rfl) rfl ?_
  refine Ops.nil ?_
  refine Ends.seq ?_
  refine Wp.ret ?_
  exact Ends.ret (L' := Q1) (res1 rfl rfl) ⟨rfl, hS1⟩

theorem tr_mSource (n cb : Nat) (L : Hp) (p : PS) (hH : CapsH n p cb L) (so : SlotM) : TrR Try.prog 51 [cpP cb, slotV so] (L) (.tuple #[(mSource p so).1.v, .int .i64 (mSource p so).2]) := by
  obtain ⟨sb, tb, Ls, Lt, hS, hT, rfl⟩ := hH
  refine Tr.enter Try.func51 rfl Try.ntmps51 rfl (fun W F => ?_)
  refine Wp.app ?_
  refine Wp.seq ?_
  refine Wp.region ?_
  refine Ops.ef rfl (ef_boxK rfl rfl) ?_
  rintro _ _ ⟨b1, rfl, rfl⟩
  refine Ops.ef rfl (ef_allocK tyZ24 rfl) ?_
  rintro _ _ ⟨b2, rfl, rfl⟩
  refine Ops.pv (pv_assign rfl) rfl ?_
  refine Ops.nil ?_
  refine Ends.seq ?_
  refine Wp.seq ?_
  refine AnyH.start ((b1, .cells [.int .i64 so.1, .int .i64 so.2].toArray 38) :: cBlk cb sb tb :: []) 13 rfl ?_
  refine AnyH.take 0 rfl (by kernel_rfl) (by kernel_rfl) (by kernel_rfl) PF.pf rfl (pv_move rfl) rfl ?_
  first | refine AnyH.take 1 rfl (by kernel_rfl) (by kernel_rfl) (by kernel_rfl) PF.pf rfl (pv_nilCheck rfl) rfl ?_ | refine AnyH.take 1 rfl (by kernel_rfl) (by kernel_rfl) (by kernel_rfl) PF.pf rfl (pv_nilCheck_func rfl rfl) rfl ?_
  first | refine AnyH.take 2 rfl (by kernel_rfl) (by kernel_rfl) (by kernel_rfl) PF.pf rfl (pv_fieldAddr0 rfl rfl) rfl ?_ | refine AnyH.take 2 rfl (by kernel_rfl) (by kernel_rfl) (by kernel_rfl) PF.pf rfl (pv_fieldAddr rfl rfl) rfl ?_
  first | refine AnyH.take 3 rfl (by kernel_rfl) (by kernel_rfl) (by kernel_rfl) PF.pf rfl (pv_fieldAddr0 rfl rfl) rfl ?_ | refine AnyH.take 3 rfl (by kernel_rfl) (by kernel_rfl) (by kernel_rfl) PF.pf rfl (pv_fieldAddr rfl rfl) rfl ?_
  first | refine AnyH.take 4 rfl (by kernel_rfl) (by kernel_rfl) (by kernel_rfl) PF.pf rfl (pv_load rfl rfl rfl) rfl ?_ | refine AnyH.take 4 rfl (by kernel_rfl) (by kernel_rfl) (by kernel_rfl) PF.pf rfl (pv_load rfl rfl (by assumption)) rfl ?_
  refine AnyH.take 5 rfl (by kernel_rfl) (by kernel_rfl) (by kernel_rfl) PF.pf rfl (pv_loadK [_, _] rfl rfl rfl ⟨rfl, rfl, trivial⟩) rfl ?_
  refine AnyH.two 6 10 (by kernel_rfl) ?_ ?_
  · refine Turn.ef rfl rfl (ef_callr (sf_get hS so) rfl rfl) ?_ ?_
    · rintro _ _ ⟨rfl, rfl⟩; infer_instance
    rintro _ _ ⟨rfl, rfl⟩
    refine AnyH.take 7 rfl (by kernel_rfl) (by kernel_rfl) (by kernel_rfl) PF.pf rfl (pv_move rfl) rfl ?_
    refine AnyH.take 8 rfl (by kernel_rfl) (by kernel_rfl) (by kernel_rfl) PF.pf rfl (pv_extract rfl rfl) rfl ?_
    refine AnyH.take 9 rfl (by kernel_rfl) (by kernel_rfl) (by kernel_rfl) PF.pf rfl (pv_extract rfl rfl) rfl ?_
    refine AnyH.one 10 (by kernel_rfl) ?_
    refine Turn.ef rfl rfl (ef_allocK tyZ24 rfl) ?_ ?_
    · rintro _ _ ⟨b3, rfl, rfl⟩; infer_instance
    rintro _ _ ⟨b3, rfl, rfl⟩
    refine AnyH.one 11 (by kernel_rfl) ?_
    refine Turn.ef rfl rfl (ef_storeK rfl rfl rfl rfl) ?_ ?_
    · rintro _ _ ⟨rfl, rfl⟩; infer_instance
    rintro _ _ ⟨rfl, rfl⟩
    refine AnyH.take 12 rfl (by kernel_rfl) (by kernel_rfl) (by kernel_rfl) PF.pf rfl (pv_assign rfl) rfl ?_
    refine AnyH.done (by kernel_rfl) ?_
    refine Ends.seq ?_
    refine Wp.seq ?_
    refine Wp.seq ?_
    refine Wp.region ?_
    refine Ops.pv (pv_move rfl) rfl ?_
    refine Ops.pv (pv_eql rfl rfl) rfl ?_
    refine Ops.pv (pv_move rfl) rfl ?_
    first | refine Ops.pvc rfl rfl (fun hg => pv_fieldAddr0 rfl rfl) rfl ?_ | refine Ops.pvc rfl rfl (fun hg => pv_fieldAddr rfl rfl) rfl ?_
    first | refine Ops.pvc rfl rfl (fun hg => Pv.setE (t := 21) rfl (cv_pos hg) (pv_load rfl rfl rfl)) rfl ?_ | refine Ops.pvc rfl rfl (fun hg => Pv.setE (t := 21) rfl (cv_pos hg) (pv_load rfl rfl (by assumption))) rfl ?_
    refine Ops.pvc rfl rfl (fun hg => Pv.setE (t := 21) rfl (cv_pos hg) (Pv.setE (t := 22) rfl (cv_pos hg) (pv_eql rfl rfl))) rfl ?_
    refine Ops.pv (pv_pick_and rfl rfl) rfl ?_
    refine Ops.nil ?_
    refine Ends.seq ?_
    first | refine Wp.cond_dect rfl (fun h1 => ?_) (fun h1 => ?_) | refine Wp.cond_t rfl (fun h1 => ?_) (fun h1 => ?_)
    · refine Wp.region ?_
      refine Ops.pv (pv_assign rfl) rfl ?_
      refine Ops.nil ?_
      refine Ends.seq ?_
      refine Wp.seq ?_
      refine Wp.region ?_
      refine Ops.pv (pv_loadK [_, _, _, _, _, _] rfl rfl rfl ⟨rfl, rfl, rfl, rfl, rfl, rfl, trivial⟩) rfl ?_
      refine Ops.pv (pv_move rfl) rfl ?_
      refine Ops.ef rfl (ef_storeK rfl rfl rfl rfl) ?_
      rintro _ _ ⟨rfl, rfl⟩
      refine Ops.pv (pv_assign rfl) rfl ?_
      refine Ops.nil ?_
      refine Ends.seq ?_
      refine Wp.ret ?_
      have he : mSource p so = ((dget p.l so).1, 3) := if_pos (by assumption)
      exact Ends.ret (res_list (rs := [.cell 4 24, .tmp 5]) rfl ⟨_, _, rfl, rv_cellK [_, _, _, _, _, _] rfl rfl rfl ⟨rfl, rfl, rfl, rfl, rfl, rfl, trivial⟩, ⟨_, _, rfl, rv_tmp rfl, rfl⟩⟩ rfl) ⟨by rw [he], rfl⟩
    · refine Wp.skip ?_
      refine Ends.seq ?_
      refine Wp.seq ?_
      refine Wp.region ?_
      refine Ops.pv (pv_loadK [_, _, _, _, _, _] rfl rfl rfl ⟨rfl, rfl, rfl, rfl, rfl, rfl, trivial⟩) rfl ?_
      refine Ops.pv (pv_move rfl) rfl ?_
      refine Ops.ef rfl (ef_storeK rfl rfl rfl rfl) ?_
      rintro _ _ ⟨rfl, rfl⟩
      refine Ops.pv (pv_assign rfl) rfl ?_
      refine Ops.nil ?_
      refine Ends.seq ?_
      refine Wp.ret ?_
      have he : mSource p so = dget p.l so := if_neg (by assumption)
      exact Ends.ret (res_list (rs := [.cell 4 24, .tmp 5]) rfl ⟨_, _, rfl, rv_cellK [_, _, _, _, _, _] rfl rfl rfl ⟨rfl, rfl, rfl, rfl, rfl, rfl, trivial⟩, ⟨_, _, rfl, rv_tmp rfl, rfl⟩⟩ rfl) ⟨by rw [he], rfl⟩
  · refine Turn.ef rfl rfl (ef_allocK tyZ24 rfl) ?_ ?_
    · rintro _ _ ⟨b4, rfl, rfl⟩; infer_instance
    rintro _ _ ⟨b4, rfl, rfl⟩
    refine AnyH.one 6 (by kernel_rfl) ?_
    refine Turn.ef rfl rfl (ef_callr (sf_get hS so) rfl rfl) ?_ ?_
    · rintro _ _ ⟨rfl, rfl⟩; infer_instance
    rintro _ _ ⟨rfl, rfl⟩
    refine AnyH.take 7 rfl (by kernel_rfl) (by kernel_rfl) (by kernel_rfl) PF.pf rfl (pv_move rfl) rfl ?_
    refine AnyH.take 8 rfl (by kernel_rfl) (by kernel_rfl) (by kernel_rfl) PF.pf rfl (pv_extract rfl rfl) rfl ?_
    refine AnyH.take 9 rfl (by kernel_rfl) (by kernel_rfl) (by kernel_rfl) PF.pf rfl (pv_extract rfl rfl) rfl ?_
    refine AnyH.one 11 (by kernel_rfl) ?_
    refine Turn.ef rfl rfl (ef_storeK rfl rfl rfl rfl) ?_ ?_
    · rintro _ _ ⟨rfl, rfl⟩; infer_instance
    rintro _ _ ⟨rfl, rfl⟩
    refine AnyH.take 12 rfl (by kernel_rfl) (by kernel_rfl) (by kernel_rfl) PF.pf rfl (pv_assign rfl) rfl ?_
    refine AnyH.done (by kernel_rfl) ?_
    refine Ends.seq ?_
    refine Wp.seq ?_
    refine Wp.seq ?_
    refine Wp.region ?_
    refine Ops.pv (pv_move rfl) rfl ?_
    refine Ops.pv (pv_eql rfl rfl) rfl ?_
    refine Ops.pv (pv_move rfl) rfl ?_
    first | refine Ops.pvc rfl rfl (fun hg => pv_fieldAddr0 rfl rfl) rfl ?_ | refine Ops.pvc rfl rfl (fun hg => pv_fieldAddr rfl rfl) rfl ?_
    first | refine Ops.pvc rfl rfl (fun hg => Pv.setE (t := 21) rfl (cv_pos hg) (pv_load rfl rfl rfl)) rfl ?_ | refine Ops.pvc rfl rfl (fun hg => Pv.setE (t := 21) rfl (cv_pos hg) (pv_load rfl rfl (by assumption))) rfl ?_
    refine Ops.pvc rfl rfl (fun hg => Pv.setE (t := 21) rfl (cv_pos hg) (Pv.setE (t := 22) rfl (cv_pos hg) (pv_eql rfl rfl))) rfl ?_
    refine Ops.pv (pv_pick_and rfl rfl) rfl ?_
    refine Ops.nil ?_
    refine Ends.seq ?_
    first | refine Wp.cond_dect rfl (fun h2 => ?_) (fun h2 => ?_) | refine Wp.cond_t rfl (fun h2 => ?_) (fun h2 => ?_)
    · refine Wp.region ?_
      refine Ops.pv (pv_assign rfl) rfl ?_
      refine Ops.nil ?_
      refine Ends.seq ?_
      refine Wp.seq ?_
      refine Wp.region ?_
      refine Ops.pv (pv_loadK [_, _, _, _, _, _] rfl rfl rfl ⟨rfl, rfl, rfl, rfl, rfl, rfl, trivial⟩) rfl ?_
      refine Ops.pv (pv_move rfl) rfl ?_
      refine Ops.ef rfl (ef_storeK rfl rfl rfl rfl) ?_
      rintro _ _ ⟨rfl, rfl⟩
      refine Ops.pv (pv_assign rfl) rfl ?_
      refine Ops.nil ?_
      refine Ends.seq ?_
      refine Wp.ret ?_
      have he : mSource p so = ((dget p.l so).1, 3) := if_pos (by assumption)
      exact Ends.ret (res_list (rs := [.cell 4 24, .tmp 5]) rfl ⟨_, _, rfl, rv_cellK [_, _, _, _, _, _] rfl rfl rfl ⟨rfl, rfl, rfl, rfl, rfl, rfl, trivial⟩, ⟨_, _, rfl, rv_tmp rfl, rfl⟩⟩ rfl) ⟨by rw [he], rfl⟩
    · refine Wp.skip ?_
      refine Ends.seq ?_
      refine Wp.seq ?_
      refine Wp.region ?_
      refine Ops.pv (pv_loadK [_, _, _, _, _, _] rfl rfl rfl ⟨rfl, rfl, rfl, rfl, rfl, rfl, trivial⟩) rfl ?_
      refine Ops.pv (pv_move rfl) rfl ?_
      refine Ops.ef rfl (ef_storeK rfl rfl rfl rfl) ?_
      rintro _ _ ⟨rfl, rfl⟩
      refine Ops.pv (pv_assign rfl) rfl ?_
      refine Ops.nil ?_
      refine Ends.seq ?_
      refine Wp.ret ?_
      have he : mSource p so = dget p.l so := if_neg (by assumption)
      exact Ends.ret (res_list (rs := [.cell 4 24, .tmp 5]) rfl ⟨_, _, rfl, rv_cellK [_, _, _, _, _, _] rfl rfl rfl ⟨rfl, rfl, rfl, rfl, rfl, rfl, trivial⟩, ⟨_, _, rfl, rv_tmp rfl, rfl⟩⟩ rfl) ⟨by rw [he], rfl⟩

theorem tr_mPlace (n cb : Nat) (L : Hp) (p : PS) (hH : CapsH n p cb L) (so : SlotM) : TrR Try.prog 52 [cpP cb, slotV so] (L) (.int .i64 (mPlace p so)) := by
  obtain ⟨sb, tb, Ls, Lt, hS, hT, rfl⟩ := hH
  refine Tr.enter Try.func52 rfl Try.ntmps52 rfl (fun W F => ?_)
  refine Wp.app ?_
  refine Wp.seq ?_
  refine Wp.region ?_
  refine Ops.ef rfl (ef_boxK rfl rfl) ?_
  rintro _ _ ⟨b1, rfl, rfl⟩
  refine Ops.pv (pv_assign rfl) rfl ?_
  refine Ops.nil ?_
  refine Ends.seq ?_
  refine Wp.seq ?_
  refine AnyH.start ((b1, .cells [.int .i64 so.1, .int .i64 so.2].toArray 38) :: cBlk cb sb tb :: []) 13 rfl ?_
  refine AnyH.take 0 rfl (by kernel_rfl) (by kernel_rfl) (by kernel_rfl) PF.pf rfl (pv_move rfl) rfl ?_
  first | refine AnyH.take 1 rfl (by kernel_rfl) (by kernel_rfl) (by kernel_rfl) PF.pf rfl (pv_nilCheck rfl) rfl ?_ | refine AnyH.take 1 rfl (by kernel_rfl) (by kernel_rfl) (by kernel_rfl) PF.pf rfl (pv_nilCheck_func rfl rfl) rfl ?_
  first | refine AnyH.take 2 rfl (by kernel_rfl) (by kernel_rfl) (by kernel_rfl) PF.pf rfl (pv_fieldAddr0 rfl rfl) rfl ?_ | refine AnyH.take 2 rfl (by kernel_rfl) (by kernel_rfl) (by kernel_rfl) PF.pf rfl (pv_fieldAddr rfl rfl) rfl ?_
  first | refine AnyH.take 3 rfl (by kernel_rfl) (by kernel_rfl) (by kernel_rfl) PF.pf rfl (pv_fieldAddr0 rfl rfl) rfl ?_ | refine AnyH.take 3 rfl (by kernel_rfl) (by kernel_rfl) (by kernel_rfl) PF.pf rfl (pv_fieldAddr rfl rfl) rfl ?_
  first | refine AnyH.take 4 rfl (by kernel_rfl) (by kernel_rfl) (by kernel_rfl) PF.pf rfl (pv_load rfl rfl rfl) rfl ?_ | refine AnyH.take 4 rfl (by kernel_rfl) (by kernel_rfl) (by kernel_rfl) PF.pf rfl (pv_load rfl rfl (by assumption)) rfl ?_
  refine AnyH.take 5 rfl (by kernel_rfl) (by kernel_rfl) (by kernel_rfl) PF.pf rfl (pv_loadK [_, _] rfl rfl rfl ⟨rfl, rfl, trivial⟩) rfl ?_
  refine AnyH.two 6 10 (by kernel_rfl) ?_ ?_
  · refine Turn.ef rfl rfl (ef_callr (sf_get hS so) rfl rfl) ?_ ?_
    · rintro _ _ ⟨rfl, rfl⟩; infer_instance
    rintro _ _ ⟨rfl, rfl⟩
    refine AnyH.take 7 rfl (by kernel_rfl) (by kernel_rfl) (by kernel_rfl) PF.pf rfl (pv_move rfl) rfl ?_
    refine AnyH.take 8 rfl (by kernel_rfl) (by kernel_rfl) (by kernel_rfl) PF.pf rfl (pv_extract rfl rfl) rfl ?_
    refine AnyH.take 9 rfl (by kernel_rfl) (by kernel_rfl) (by kernel_rfl) PF.pf rfl (pv_extract rfl rfl) rfl ?_
    refine AnyH.one 10 (by kernel_rfl) ?_
    refine Turn.ef rfl rfl (ef_allocK tyZ24 rfl) ?_ ?_
    · rintro _ _ ⟨b2, rfl, rfl⟩; infer_instance
    rintro _ _ ⟨b2, rfl, rfl⟩
    refine AnyH.one 11 (by kernel_rfl) ?_
    refine Turn.ef rfl rfl (ef_storeK rfl rfl rfl rfl) ?_ ?_
    · rintro _ _ ⟨rfl, rfl⟩; infer_instance
    rintro _ _ ⟨rfl, rfl⟩
    refine AnyH.take 12 rfl (by kernel_rfl) (by kernel_rfl) (by kernel_rfl) PF.pf rfl (pv_assign rfl) rfl ?_
    refine AnyH.done (by kernel_rfl) ?_
    refine Ends.seq ?_
    refine Wp.seq ?_
    refine Wp.seq ?_
    refine Wp.region ?_
    refine Ops.pv (pv_move rfl) rfl ?_
    refine Ops.pv (pv_eql rfl rfl) rfl ?_
    refine Ops.pv (pv_move rfl) rfl ?_
    first | refine Ops.pvc rfl rfl (fun hg => pv_fieldAddr0 rfl rfl) rfl ?_ | refine Ops.pvc rfl rfl (fun hg => pv_fieldAddr rfl rfl) rfl ?_
    first | refine Ops.pvc rfl rfl (fun hg => Pv.setE (t := 20) rfl (cv_pos hg) (pv_load rfl rfl rfl)) rfl ?_ | refine Ops.pvc rfl rfl (fun hg => Pv.setE (t := 20) rfl (cv_pos hg) (pv_load rfl rfl (by assumption))) rfl ?_
    refine Ops.pvc rfl rfl (fun hg => Pv.setE (t := 20) rfl (cv_pos hg) (Pv.setE (t := 21) rfl (cv_pos hg) (pv_neq rfl rfl))) rfl ?_
    refine Ops.pv (pv_pick_and rfl rfl) rfl ?_
    refine Ops.nil ?_
    refine Ends.seq ?_
    first | refine Wp.cond_dect rfl (fun h1 => ?_) (fun h1 => ?_) | refine Wp.cond_t rfl (fun h1 => ?_) (fun h1 => ?_)
    · refine Wp.region ?_
      refine Ops.pv (pv_assign rfl) rfl ?_
      refine Ops.nil ?_
      refine Ends.seq ?_
      refine Wp.seq ?_
      refine Wp.region ?_
      refine Ops.pv (pv_move rfl) rfl ?_
      refine Ops.pv (pv_assign rfl) rfl ?_
      refine Ops.nil ?_
      refine Ends.seq ?_
      refine Wp.ret ?_
      have he : mPlace p so = 4 := if_pos (by assumption)
      exact Ends.ret (res1 rfl rfl) ⟨by rw [he], rfl⟩
    · refine Wp.skip ?_
      refine Ends.seq ?_
      refine Wp.seq ?_
      refine Wp.region ?_
      refine Ops.pv (pv_move rfl) rfl ?_
      refine Ops.pv (pv_assign rfl) rfl ?_
      refine Ops.nil ?_
      refine Ends.seq ?_
      refine Wp.ret ?_
      have he : mPlace p so = (dget p.l so).2 := if_neg (by assumption)
      exact Ends.ret (res1 rfl rfl) ⟨by rw [he], rfl⟩
  · refine Turn.ef rfl rfl (ef_allocK tyZ24 rfl) ?_ ?_
    · rintro _ _ ⟨b3, rfl, rfl⟩; infer_instance
    rintro _ _ ⟨b3, rfl, rfl⟩
    refine AnyH.one 6 (by kernel_rfl) ?_
    refine Turn.ef rfl rfl (ef_callr (sf_get hS so) rfl rfl) ?_ ?_
    · rintro _ _ ⟨rfl, rfl⟩; infer_instance
    rintro _ _ ⟨rfl, rfl⟩
    refine AnyH.take 7 rfl (by kernel_rfl) (by kernel_rfl) (by kernel_rfl) PF.pf rfl (pv_move rfl) rfl ?_
    refine AnyH.take 8 rfl (by kernel_rfl) (by kernel_rfl) (by kernel_rfl) PF.pf rfl (pv_extract rfl rfl) rfl ?_
    refine AnyH.take 9 rfl (by kernel_rfl) (by kernel_rfl) (by kernel_rfl) PF.pf rfl (pv_extract rfl rfl) rfl ?_
    refine AnyH.one 11 (by kernel_rfl) ?_
    refine Turn.ef rfl rfl (ef_storeK rfl rfl rfl rfl) ?_ ?_
    · rintro _ _ ⟨rfl, rfl⟩; infer_instance
    rintro _ _ ⟨rfl, rfl⟩
    refine AnyH.take 12 rfl (by kernel_rfl) (by kernel_rfl) (by kernel_rfl) PF.pf rfl (pv_assign rfl) rfl ?_
    refine AnyH.done (by kernel_rfl) ?_
    refine Ends.seq ?_
    refine Wp.seq ?_
    refine Wp.seq ?_
    refine Wp.region ?_
    refine Ops.pv (pv_move rfl) rfl ?_
    refine Ops.pv (pv_eql rfl rfl) rfl ?_
    refine Ops.pv (pv_move rfl) rfl ?_
    first | refine Ops.pvc rfl rfl (fun hg => pv_fieldAddr0 rfl rfl) rfl ?_ | refine Ops.pvc rfl rfl (fun hg => pv_fieldAddr rfl rfl) rfl ?_
    first | refine Ops.pvc rfl rfl (fun hg => Pv.setE (t := 20) rfl (cv_pos hg) (pv_load rfl rfl rfl)) rfl ?_ | refine Ops.pvc rfl rfl (fun hg => Pv.setE (t := 20) rfl (cv_pos hg) (pv_load rfl rfl (by assumption))) rfl ?_
    refine Ops.pvc rfl rfl (fun hg => Pv.setE (t := 20) rfl (cv_pos hg) (Pv.setE (t := 21) rfl (cv_pos hg) (pv_neq rfl rfl))) rfl ?_
    refine Ops.pv (pv_pick_and rfl rfl) rfl ?_
    refine Ops.nil ?_
    refine Ends.seq ?_
    first | refine Wp.cond_dect rfl (fun h2 => ?_) (fun h2 => ?_) | refine Wp.cond_t rfl (fun h2 => ?_) (fun h2 => ?_)
    · refine Wp.region ?_
      refine Ops.pv (pv_assign rfl) rfl ?_
      refine Ops.nil ?_
      refine Ends.seq ?_
      refine Wp.seq ?_
      refine Wp.region ?_
      refine Ops.pv (pv_move rfl) rfl ?_
      refine Ops.pv (pv_assign rfl) rfl ?_
      refine Ops.nil ?_
      refine Ends.seq ?_
      refine Wp.ret ?_
      have he : mPlace p so = 4 := if_pos (by assumption)
      exact Ends.ret (res1 rfl rfl) ⟨by rw [he], rfl⟩
    · refine Wp.skip ?_
      refine Ends.seq ?_
      refine Wp.seq ?_
      refine Wp.region ?_
      refine Ops.pv (pv_move rfl) rfl ?_
      refine Ops.pv (pv_assign rfl) rfl ?_
      refine Ops.nil ?_
      refine Ends.seq ?_
      refine Wp.ret ?_
      have he : mPlace p so = (dget p.l so).2 := if_neg (by assumption)
      exact Ends.ret (res1 rfl rfl) ⟨by rw [he], rfl⟩

theorem tr_mBoth (n cb : Nat) (L : Hp) (p : PS) (hH : CapsH n p cb L) (so de : SlotM) : TrR Try.prog 48 [cpP cb, slotV so, slotV de] (L) (.tuple #[(mBoth p so de).1.v, .int .i64 (mBoth p so de).2]) := by
  refine Tr.enter Try.func48 rfl Try.ntmps48 rfl (fun W F => ?_)
  refine Wp.app ?_
  refine Wp.seq ?_
  refine Wp.region ?_
  refine Ops.ef rfl (ef_boxK rfl rfl) ?_
  rintro _ _ ⟨b1, rfl, rfl⟩
  refine Ops.ef rfl (ef_boxK rfl rfl) ?_
  rintro _ _ ⟨b2, rfl, rfl⟩
  refine Ops.ef rfl (ef_allocK tyZ24 rfl) ?_
  rintro _ _ ⟨b3, rfl, rfl⟩
  refine Ops.pv (pv_assign rfl) rfl ?_
  refine Ops.nil ?_
  refine Ends.seq ?_
  refine Wp.seq ?_
  refine Wp.region ?_
  refine Ops.pv (pv_move rfl) rfl ?_
  refine Ops.pv (pv_loadK [_, _] rfl rfl rfl ⟨rfl, rfl, trivial⟩) rfl ?_
  refine Ops.ef rfl (ef_callr (tr_mSource n cb L p hH so) rfl rfl) ?_
  rintro _ _ ⟨rfl, rfl⟩
  refine Ops.pv (pv_move rfl) rfl ?_
  refine Ops.pv (pv_extract rfl rfl) rfl ?_
  refine Ops.pv (pv_extract rfl rfl) rfl ?_
  refine Ops.ef rfl (ef_allocK tyZ24 rfl) ?_
  rintro _ _ ⟨b4, rfl, rfl⟩
  refine Ops.ef rfl (ef_storeK rfl rfl rfl rfl) ?_
  rintro _ _ ⟨rfl, rfl⟩
  refine Ops.pv (pv_assign rfl) rfl ?_
  refine Ops.nil ?_
  refine Ends.seq ?_
  refine Wp.seq ?_
  refine Wp.seq ?_
  refine Wp.region ?_
  refine Ops.pv (pv_move rfl) rfl ?_
  refine Ops.pv (pv_eql rfl rfl) rfl ?_
  refine Ops.nil ?_
  refine Ends.seq ?_
  first | refine Wp.cond_dect rfl (fun h1 => ?_) (fun h1 => ?_) | refine Wp.cond_t rfl (fun h1 => ?_) (fun h1 => ?_)
  · refine Wp.region ?_
    refine Ops.pv (pv_move rfl) rfl ?_
    refine Ops.pv (pv_loadK [_, _] rfl rfl rfl ⟨rfl, rfl, trivial⟩) rfl ?_
    refine Ops.ef rfl (ef_callr (tr_mPlace n cb L p hH de) rfl rfl) ?_
    rintro _ _ ⟨rfl, rfl⟩
    refine Ops.pv (pv_assign rfl) rfl ?_
    refine Ops.nil ?_
    refine Ends.seq ?_
    refine Wp.seq ?_
    refine Wp.region ?_
    refine Ops.pv (pv_loadK [_, _, _, _, _, _] rfl rfl rfl ⟨rfl, rfl, rfl, rfl, rfl, rfl, trivial⟩) rfl ?_
    refine Ops.pv (pv_move rfl) rfl ?_
    refine Ops.ef rfl (ef_storeK rfl rfl rfl rfl) ?_
    rintro _ _ ⟨rfl, rfl⟩
    refine Ops.pv (pv_assign rfl) rfl ?_
    refine Ops.nil ?_
    refine Ends.seq ?_
    refine Wp.ret ?_
    have he : mBoth p so de = ((mSource p so).1, mPlace p de) := by unfold mBoth; rw [if_pos (by assumption)]
    exact Ends.ret (res_list (rs := [.cell 6 24, .tmp 7]) rfl ⟨_, _, rfl, rv_cellK [_, _, _, _, _, _] rfl rfl rfl ⟨rfl, rfl, rfl, rfl, rfl, rfl, trivial⟩, ⟨_, _, rfl, rv_tmp rfl, rfl⟩⟩ rfl) ⟨by rw [he], rfl⟩
  · refine Wp.skip ?_
    refine Ends.seq ?_
    refine Wp.seq ?_
    refine Wp.region ?_
    refine Ops.pv (pv_loadK [_, _, _, _, _, _] rfl rfl rfl ⟨rfl, rfl, rfl, rfl, rfl, rfl, trivial⟩) rfl ?_
    refine Ops.pv (pv_move rfl) rfl ?_
    refine Ops.ef rfl (ef_storeK rfl rfl rfl rfl) ?_
    rintro _ _ ⟨rfl, rfl⟩
    refine Ops.pv (pv_assign rfl) rfl ?_
    refine Ops.nil ?_
    refine Ends.seq ?_
    refine Wp.ret ?_
    have he : mBoth p so de = ((mSource p so).1, (mSource p so).2) := by unfold mBoth; rw [if_neg (by assumption)]
    exact Ends.ret (res_list (rs := [.cell 6 24, .tmp 7]) rfl ⟨_, _, rfl, rv_cellK [_, _, _, _, _, _] rfl rfl rfl ⟨rfl, rfl, rfl, rfl, rfl, rfl, trivial⟩, ⟨_, _, rfl, rv_tmp rfl, rfl⟩⟩ rfl) ⟨by rw [he], rfl⟩

theorem tr_mPar (n cb : Nat) (L : Hp) (p : PS) (hH : CapsH n p cb L) (so : SlotM) : TrR Try.prog 29 [cpP cb, slotV so] (L) (.tuple #[slotV (ftPar p.F so), .bool (ftParB p.F so)]) := by
  obtain ⟨sb, tb, Ls, Lt, hS, hT, rfl⟩ := hH
  refine Tr.enter Try.func29 rfl Try.ntmps29 rfl (fun W F => ?_)
  refine Wp.app ?_
  refine Wp.seq ?_
  refine Wp.region ?_
  refine Ops.ef rfl (ef_boxK rfl rfl) ?_
  rintro _ _ ⟨b1, rfl, rfl⟩
  refine Ops.ef rfl (ef_allocK tyZ38 rfl) ?_
  rintro _ _ ⟨b2, rfl, rfl⟩
  refine Ops.pv (pv_assign rfl) rfl ?_
  refine Ops.nil ?_
  refine Ends.seq ?_
  refine Wp.seq ?_
  refine AnyH.start ((b1, .cells [.int .i64 so.1, .int .i64 so.2].toArray 38) :: cBlk cb sb tb :: []) 10 rfl ?_
  refine AnyH.take 0 rfl (by kernel_rfl) (by kernel_rfl) (by kernel_rfl) PF.pf rfl (pv_move rfl) rfl ?_
  first | refine AnyH.take 1 rfl (by kernel_rfl) (by kernel_rfl) (by kernel_rfl) PF.pf rfl (pv_nilCheck rfl) rfl ?_ | refine AnyH.take 1 rfl (by kernel_rfl) (by kernel_rfl) (by kernel_rfl) PF.pf rfl (pv_nilCheck_func rfl rfl) rfl ?_
  first | refine AnyH.take 2 rfl (by kernel_rfl) (by kernel_rfl) (by kernel_rfl) PF.pf rfl (pv_fieldAddr0 rfl rfl) rfl ?_ | refine AnyH.take 2 rfl (by kernel_rfl) (by kernel_rfl) (by kernel_rfl) PF.pf rfl (pv_fieldAddr rfl rfl) rfl ?_
  first | refine AnyH.take 3 rfl (by kernel_rfl) (by kernel_rfl) (by kernel_rfl) PF.pf rfl (pv_load rfl rfl rfl) rfl ?_ | refine AnyH.take 3 rfl (by kernel_rfl) (by kernel_rfl) (by kernel_rfl) PF.pf rfl (pv_load rfl rfl (by assumption)) rfl ?_
  refine AnyH.take 4 rfl (by kernel_rfl) (by kernel_rfl) (by kernel_rfl) PF.pf rfl (pv_loadK [_, _] rfl rfl rfl ⟨rfl, rfl, trivial⟩) rfl ?_
  refine AnyH.one 5 (by kernel_rfl) ?_
  refine Turn.ef rfl rfl (ef_callr (tr_fPar hT so) rfl rfl) ?_ ?_
  · rintro _ _ ⟨rfl, rfl⟩; infer_instance
  rintro _ _ ⟨rfl, rfl⟩
  refine AnyH.take 6 rfl (by kernel_rfl) (by kernel_rfl) (by kernel_rfl) PF.pf rfl (pv_extract rfl rfl) rfl ?_
  refine AnyH.take 7 rfl (by kernel_rfl) (by kernel_rfl) (by kernel_rfl) PF.pf rfl (pv_extract rfl rfl) rfl ?_
  refine AnyH.one 8 (by kernel_rfl) ?_
  refine Turn.ef rfl rfl (ef_storeK rfl rfl rfl rfl) ?_ ?_
  · rintro _ _ ⟨rfl, rfl⟩; infer_instance
  rintro _ _ ⟨rfl, rfl⟩
  refine AnyH.take 9 rfl (by kernel_rfl) (by kernel_rfl) (by kernel_rfl) PF.pf rfl (pv_assign rfl) rfl ?_
  refine AnyH.done (by kernel_rfl) ?_
  refine Ends.seq ?_
  refine Wp.ret ?_
  exact Ends.ret (res_list (rs := [.cell 4 38, .tmp 5]) rfl ⟨_, _, rfl, rv_cellK [_, _] rfl rfl rfl ⟨rfl, rfl, trivial⟩, ⟨_, _, rfl, rv_tmp rfl, rfl⟩⟩ rfl) ⟨rfl, rfl⟩

theorem tr_mKin (n cb : Nat) (L : Hp) (p : PS) (hH : CapsH n p cb L) (hn : n ≤ 2 ^ 19) (so : SlotM) : Tr Try.prog 18 [cpP cb, slotV so] (L) (fun u L' => ∃ K, Slc 38 2 u (ftKin p.F so).length (slotsCells (ftKin p.F so)) K ∧ L' = K ++ L) := by
  obtain ⟨sb, tb, Ls, Lt, hS, hT, rfl⟩ := hH
  refine Tr.enter Try.func18 rfl Try.ntmps18 rfl (fun W F => ?_)
  refine Wp.app ?_
  refine Wp.seq ?_
  refine Wp.region ?_
  refine Ops.ef rfl (ef_boxK rfl rfl) ?_
  rintro _ _ ⟨b1, rfl, rfl⟩
  refine Ops.pv (pv_assign rfl) rfl ?_
  refine Ops.nil ?_
  refine Ends.seq ?_
  refine Wp.seq ?_
  refine AnyH.start ((b1, .cells [.int .i64 so.1, .int .i64 so.2].toArray 38) :: cBlk cb sb tb :: []) 7 rfl ?_
  refine AnyH.take 0 rfl (by kernel_rfl) (by kernel_rfl) (by kernel_rfl) PF.pf rfl (pv_move rfl) rfl ?_
  first | refine AnyH.take 1 rfl (by kernel_rfl) (by kernel_rfl) (by kernel_rfl) PF.pf rfl (pv_nilCheck rfl) rfl ?_ | refine AnyH.take 1 rfl (by kernel_rfl) (by kernel_rfl) (by kernel_rfl) PF.pf rfl (pv_nilCheck_func rfl rfl) rfl ?_
  first | refine AnyH.take 2 rfl (by kernel_rfl) (by kernel_rfl) (by kernel_rfl) PF.pf rfl (pv_fieldAddr0 rfl rfl) rfl ?_ | refine AnyH.take 2 rfl (by kernel_rfl) (by kernel_rfl) (by kernel_rfl) PF.pf rfl (pv_fieldAddr rfl rfl) rfl ?_
  first | refine AnyH.take 3 rfl (by kernel_rfl) (by kernel_rfl) (by kernel_rfl) PF.pf rfl (pv_load rfl rfl rfl) rfl ?_ | refine AnyH.take 3 rfl (by kernel_rfl) (by kernel_rfl) (by kernel_rfl) PF.pf rfl (pv_load rfl rfl (by assumption)) rfl ?_
  refine AnyH.take 4 rfl (by kernel_rfl) (by kernel_rfl) (by kernel_rfl) PF.pf rfl (pv_loadK [_, _] rfl rfl rfl ⟨rfl, rfl, trivial⟩) rfl ?_
  refine AnyH.one 5 (by kernel_rfl) ?_
  refine Turn.ef rfl rfl (ef_call (tr_fKin hT (by omega) so) rfl rfl) ?_ ?_
  · rintro _ _ ⟨_, _, ⟨C1, hc1, rfl⟩, rfl, rfl⟩; infer_instance
  rintro _ _ ⟨_, _, ⟨C1, hc1, rfl⟩, rfl, rfl⟩
  refine AnyH.app ?_
  obtain ⟨pp1, qq1, rfl⟩ := hc1.form
  refine AnyH.take 6 rfl (by kernel_rfl) (by kernel_rfl) (by kernel_rfl) PF.pf rfl (pv_assign rfl) rfl ?_
  refine AnyH.done (by kernel_rfl) ?_
  refine Ends.seq ?_
  refine Wp.ret ?_
  exact Ends.ret (L' := C1 ++ (cBlk cb sb tb :: (Ls ++ Lt))) (res1 rfl rfl) ⟨C1, hc1, rfl⟩

theorem tr_mKids (n cb : Nat) (L : Hp) (p : PS) (hH : CapsH n p cb L) (hn : n ≤ 2 ^ 19) (so : SlotM) : Tr Try.prog 30 [cpP cb, slotV so] (L) (fun u L' => ∃ K, Slc 38 2 u (ftKids p.F so).length (slotsCells (ftKids p.F so)) K ∧ L' = K ++ L) := by
  obtain ⟨sb, tb, Ls, Lt, hS, hT, rfl⟩ := hH
  refine Tr.enter Try.func30 rfl Try.ntmps30 rfl (fun W F => ?_)
  refine Wp.app ?_
  refine Wp.seq ?_
  refine Wp.region ?_
  refine Ops.ef rfl (ef_boxK rfl rfl) ?_
  rintro _ _ ⟨b1, rfl, rfl⟩
  refine Ops.pv (pv_assign rfl) rfl ?_
  refine Ops.nil ?_
  refine Ends.seq ?_
  refine Wp.seq ?_
  refine AnyH.start ((b1, .cells [.int .i64 so.1, .int .i64 so.2].toArray 38) :: cBlk cb sb tb :: []) 7 rfl ?_
  refine AnyH.take 0 rfl (by kernel_rfl) (by kernel_rfl) (by kernel_rfl) PF.pf rfl (pv_move rfl) rfl ?_
  first | refine AnyH.take 1 rfl (by kernel_rfl) (by kernel_rfl) (by kernel_rfl) PF.pf rfl (pv_nilCheck rfl) rfl ?_ | refine AnyH.take 1 rfl (by kernel_rfl) (by kernel_rfl) (by kernel_rfl) PF.pf rfl (pv_nilCheck_func rfl rfl) rfl ?_
  first | refine AnyH.take 2 rfl (by kernel_rfl) (by kernel_rfl) (by kernel_rfl) PF.pf rfl (pv_fieldAddr0 rfl rfl) rfl ?_ | refine AnyH.take 2 rfl (by kernel_rfl) (by kernel_rfl) (by kernel_rfl) PF.pf rfl (pv_fieldAddr rfl rfl) rfl ?_
  first | refine AnyH.take 3 rfl (by kernel_rfl) (by kernel_rfl) (by kernel_rfl) PF.pf rfl (pv_load rfl rfl rfl) rfl ?_ | refine AnyH.take 3 rfl (by kernel_rfl) (by kernel_rfl) (by kernel_rfl) PF.pf rfl (pv_load rfl rfl (by assumption)) rfl ?_
  refine AnyH.take 4 rfl (by kernel_rfl) (by kernel_rfl) (by kernel_rfl) PF.pf rfl (pv_loadK [_, _] rfl rfl rfl ⟨rfl, rfl, trivial⟩) rfl ?_
  refine AnyH.one 5 (by kernel_rfl) ?_
  refine Turn.ef rfl rfl (ef_call (tr_fKids hT (by omega) so) rfl rfl) ?_ ?_
  · rintro _ _ ⟨_, _, ⟨C1, hc1, rfl⟩, rfl, rfl⟩; infer_instance
  rintro _ _ ⟨_, _, ⟨C1, hc1, rfl⟩, rfl, rfl⟩
  refine AnyH.app ?_
  obtain ⟨pp1, qq1, rfl⟩ := hc1.form
  refine AnyH.take 6 rfl (by kernel_rfl) (by kernel_rfl) (by kernel_rfl) PF.pf rfl (pv_assign rfl) rfl ?_
  refine AnyH.done (by kernel_rfl) ?_
  refine Ends.seq ?_
  refine Wp.ret ?_
  exact Ends.ret (L' := C1 ++ (cBlk cb sb tb :: (Ls ++ Lt))) (res1 rfl rfl) ⟨C1, hc1, rfl⟩

theorem tr_mPlant (n cb : Nat) (L : Hp) (p : PS) (hH : CapsH n p cb L) (so : SlotM) (c : CapM) : Tr Try.prog 15 [cpP cb, slotV so, c.v] (L) (fun u L' => u = .int .i64 (mPlant p so c).1 ∧ CapsH (n + 1) (mPlant p so c).2 cb L') := by
  obtain ⟨sb, tb, Ls, Lt, hS, hT, rfl⟩ := hH
  refine Tr.enter Try.func15 rfl Try.ntmps15 rfl (fun W F => ?_)
  refine Wp.app ?_
  refine Wp.seq ?_
  refine Wp.region ?_
  refine Ops.ef rfl (ef_boxK rfl rfl) ?_
  rintro _ _ ⟨b1, rfl, rfl⟩
  refine Ops.ef rfl (ef_boxK rfl rfl) ?_
  rintro _ _ ⟨b2, rfl, rfl⟩
  refine Ops.pv (pv_assign rfl) rfl ?_
  refine Ops.nil ?_
  refine Ends.seq ?_
  refine Wp.seq ?_
  refine AnyH.start ((b2, .cells c.cells.toArray 24) :: (b1, .cells [.int .i64 so.1, .int .i64 so.2].toArray 38) :: cBlk cb sb tb :: []) 9 rfl ?_
  refine AnyH.take 0 rfl (by kernel_rfl) (by kernel_rfl) (by kernel_rfl) PF.pf rfl (pv_move rfl) rfl ?_
  first | refine AnyH.take 1 rfl (by kernel_rfl) (by kernel_rfl) (by kernel_rfl) PF.pf rfl (pv_nilCheck rfl) rfl ?_ | refine AnyH.take 1 rfl (by kernel_rfl) (by kernel_rfl) (by kernel_rfl) PF.pf rfl (pv_nilCheck_func rfl rfl) rfl ?_
  first | refine AnyH.take 2 rfl (by kernel_rfl) (by kernel_rfl) (by kernel_rfl) PF.pf rfl (pv_fieldAddr0 rfl rfl) rfl ?_ | refine AnyH.take 2 rfl (by kernel_rfl) (by kernel_rfl) (by kernel_rfl) PF.pf rfl (pv_fieldAddr rfl rfl) rfl ?_
  first | refine AnyH.take 3 rfl (by kernel_rfl) (by kernel_rfl) (by kernel_rfl) PF.pf rfl (pv_fieldAddr0 rfl rfl) rfl ?_ | refine AnyH.take 3 rfl (by kernel_rfl) (by kernel_rfl) (by kernel_rfl) PF.pf rfl (pv_fieldAddr rfl rfl) rfl ?_
  first | refine AnyH.take 4 rfl (by kernel_rfl) (by kernel_rfl) (by kernel_rfl) PF.pf rfl (pv_load rfl rfl rfl) rfl ?_ | refine AnyH.take 4 rfl (by kernel_rfl) (by kernel_rfl) (by kernel_rfl) PF.pf rfl (pv_load rfl rfl (by assumption)) rfl ?_
  refine AnyH.take 5 rfl (by kernel_rfl) (by kernel_rfl) (by kernel_rfl) PF.pf rfl (pv_loadK [_, _] rfl rfl rfl ⟨rfl, rfl, trivial⟩) rfl ?_
  refine AnyH.take 6 rfl (by kernel_rfl) (by kernel_rfl) (by kernel_rfl) PF.pf rfl (pv_loadK [_, _, _, _, _, _] rfl rfl rfl ⟨rfl, rfl, rfl, rfl, rfl, rfl, trivial⟩) rfl ?_
  refine AnyH.one 7 (by kernel_rfl) ?_
  refine Turn.ef rfl rfl (ef_call (sf_put hS so c) rfl rfl) ?_ ?_
  · rintro _ _ ⟨_, Q1, ⟨rfl, hS2⟩, rfl, rfl⟩; infer_instance
  rintro _ _ ⟨_, Q1, ⟨rfl, hS2⟩, rfl, rfl⟩
  refine AnyH.app ?_
  skip
  refine AnyH.take 8 rfl (by kernel_rfl) (by kernel_rfl) (by kernel_rfl) PF.pf rfl (pv_assign rfl) rfl ?_
  refine AnyH.done (by kernel_rfl) ?_
  refine Ends.seq ?_
  refine Wp.seq ?_
  refine Wp.seq ?_
  refine Wp.region ?_
  refine Ops.pv (pv_move rfl) rfl ?_
  refine Ops.pv (pv_eql rfl rfl) rfl ?_
  refine Ops.nil ?_
  refine Ends.seq ?_
  first | refine Wp.cond_dect rfl (fun h1 => ?_) (fun h1 => ?_) | refine Wp.cond_t rfl (fun h1 => ?_) (fun h1 => ?_)
  · refine AnyH.start ((b1, .cells [.int .i64 so.1, .int .i64 so.2].toArray 38) :: cBlk cb sb tb :: []) 6 rfl ?_
    refine AnyH.take 0 rfl (by kernel_rfl) (by kernel_rfl) (by kernel_rfl) PF.pf rfl (pv_move rfl) rfl ?_
    first | refine AnyH.take 1 rfl (by kernel_rfl) (by kernel_rfl) (by kernel_rfl) PF.pf rfl (pv_nilCheck rfl) rfl ?_ | refine AnyH.take 1 rfl (by kernel_rfl) (by kernel_rfl) (by kernel_rfl) PF.pf rfl (pv_nilCheck_func rfl rfl) rfl ?_
    first | refine AnyH.take 2 rfl (by kernel_rfl) (by kernel_rfl) (by kernel_rfl) PF.pf rfl (pv_fieldAddr0 rfl rfl) rfl ?_ | refine AnyH.take 2 rfl (by kernel_rfl) (by kernel_rfl) (by kernel_rfl) PF.pf rfl (pv_fieldAddr rfl rfl) rfl ?_
    first | refine AnyH.take 3 rfl (by kernel_rfl) (by kernel_rfl) (by kernel_rfl) PF.pf rfl (pv_load rfl rfl rfl) rfl ?_ | refine AnyH.take 3 rfl (by kernel_rfl) (by kernel_rfl) (by kernel_rfl) PF.pf rfl (pv_load rfl rfl (by assumption)) rfl ?_
    refine AnyH.take 4 rfl (by kernel_rfl) (by kernel_rfl) (by kernel_rfl) PF.pf rfl (pv_loadK [_, _] rfl rfl rfl ⟨rfl, rfl, trivial⟩) rfl ?_
    refine AnyH.one 5 (by kernel_rfl) ?_
    refine Turn.ef rfl rfl (ef_call (tr_fRoot hT so) rfl rfl) ?_ ?_
    · rintro _ _ ⟨_, R1, ⟨rfl, hT2⟩, rfl, rfl⟩; infer_instance
    rintro _ _ ⟨_, R1, ⟨rfl, hT2⟩, rfl, rfl⟩
    refine AnyH.app ?_
    skip
    refine AnyH.done (by kernel_rfl) ?_
    refine Ends.seq ?_
    refine Wp.seq ?_
    refine Wp.region ?_
    refine Ops.pv (pv_move rfl) rfl ?_
    refine Ops.pv (pv_assign rfl) rfl ?_
    refine Ops.nil ?_
    refine Ends.seq ?_
    refine Wp.ret ?_
    have he : mPlant p so c = ((dput p.l so c).1, ⟨(dput p.l so c).2, (ftRoot p.F so).2⟩) := by unfold mPlant; rw [if_pos (by assumption)]
    rw [he]
    exact Ends.ret (L' := cBlk cb sb tb :: (Q1 ++ R1)) (res1 rfl rfl) ⟨rfl, sb, tb, Q1, R1, hS2, hT2, rfl⟩
  · refine Wp.skip ?_
    refine Ends.seq ?_
    refine Wp.seq ?_
    refine Wp.region ?_
    refine Ops.pv (pv_move rfl) rfl ?_
    refine Ops.pv (pv_assign rfl) rfl ?_
    refine Ops.nil ?_
    refine Ends.seq ?_
    refine Wp.ret ?_
    have he : mPlant p so c = ((dput p.l so c).1, ⟨(dput p.l so c).2, p.F⟩) := by unfold mPlant; rw [if_neg (by assumption)]
    rw [he]
    exact Ends.ret (L' := cBlk cb sb tb :: (Q1 ++ Lt)) (res1 rfl rfl) ⟨rfl, sb, tb, Q1, Lt, hS2, hT.more (by omega), rfl⟩

theorem tr_mChild (n cb : Nat) (L : Hp) (p : PS) (hH : CapsH n p cb L) (hn : n ≤ 2 ^ 19) (so de : SlotM) (c : CapM) : Tr Try.prog 24 [cpP cb, slotV so, slotV de, c.v] (L) (fun u L' => u = .int .i64 (mChild p so de c).1 ∧ CapsH (n + 1) (mChild p so de c).2 cb L') := by
  have hH0 := hH
  obtain ⟨sb, tb, Ls, Lt, hS, hT, rfl⟩ := hH
  refine Tr.enter Try.func24 rfl Try.ntmps24 rfl (fun W F => ?_)
  refine Wp.app ?_
  refine Wp.seq ?_
  refine Wp.region ?_
  refine Ops.ef rfl (ef_boxK rfl rfl) ?_
  rintro _ _ ⟨b1, rfl, rfl⟩
  refine Ops.ef rfl (ef_boxK rfl rfl) ?_
  rintro _ _ ⟨b2, rfl, rfl⟩
  refine Ops.ef rfl (ef_boxK rfl rfl) ?_
  rintro _ _ ⟨b3, rfl, rfl⟩
  refine Ops.pv (pv_assign rfl) rfl ?_
  refine Ops.nil ?_
  refine Ends.seq ?_
  refine Wp.seq ?_
  refine Wp.seq ?_
  refine Wp.region ?_
  refine Ops.pv (pv_move rfl) rfl ?_
  refine Ops.pv (pv_loadK [_, _] rfl rfl rfl ⟨rfl, rfl, trivial⟩) rfl ?_
  refine Ops.pv (pv_loadK [_, _] rfl rfl rfl ⟨rfl, rfl, trivial⟩) rfl ?_
  refine Ops.ef rfl (ef_callr (tr_mBoth n cb (cBlk cb sb tb :: (Ls ++ Lt)) p hH0 so de) rfl rfl) ?_
  rintro _ _ ⟨rfl, rfl⟩
  refine Ops.pv (pv_move rfl) rfl ?_
  refine Ops.pv (pv_extract rfl rfl) rfl ?_
  refine Ops.pv (pv_extract rfl rfl) rfl ?_
  refine Ops.ef rfl (ef_allocK tyZ24 rfl) ?_
  rintro _ _ ⟨b4, rfl, rfl⟩
  refine Ops.ef rfl (ef_storeK rfl rfl rfl rfl) ?_
  rintro _ _ ⟨rfl, rfl⟩
  refine Ops.pv (pv_assign rfl) rfl ?_
  refine Ops.nil ?_
  refine Ends.seq ?_
  refine Wp.seq ?_
  refine Wp.region ?_
  refine Ops.pv (pv_move rfl) rfl ?_
  refine Ops.pv (pv_neq rfl rfl) rfl ?_
  refine Ops.nil ?_
  refine Ends.seq ?_
  first | refine Wp.cond_dect rfl (fun h1 => ?_) (fun h1 => ?_) | refine Wp.cond_t rfl (fun h1 => ?_) (fun h1 => ?_)
  · refine Wp.seq ?_
    refine Wp.region ?_
    refine Ops.pv (pv_move rfl) rfl ?_
    refine Ops.pv (pv_assign rfl) rfl ?_
    refine Ops.nil ?_
    refine Ends.seq ?_
    refine Wp.ret ?_
    refine Ends.then_ret ?_
    have he : mChild p so de c = ((mBoth p so de).2, p) := by unfold mChild; rw [if_pos (by assumption)]
    rw [he]
    exact Ends.ret (L' := (cBlk cb sb tb :: (Ls ++ Lt))) (res1 rfl rfl) ⟨rfl, sb, tb, Ls, Lt, hS, hT.more (by omega), rfl⟩
  · refine Wp.skip ?_
    refine Ends.seq ?_
    refine Wp.seq ?_
    refine AnyH.start ((b3, .cells c.cells.toArray 24) :: (b2, .cells [.int .i64 de.1, .int .i64 de.2].toArray 38) :: cBlk cb sb tb :: []) 9 rfl ?_
    refine AnyH.take 0 rfl (by kernel_rfl) (by kernel_rfl) (by kernel_rfl) PF.pf rfl (pv_move rfl) rfl ?_
    first | refine AnyH.take 1 rfl (by kernel_rfl) (by kernel_rfl) (by kernel_rfl) PF.pf rfl (pv_nilCheck rfl) rfl ?_ | refine AnyH.take 1 rfl (by kernel_rfl) (by kernel_rfl) (by kernel_rfl) PF.pf rfl (pv_nilCheck_func rfl rfl) rfl ?_
    first | refine AnyH.take 2 rfl (by kernel_rfl) (by kernel_rfl) (by kernel_rfl) PF.pf rfl (pv_fieldAddr0 rfl rfl) rfl ?_ | refine AnyH.take 2 rfl (by kernel_rfl) (by kernel_rfl) (by kernel_rfl) PF.pf rfl (pv_fieldAddr rfl rfl) rfl ?_
    first | refine AnyH.take 3 rfl (by kernel_rfl) (by kernel_rfl) (by kernel_rfl) PF.pf rfl (pv_fieldAddr0 rfl rfl) rfl ?_ | refine AnyH.take 3 rfl (by kernel_rfl) (by kernel_rfl) (by kernel_rfl) PF.pf rfl (pv_fieldAddr rfl rfl) rfl ?_
    first | refine AnyH.take 4 rfl (by kernel_rfl) (by kernel_rfl) (by kernel_rfl) PF.pf rfl (pv_load rfl rfl rfl) rfl ?_ | refine AnyH.take 4 rfl (by kernel_rfl) (by kernel_rfl) (by kernel_rfl) PF.pf rfl (pv_load rfl rfl (by assumption)) rfl ?_
    refine AnyH.take 5 rfl (by kernel_rfl) (by kernel_rfl) (by kernel_rfl) PF.pf rfl (pv_loadK [_, _] rfl rfl rfl ⟨rfl, rfl, trivial⟩) rfl ?_
    refine AnyH.take 6 rfl (by kernel_rfl) (by kernel_rfl) (by kernel_rfl) PF.pf rfl (pv_loadK [_, _, _, _, _, _] rfl rfl rfl ⟨rfl, rfl, rfl, rfl, rfl, rfl, trivial⟩) rfl ?_
    refine AnyH.one 7 (by kernel_rfl) ?_
    refine Turn.ef rfl rfl (ef_call (sf_put hS de c) rfl rfl) ?_ ?_
    · rintro _ _ ⟨_, Q1, ⟨rfl, hS2⟩, rfl, rfl⟩; infer_instance
    rintro _ _ ⟨_, Q1, ⟨rfl, hS2⟩, rfl, rfl⟩
    refine AnyH.app ?_
    skip
    refine AnyH.take 8 rfl (by kernel_rfl) (by kernel_rfl) (by kernel_rfl) PF.pf rfl (pv_assign rfl) rfl ?_
    refine AnyH.done (by kernel_rfl) ?_
    refine Ends.seq ?_
    refine Wp.seq ?_
    refine Wp.seq ?_
    refine Wp.region ?_
    refine Ops.pv (pv_move rfl) rfl ?_
    refine Ops.pv (pv_eql rfl rfl) rfl ?_
    refine Ops.nil ?_
    refine Ends.seq ?_
    first | refine Wp.cond_dect rfl (fun h2 => ?_) (fun h2 => ?_) | refine Wp.cond_t rfl (fun h2 => ?_) (fun h2 => ?_)
    · refine AnyH.start ((b2, .cells [.int .i64 de.1, .int .i64 de.2].toArray 38) :: (b1, .cells [.int .i64 so.1, .int .i64 so.2].toArray 38) :: cBlk cb sb tb :: []) 7 rfl ?_
      refine AnyH.take 0 rfl (by kernel_rfl) (by kernel_rfl) (by kernel_rfl) PF.pf rfl (pv_move rfl) rfl ?_
      first | refine AnyH.take 1 rfl (by kernel_rfl) (by kernel_rfl) (by kernel_rfl) PF.pf rfl (pv_nilCheck rfl) rfl ?_ | refine AnyH.take 1 rfl (by kernel_rfl) (by kernel_rfl) (by kernel_rfl) PF.pf rfl (pv_nilCheck_func rfl rfl) rfl ?_
      first | refine AnyH.take 2 rfl (by kernel_rfl) (by kernel_rfl) (by kernel_rfl) PF.pf rfl (pv_fieldAddr0 rfl rfl) rfl ?_ | refine AnyH.take 2 rfl (by kernel_rfl) (by kernel_rfl) (by kernel_rfl) PF.pf rfl (pv_fieldAddr rfl rfl) rfl ?_
      first | refine AnyH.take 3 rfl (by kernel_rfl) (by kernel_rfl) (by kernel_rfl) PF.pf rfl (pv_load rfl rfl rfl) rfl ?_ | refine AnyH.take 3 rfl (by kernel_rfl) (by kernel_rfl) (by kernel_rfl) PF.pf rfl (pv_load rfl rfl (by assumption)) rfl ?_
      refine AnyH.take 4 rfl (by kernel_rfl) (by kernel_rfl) (by kernel_rfl) PF.pf rfl (pv_loadK [_, _] rfl rfl rfl ⟨rfl, rfl, trivial⟩) rfl ?_
      refine AnyH.take 5 rfl (by kernel_rfl) (by kernel_rfl) (by kernel_rfl) PF.pf rfl (pv_loadK [_, _] rfl rfl rfl ⟨rfl, rfl, trivial⟩) rfl ?_
      refine AnyH.one 6 (by kernel_rfl) ?_
      refine Turn.ef rfl rfl (ef_call (tr_fChild hT (by omega) so de) rfl rfl) ?_ ?_
      · rintro _ _ ⟨_, R1, ⟨rfl, hT2⟩, rfl, rfl⟩; infer_instance
      rintro _ _ ⟨_, R1, ⟨rfl, hT2⟩, rfl, rfl⟩
      refine AnyH.app ?_
      skip
      refine AnyH.done (by kernel_rfl) ?_
      refine Ends.seq ?_
      refine Wp.seq ?_
      refine Wp.region ?_
      refine Ops.pv (pv_move rfl) rfl ?_
      refine Ops.pv (pv_assign rfl) rfl ?_
      refine Ops.nil ?_
      refine Ends.seq ?_
      refine Wp.ret ?_
      have he : mChild p so de c = ((dput p.l de c).1, ⟨(dput p.l de c).2, (ftChild p.F so de).2⟩) := by unfold mChild; rw [if_neg (by assumption), if_pos (by assumption)]
      rw [he]
      exact Ends.ret (L' := cBlk cb sb tb :: (Q1 ++ R1)) (res1 rfl rfl) ⟨rfl, sb, tb, Q1, R1, hS2, hT2, rfl⟩
    · refine Wp.skip ?_
      refine Ends.seq ?_
      refine Wp.seq ?_
      refine Wp.region ?_
      refine Ops.pv (pv_move rfl) rfl ?_
      refine Ops.pv (pv_assign rfl) rfl ?_
      refine Ops.nil ?_
      refine Ends.seq ?_
      refine Wp.ret ?_
      have he : mChild p so de c = ((dput p.l de c).1, ⟨(dput p.l de c).2, p.F⟩) := by unfold mChild; rw [if_neg (by assumption), if_neg (by assumption)]
      rw [he]
      exact Ends.ret (L' := cBlk cb sb tb :: (Q1 ++ Lt)) (res1 rfl rfl) ⟨rfl, sb, tb, Q1, Lt, hS2, hT.more (by omega), rfl⟩

theorem CapsH.more {n m cb : Nat} {L : Hp} {p : PS} (h : CapsH n p cb L) (hm : n ≤ m) : CapsH m p cb L := by
  obtain ⟨sb, tb, Ls, Lt, hS, hT, rfl⟩ := h
  exact ⟨sb, tb, Ls, Lt, hS, hT.more hm, rfl⟩

theorem tr_mMint (n cb : Nat) (L : Hp) (p : PS) (hH : CapsH n p cb L) (hn : n ≤ 2 ^ 19) (so de : SlotM) (r bd g k : Int) : Tr Try.prog 25 [cpP cb, slotV so, slotV de, .int .i64 r, .int .u64 bd, .int .u64 g, .int .i64 k] (L) (fun u L' => u = .int .i64 (mMint p so de r bd g k).1 ∧ CapsH (n + 1) (mMint p so de r bd g k).2 cb L') := by
  refine Tr.enter Try.func25 rfl Try.ntmps25 rfl (fun W F => ?_)
  refine Wp.app ?_
  refine Wp.seq ?_
  refine Wp.region ?_
  refine Ops.ef rfl (ef_boxK rfl rfl) ?_
  rintro _ _ ⟨b1, rfl, rfl⟩
  refine Ops.ef rfl (ef_boxK rfl rfl) ?_
  rintro _ _ ⟨b2, rfl, rfl⟩
  refine Ops.pv (pv_assign rfl) rfl ?_
  refine Ops.nil ?_
  refine Ends.seq ?_
  refine Wp.seq ?_
  refine Wp.region ?_
  refine Ops.pv (pv_move rfl) rfl ?_
  refine Ops.pv (pv_loadK [_, _] rfl rfl rfl ⟨rfl, rfl, trivial⟩) rfl ?_
  refine Ops.pv (pv_loadK [_, _] rfl rfl rfl ⟨rfl, rfl, trivial⟩) rfl ?_
  refine Ops.ef rfl (ef_callr (tr_mBoth n cb L p hH so de) rfl rfl) ?_
  rintro _ _ ⟨rfl, rfl⟩
  refine Ops.pv (pv_move rfl) rfl ?_
  refine Ops.pv (pv_extract rfl rfl) rfl ?_
  refine Ops.pv (pv_extract rfl rfl) rfl ?_
  refine Ops.ef rfl (ef_allocK tyZ24 rfl) ?_
  rintro _ _ ⟨b3, rfl, rfl⟩
  refine Ops.ef rfl (ef_storeK rfl rfl rfl rfl) ?_
  rintro _ _ ⟨rfl, rfl⟩
  refine Ops.pv (pv_assign rfl) rfl ?_
  refine Ops.nil ?_
  refine Ends.seq ?_
  refine Wp.seq ?_
  refine Wp.seq ?_
  refine Wp.region ?_
  refine Ops.pv (pv_move rfl) rfl ?_
  refine Ops.pv (pv_neq rfl rfl) rfl ?_
  refine Ops.nil ?_
  refine Ends.seq ?_
  first | refine Wp.cond_dect rfl (fun h1 => ?_) (fun h1 => ?_) | refine Wp.cond_t rfl (fun h1 => ?_) (fun h1 => ?_)
  · refine Wp.seq ?_
    refine Wp.region ?_
    refine Ops.pv (pv_move rfl) rfl ?_
    refine Ops.pv (pv_assign rfl) rfl ?_
    refine Ops.nil ?_
    refine Ends.seq ?_
    refine Wp.ret ?_
    refine Ends.then_ret ?_
    have he : mMint p so de r bd g k = ((mBoth p so de).2, p) := by unfold mMint; rw [if_pos (by assumption)]
    rw [he]
    exact Ends.ret (L' := L) (res1 rfl rfl) ⟨rfl, hH.more (by omega)⟩
  · refine Wp.skip ?_
    refine Ends.seq ?_
    refine Wp.seq ?_
    refine Wp.region ?_
    refine Ops.pv (pv_loadK [_, _, _, _, _, _] rfl rfl rfl ⟨rfl, rfl, rfl, rfl, rfl, rfl, trivial⟩) rfl ?_
    refine Ops.pv (pv_move rfl) rfl ?_
    refine Ops.pv (pv_move rfl) rfl ?_
    refine Ops.pv (pv_move rfl) rfl ?_
    refine Ops.pv (pv_move rfl) rfl ?_
    refine Ops.ef rfl (ef_callr (tr_derive (mBoth p so de).1 r bd g k) rfl rfl) ?_
    rintro _ _ ⟨rfl, rfl⟩
    refine Ops.pv (pv_move rfl) rfl ?_
    refine Ops.pv (pv_extract rfl rfl) rfl ?_
    refine Ops.pv (pv_extract rfl rfl) rfl ?_
    refine Ops.ef rfl (ef_allocK tyZ24 rfl) ?_
    rintro _ _ ⟨b4, rfl, rfl⟩
    refine Ops.ef rfl (ef_storeK rfl rfl rfl rfl) ?_
    rintro _ _ ⟨rfl, rfl⟩
    refine Ops.pv (pv_assign rfl) rfl ?_
    refine Ops.nil ?_
    refine Ends.seq ?_
    refine Wp.seq ?_
    refine Wp.seq ?_
    refine Wp.region ?_
    refine Ops.pv (pv_move rfl) rfl ?_
    refine Ops.pv (pv_neq rfl rfl) rfl ?_
    refine Ops.nil ?_
    refine Ends.seq ?_
    first | refine Wp.cond_dect rfl (fun h2 => ?_) (fun h2 => ?_) | refine Wp.cond_t rfl (fun h2 => ?_) (fun h2 => ?_)
    · refine Wp.seq ?_
      refine Wp.region ?_
      refine Ops.pv (pv_move rfl) rfl ?_
      refine Ops.pv (pv_assign rfl) rfl ?_
      refine Ops.nil ?_
      refine Ends.seq ?_
      refine Wp.ret ?_
      refine Ends.then_ret ?_
      have he : mMint p so de r bd g k = ((derive (mBoth p so de).1 r bd g k).2, p) := by unfold mMint; rw [if_neg (by assumption), if_pos (by assumption)]
      rw [he]
      exact Ends.ret (L' := L) (res1 rfl rfl) ⟨rfl, hH.more (by omega)⟩
    · refine Wp.skip ?_
      refine Ends.seq ?_
      refine Wp.seq ?_
      refine Wp.region ?_
      refine Ops.pv (pv_move rfl) rfl ?_
      refine Ops.pv (pv_loadK [_, _] rfl rfl rfl ⟨rfl, rfl, trivial⟩) rfl ?_
      refine Ops.pv (pv_loadK [_, _] rfl rfl rfl ⟨rfl, rfl, trivial⟩) rfl ?_
      refine Ops.pv (pv_loadK [_, _, _, _, _, _] rfl rfl rfl ⟨rfl, rfl, rfl, rfl, rfl, rfl, trivial⟩) rfl ?_
      refine Ops.ef rfl (ef_call (tr_mChild n cb L p hH hn so de (derive (mBoth p so de).1 r bd g k).1) rfl rfl) ?_
      rintro _ _ ⟨_, Q1, ⟨rfl, hH2⟩, rfl, rfl⟩
      refine Ops.app ?_
      skip
      refine Ops.pv (pv_assign rfl) rfl ?_
      refine Ops.nil ?_
      refine Ends.seq ?_
      refine Wp.ret ?_
      have he : mMint p so de r bd g k = mChild p so de (derive (mBoth p so de).1 r bd g k).1 := by unfold mMint; rw [if_neg (by assumption), if_neg (by assumption)]
      rw [he]
      exact Ends.ret (L' := Q1) (res1 rfl rfl) ⟨rfl, hH2⟩

theorem tr_mCopy (n cb : Nat) (L : Hp) (p : PS) (hH : CapsH n p cb L) (hn : n ≤ 2 ^ 19) (so de : SlotM) (r : Int) : Tr Try.prog 17 [cpP cb, slotV so, slotV de, .int .i64 r] (L) (fun u L' => u = .int .i64 (mCopy p so de r).1 ∧ CapsH (n + 1) (mCopy p so de r).2 cb L') := by
  have hH0 := hH
  obtain ⟨sb, tb, Ls, Lt, hS, hT, rfl⟩ := hH
  refine Tr.enter Try.func17 rfl Try.ntmps17 rfl (fun W F => ?_)
  refine Wp.app ?_
  refine Wp.seq ?_
  refine Wp.region ?_
  refine Ops.ef rfl (ef_boxK rfl rfl) ?_
  rintro _ _ ⟨b1, rfl, rfl⟩
  refine Ops.ef rfl (ef_boxK rfl rfl) ?_
  rintro _ _ ⟨b2, rfl, rfl⟩
  refine Ops.pv (pv_assign rfl) rfl ?_
  refine Ops.nil ?_
  refine Ends.seq ?_
  refine Wp.seq ?_
  refine AnyH.start ((b1, .cells [.int .i64 so.1, .int .i64 so.2].toArray 38) :: cBlk cb sb tb :: []) 13 rfl ?_
  refine AnyH.take 0 rfl (by kernel_rfl) (by kernel_rfl) (by kernel_rfl) PF.pf rfl (pv_move rfl) rfl ?_
  first | refine AnyH.take 1 rfl (by kernel_rfl) (by kernel_rfl) (by kernel_rfl) PF.pf rfl (pv_nilCheck rfl) rfl ?_ | refine AnyH.take 1 rfl (by kernel_rfl) (by kernel_rfl) (by kernel_rfl) PF.pf rfl (pv_nilCheck_func rfl rfl) rfl ?_
  first | refine AnyH.take 2 rfl (by kernel_rfl) (by kernel_rfl) (by kernel_rfl) PF.pf rfl (pv_fieldAddr0 rfl rfl) rfl ?_ | refine AnyH.take 2 rfl (by kernel_rfl) (by kernel_rfl) (by kernel_rfl) PF.pf rfl (pv_fieldAddr rfl rfl) rfl ?_
  first | refine AnyH.take 3 rfl (by kernel_rfl) (by kernel_rfl) (by kernel_rfl) PF.pf rfl (pv_fieldAddr0 rfl rfl) rfl ?_ | refine AnyH.take 3 rfl (by kernel_rfl) (by kernel_rfl) (by kernel_rfl) PF.pf rfl (pv_fieldAddr rfl rfl) rfl ?_
  first | refine AnyH.take 4 rfl (by kernel_rfl) (by kernel_rfl) (by kernel_rfl) PF.pf rfl (pv_load rfl rfl rfl) rfl ?_ | refine AnyH.take 4 rfl (by kernel_rfl) (by kernel_rfl) (by kernel_rfl) PF.pf rfl (pv_load rfl rfl (by assumption)) rfl ?_
  refine AnyH.take 5 rfl (by kernel_rfl) (by kernel_rfl) (by kernel_rfl) PF.pf rfl (pv_loadK [_, _] rfl rfl rfl ⟨rfl, rfl, trivial⟩) rfl ?_
  refine AnyH.two 6 10 (by kernel_rfl) ?_ ?_
  · refine Turn.ef rfl rfl (ef_callr (sf_get hS so) rfl rfl) ?_ ?_
    · rintro _ _ ⟨rfl, rfl⟩; infer_instance
    rintro _ _ ⟨rfl, rfl⟩
    refine AnyH.take 7 rfl (by kernel_rfl) (by kernel_rfl) (by kernel_rfl) PF.pf rfl (pv_move rfl) rfl ?_
    refine AnyH.take 8 rfl (by kernel_rfl) (by kernel_rfl) (by kernel_rfl) PF.pf rfl (pv_extract rfl rfl) rfl ?_
    refine AnyH.take 9 rfl (by kernel_rfl) (by kernel_rfl) (by kernel_rfl) PF.pf rfl (pv_extract rfl rfl) rfl ?_
    refine AnyH.one 10 (by kernel_rfl) ?_
    refine Turn.ef rfl rfl (ef_allocK tyZ24 rfl) ?_ ?_
    · rintro _ _ ⟨b3, rfl, rfl⟩; infer_instance
    rintro _ _ ⟨b3, rfl, rfl⟩
    refine AnyH.one 11 (by kernel_rfl) ?_
    refine Turn.ef rfl rfl (ef_storeK rfl rfl rfl rfl) ?_ ?_
    · rintro _ _ ⟨rfl, rfl⟩; infer_instance
    rintro _ _ ⟨rfl, rfl⟩
    refine AnyH.take 12 rfl (by kernel_rfl) (by kernel_rfl) (by kernel_rfl) PF.pf rfl (pv_assign rfl) rfl ?_
    refine AnyH.done (by kernel_rfl) ?_
    refine Ends.seq ?_
    refine Wp.seq ?_
    refine Wp.region ?_
    refine Ops.pv (pv_move rfl) rfl ?_
    refine Ops.pv (pv_loadK [_, _] rfl rfl rfl ⟨rfl, rfl, trivial⟩) rfl ?_
    refine Ops.pv (pv_loadK [_, _] rfl rfl rfl ⟨rfl, rfl, trivial⟩) rfl ?_
    refine Ops.pv (pv_move rfl) rfl ?_
    first | refine Ops.pv (pv_fieldAddr0 rfl rfl) rfl ?_ | refine Ops.pv (pv_fieldAddr rfl rfl) rfl ?_
    first | refine Ops.pv (pv_load rfl rfl rfl) rfl ?_ | refine Ops.pv (pv_load rfl rfl (by assumption)) rfl ?_
    first | refine Ops.pv (pv_fieldAddr0 rfl rfl) rfl ?_ | refine Ops.pv (pv_fieldAddr rfl rfl) rfl ?_
    first | refine Ops.pv (pv_load rfl rfl rfl) rfl ?_ | refine Ops.pv (pv_load rfl rfl (by assumption)) rfl ?_
    refine Ops.ef rfl (ef_call (tr_mMint n cb (cBlk cb sb tb :: (Ls ++ Lt)) p hH0 hn so de r 0 (dget p.l so).1.guard (dget p.l so).1.bits) rfl rfl) ?_
    rintro _ _ ⟨_, Q1, ⟨rfl, hH2⟩, rfl, rfl⟩
    refine Ops.app ?_
    skip
    refine Ops.pv (pv_assign rfl) rfl ?_
    refine Ops.nil ?_
    refine Ends.seq ?_
    refine Wp.ret ?_
    exact Ends.ret (L' := Q1) (res1 rfl rfl) ⟨rfl, hH2⟩
  · refine Turn.ef rfl rfl (ef_allocK tyZ24 rfl) ?_ ?_
    · rintro _ _ ⟨b4, rfl, rfl⟩; infer_instance
    rintro _ _ ⟨b4, rfl, rfl⟩
    refine AnyH.one 6 (by kernel_rfl) ?_
    refine Turn.ef rfl rfl (ef_callr (sf_get hS so) rfl rfl) ?_ ?_
    · rintro _ _ ⟨rfl, rfl⟩; infer_instance
    rintro _ _ ⟨rfl, rfl⟩
    refine AnyH.take 7 rfl (by kernel_rfl) (by kernel_rfl) (by kernel_rfl) PF.pf rfl (pv_move rfl) rfl ?_
    refine AnyH.take 8 rfl (by kernel_rfl) (by kernel_rfl) (by kernel_rfl) PF.pf rfl (pv_extract rfl rfl) rfl ?_
    refine AnyH.take 9 rfl (by kernel_rfl) (by kernel_rfl) (by kernel_rfl) PF.pf rfl (pv_extract rfl rfl) rfl ?_
    refine AnyH.one 11 (by kernel_rfl) ?_
    refine Turn.ef rfl rfl (ef_storeK rfl rfl rfl rfl) ?_ ?_
    · rintro _ _ ⟨rfl, rfl⟩; infer_instance
    rintro _ _ ⟨rfl, rfl⟩
    refine AnyH.take 12 rfl (by kernel_rfl) (by kernel_rfl) (by kernel_rfl) PF.pf rfl (pv_assign rfl) rfl ?_
    refine AnyH.done (by kernel_rfl) ?_
    refine Ends.seq ?_
    refine Wp.seq ?_
    refine Wp.region ?_
    refine Ops.pv (pv_move rfl) rfl ?_
    refine Ops.pv (pv_loadK [_, _] rfl rfl rfl ⟨rfl, rfl, trivial⟩) rfl ?_
    refine Ops.pv (pv_loadK [_, _] rfl rfl rfl ⟨rfl, rfl, trivial⟩) rfl ?_
    refine Ops.pv (pv_move rfl) rfl ?_
    first | refine Ops.pv (pv_fieldAddr0 rfl rfl) rfl ?_ | refine Ops.pv (pv_fieldAddr rfl rfl) rfl ?_
    first | refine Ops.pv (pv_load rfl rfl rfl) rfl ?_ | refine Ops.pv (pv_load rfl rfl (by assumption)) rfl ?_
    first | refine Ops.pv (pv_fieldAddr0 rfl rfl) rfl ?_ | refine Ops.pv (pv_fieldAddr rfl rfl) rfl ?_
    first | refine Ops.pv (pv_load rfl rfl rfl) rfl ?_ | refine Ops.pv (pv_load rfl rfl (by assumption)) rfl ?_
    refine Ops.ef rfl (ef_call (tr_mMint n cb (cBlk cb sb tb :: (Ls ++ Lt)) p hH0 hn so de r 0 (dget p.l so).1.guard (dget p.l so).1.bits) rfl rfl) ?_
    rintro _ _ ⟨_, Q2, ⟨rfl, hH2⟩, rfl, rfl⟩
    refine Ops.app ?_
    skip
    refine Ops.pv (pv_assign rfl) rfl ?_
    refine Ops.nil ?_
    refine Ends.seq ?_
    refine Wp.ret ?_
    exact Ends.ret (L' := Q2) (res1 rfl rfl) ⟨rfl, hH2⟩

theorem tr_mCarry (n cb : Nat) (L : Hp) (p : PS) (hH : CapsH n p cb L) (so de : SlotM) (c : CapM) : Tr Try.prog 49 [cpP cb, slotV so, slotV de, c.v] (L) (fun u L' => u = .tuple #[] ∧ CapsH n (mCarry p so de c) cb L') := by
  obtain ⟨sb, tb, Ls, Lt, hS, hT, rfl⟩ := hH
  refine Tr.enter Try.func49 rfl Try.ntmps49 rfl (fun W F => ?_)
  refine Wp.app ?_
  refine Wp.seq ?_
  refine Wp.region ?_
  refine Ops.ef rfl (ef_boxK rfl rfl) ?_
  rintro _ _ ⟨b1, rfl, rfl⟩
  refine Ops.ef rfl (ef_boxK rfl rfl) ?_
  rintro _ _ ⟨b2, rfl, rfl⟩
  refine Ops.ef rfl (ef_boxK rfl rfl) ?_
  rintro _ _ ⟨b3, rfl, rfl⟩
  refine Ops.nil ?_
  refine Ends.seq ?_
  refine Wp.seq ?_
  refine AnyH.start ((b1, .cells [.int .i64 so.1, .int .i64 so.2].toArray 38) :: cBlk cb sb tb :: []) 7 rfl ?_
  refine AnyH.take 0 rfl (by kernel_rfl) (by kernel_rfl) (by kernel_rfl) PF.pf rfl (pv_move rfl) rfl ?_
  first | refine AnyH.take 1 rfl (by kernel_rfl) (by kernel_rfl) (by kernel_rfl) PF.pf rfl (pv_nilCheck rfl) rfl ?_ | refine AnyH.take 1 rfl (by kernel_rfl) (by kernel_rfl) (by kernel_rfl) PF.pf rfl (pv_nilCheck_func rfl rfl) rfl ?_
  first | refine AnyH.take 2 rfl (by kernel_rfl) (by kernel_rfl) (by kernel_rfl) PF.pf rfl (pv_fieldAddr0 rfl rfl) rfl ?_ | refine AnyH.take 2 rfl (by kernel_rfl) (by kernel_rfl) (by kernel_rfl) PF.pf rfl (pv_fieldAddr rfl rfl) rfl ?_
  first | refine AnyH.take 3 rfl (by kernel_rfl) (by kernel_rfl) (by kernel_rfl) PF.pf rfl (pv_fieldAddr0 rfl rfl) rfl ?_ | refine AnyH.take 3 rfl (by kernel_rfl) (by kernel_rfl) (by kernel_rfl) PF.pf rfl (pv_fieldAddr rfl rfl) rfl ?_
  first | refine AnyH.take 4 rfl (by kernel_rfl) (by kernel_rfl) (by kernel_rfl) PF.pf rfl (pv_load rfl rfl rfl) rfl ?_ | refine AnyH.take 4 rfl (by kernel_rfl) (by kernel_rfl) (by kernel_rfl) PF.pf rfl (pv_load rfl rfl (by assumption)) rfl ?_
  refine AnyH.take 5 rfl (by kernel_rfl) (by kernel_rfl) (by kernel_rfl) PF.pf rfl (pv_loadK [_, _] rfl rfl rfl ⟨rfl, rfl, trivial⟩) rfl ?_
  refine AnyH.one 6 (by kernel_rfl) ?_
  refine Turn.ef rfl rfl (ef_call (sf_take hS so) rfl rfl) ?_ ?_
  · rintro _ _ ⟨_, Q1, ⟨rfl, hS2⟩, rfl, rfl⟩; infer_instance
  rintro _ _ ⟨_, Q1, ⟨rfl, hS2⟩, rfl, rfl⟩
  refine AnyH.app ?_
  skip
  refine AnyH.done (by kernel_rfl) ?_
  refine Ends.seq ?_
  refine Wp.seq ?_
  refine AnyH.start ((b3, .cells c.cells.toArray 24) :: (b2, .cells [.int .i64 de.1, .int .i64 de.2].toArray 38) :: cBlk cb sb tb :: []) 8 rfl ?_
  refine AnyH.take 0 rfl (by kernel_rfl) (by kernel_rfl) (by kernel_rfl) PF.pf rfl (pv_move rfl) rfl ?_
  first | refine AnyH.take 1 rfl (by kernel_rfl) (by kernel_rfl) (by kernel_rfl) PF.pf rfl (pv_nilCheck rfl) rfl ?_ | refine AnyH.take 1 rfl (by kernel_rfl) (by kernel_rfl) (by kernel_rfl) PF.pf rfl (pv_nilCheck_func rfl rfl) rfl ?_
  first | refine AnyH.take 2 rfl (by kernel_rfl) (by kernel_rfl) (by kernel_rfl) PF.pf rfl (pv_fieldAddr0 rfl rfl) rfl ?_ | refine AnyH.take 2 rfl (by kernel_rfl) (by kernel_rfl) (by kernel_rfl) PF.pf rfl (pv_fieldAddr rfl rfl) rfl ?_
  first | refine AnyH.take 3 rfl (by kernel_rfl) (by kernel_rfl) (by kernel_rfl) PF.pf rfl (pv_fieldAddr0 rfl rfl) rfl ?_ | refine AnyH.take 3 rfl (by kernel_rfl) (by kernel_rfl) (by kernel_rfl) PF.pf rfl (pv_fieldAddr rfl rfl) rfl ?_
  first | refine AnyH.take 4 rfl (by kernel_rfl) (by kernel_rfl) (by kernel_rfl) PF.pf rfl (pv_load rfl rfl rfl) rfl ?_ | refine AnyH.take 4 rfl (by kernel_rfl) (by kernel_rfl) (by kernel_rfl) PF.pf rfl (pv_load rfl rfl (by assumption)) rfl ?_
  refine AnyH.take 5 rfl (by kernel_rfl) (by kernel_rfl) (by kernel_rfl) PF.pf rfl (pv_loadK [_, _] rfl rfl rfl ⟨rfl, rfl, trivial⟩) rfl ?_
  refine AnyH.take 6 rfl (by kernel_rfl) (by kernel_rfl) (by kernel_rfl) PF.pf rfl (pv_loadK [_, _, _, _, _, _] rfl rfl rfl ⟨rfl, rfl, rfl, rfl, rfl, rfl, trivial⟩) rfl ?_
  refine AnyH.one 7 (by kernel_rfl) ?_
  refine Turn.ef rfl rfl (ef_call (sf_put hS2 de c) rfl rfl) ?_ ?_
  · rintro _ _ ⟨_, Q2, ⟨rfl, hS3⟩, rfl, rfl⟩; infer_instance
  rintro _ _ ⟨_, Q2, ⟨rfl, hS3⟩, rfl, rfl⟩
  refine AnyH.app ?_
  skip
  refine AnyH.done (by kernel_rfl) ?_
  refine Ends.seq ?_
  refine AnyH.start ((b2, .cells [.int .i64 de.1, .int .i64 de.2].toArray 38) :: (b1, .cells [.int .i64 so.1, .int .i64 so.2].toArray 38) :: cBlk cb sb tb :: []) 7 rfl ?_
  refine AnyH.take 0 rfl (by kernel_rfl) (by kernel_rfl) (by kernel_rfl) PF.pf rfl (pv_move rfl) rfl ?_
  first | refine AnyH.take 1 rfl (by kernel_rfl) (by kernel_rfl) (by kernel_rfl) PF.pf rfl (pv_nilCheck rfl) rfl ?_ | refine AnyH.take 1 rfl (by kernel_rfl) (by kernel_rfl) (by kernel_rfl) PF.pf rfl (pv_nilCheck_func rfl rfl) rfl ?_
  first | refine AnyH.take 2 rfl (by kernel_rfl) (by kernel_rfl) (by kernel_rfl) PF.pf rfl (pv_fieldAddr0 rfl rfl) rfl ?_ | refine AnyH.take 2 rfl (by kernel_rfl) (by kernel_rfl) (by kernel_rfl) PF.pf rfl (pv_fieldAddr rfl rfl) rfl ?_
  first | refine AnyH.take 3 rfl (by kernel_rfl) (by kernel_rfl) (by kernel_rfl) PF.pf rfl (pv_load rfl rfl rfl) rfl ?_ | refine AnyH.take 3 rfl (by kernel_rfl) (by kernel_rfl) (by kernel_rfl) PF.pf rfl (pv_load rfl rfl (by assumption)) rfl ?_
  refine AnyH.take 4 rfl (by kernel_rfl) (by kernel_rfl) (by kernel_rfl) PF.pf rfl (pv_loadK [_, _] rfl rfl rfl ⟨rfl, rfl, trivial⟩) rfl ?_
  refine AnyH.take 5 rfl (by kernel_rfl) (by kernel_rfl) (by kernel_rfl) PF.pf rfl (pv_loadK [_, _] rfl rfl rfl ⟨rfl, rfl, trivial⟩) rfl ?_
  refine AnyH.one 6 (by kernel_rfl) ?_
  refine Turn.ef rfl rfl (ef_call (tr_fMove hT so de) rfl rfl) ?_ ?_
  · rintro _ _ ⟨_, R1, ⟨rfl, hT2⟩, rfl, rfl⟩; infer_instance
  rintro _ _ ⟨_, R1, ⟨rfl, hT2⟩, rfl, rfl⟩
  refine AnyH.app ?_
  skip
  refine AnyH.done (by kernel_rfl) ?_
  exact Ends.fin (L' := cBlk cb sb tb :: (Q2 ++ R1)) (res0 rfl) ⟨rfl, sb, tb, Q2, R1, hS3, hT2, rfl⟩

theorem tr_mMove (n cb : Nat) (L : Hp) (p : PS) (hH : CapsH n p cb L) (so de : SlotM) : Tr Try.prog 19 [cpP cb, slotV so, slotV de] (L) (fun u L' => u = .int .i64 (mMove p so de).1 ∧ CapsH (n + 0) (mMove p so de).2 cb L') := by
  refine Tr.enter Try.func19 rfl Try.ntmps19 rfl (fun W F => ?_)
  refine Wp.app ?_
  refine Wp.seq ?_
  refine Wp.region ?_
  refine Ops.ef rfl (ef_boxK rfl rfl) ?_
  rintro _ _ ⟨b1, rfl, rfl⟩
  refine Ops.ef rfl (ef_boxK rfl rfl) ?_
  rintro _ _ ⟨b2, rfl, rfl⟩
  refine Ops.pv (pv_assign rfl) rfl ?_
  refine Ops.nil ?_
  refine Ends.seq ?_
  refine Wp.seq ?_
  refine Wp.region ?_
  refine Ops.pv (pv_move rfl) rfl ?_
  refine Ops.pv (pv_loadK [_, _] rfl rfl rfl ⟨rfl, rfl, trivial⟩) rfl ?_
  refine Ops.pv (pv_loadK [_, _] rfl rfl rfl ⟨rfl, rfl, trivial⟩) rfl ?_
  refine Ops.ef rfl (ef_callr (tr_mBoth n cb L p hH so de) rfl rfl) ?_
  rintro _ _ ⟨rfl, rfl⟩
  refine Ops.pv (pv_move rfl) rfl ?_
  refine Ops.pv (pv_extract rfl rfl) rfl ?_
  refine Ops.pv (pv_extract rfl rfl) rfl ?_
  refine Ops.ef rfl (ef_allocK tyZ24 rfl) ?_
  rintro _ _ ⟨b3, rfl, rfl⟩
  refine Ops.ef rfl (ef_storeK rfl rfl rfl rfl) ?_
  rintro _ _ ⟨rfl, rfl⟩
  refine Ops.pv (pv_assign rfl) rfl ?_
  refine Ops.nil ?_
  refine Ends.seq ?_
  refine Wp.seq ?_
  refine Wp.seq ?_
  refine Wp.region ?_
  refine Ops.pv (pv_move rfl) rfl ?_
  refine Ops.pv (pv_eql rfl rfl) rfl ?_
  refine Ops.nil ?_
  refine Ends.seq ?_
  first | refine Wp.cond_dect rfl (fun h1 => ?_) (fun h1 => ?_) | refine Wp.cond_t rfl (fun h1 => ?_) (fun h1 => ?_)
  · refine Wp.region ?_
    refine Ops.pv (pv_move rfl) rfl ?_
    refine Ops.pv (pv_loadK [_, _] rfl rfl rfl ⟨rfl, rfl, trivial⟩) rfl ?_
    refine Ops.pv (pv_loadK [_, _] rfl rfl rfl ⟨rfl, rfl, trivial⟩) rfl ?_
    refine Ops.pv (pv_loadK [_, _, _, _, _, _] rfl rfl rfl ⟨rfl, rfl, rfl, rfl, rfl, rfl, trivial⟩) rfl ?_
    refine Ops.ef rfl (ef_call (tr_mCarry n cb L p hH so de (mBoth p so de).1) rfl rfl) ?_
    rintro _ _ ⟨_, Q1, ⟨rfl, hH2⟩, rfl, rfl⟩
    refine Ops.app ?_
    skip
    refine Ops.nil ?_
    refine Ends.seq ?_
    refine Wp.seq ?_
    refine Wp.region ?_
    refine Ops.pv (pv_move rfl) rfl ?_
    refine Ops.pv (pv_assign rfl) rfl ?_
    refine Ops.nil ?_
    refine Ends.seq ?_
    refine Wp.ret ?_
    have he : mMove p so de = ((mBoth p so de).2, mCarry p so de (mBoth p so de).1) := by unfold mMove; rw [if_pos (by assumption)]
    rw [he]
    exact Ends.ret (L' := Q1) (res1 rfl rfl) ⟨rfl, hH2⟩
  · refine Wp.skip ?_
    refine Ends.seq ?_
    refine Wp.seq ?_
    refine Wp.region ?_
    refine Ops.pv (pv_move rfl) rfl ?_
    refine Ops.pv (pv_assign rfl) rfl ?_
    refine Ops.nil ?_
    refine Ends.seq ?_
    refine Wp.ret ?_
    have he : mMove p so de = ((mBoth p so de).2, p) := by unfold mMove; rw [if_neg (by assumption)]
    rw [he]
    exact Ends.ret (L' := L) (res1 rfl rfl) ⟨rfl, hH⟩

theorem tr_mMutate (n cb : Nat) (L : Hp) (p : PS) (hH : CapsH n p cb L) (so de : SlotM) (g k : Int) : Tr Try.prog 26 [cpP cb, slotV so, slotV de, .int .u64 g, .int .i64 k] (L) (fun u L' => u = .int .i64 (mMutate p so de g k).1 ∧ CapsH (n + 0) (mMutate p so de g k).2 cb L') := by
  refine Tr.enter Try.func26 rfl Try.ntmps26 rfl (fun W F => ?_)
  refine Wp.app ?_
  refine Wp.seq ?_
  refine Wp.region ?_
  refine Ops.ef rfl (ef_boxK rfl rfl) ?_
  rintro _ _ ⟨b1, rfl, rfl⟩
  refine Ops.ef rfl (ef_boxK rfl rfl) ?_
  rintro _ _ ⟨b2, rfl, rfl⟩
  refine Ops.pv (pv_assign rfl) rfl ?_
  refine Ops.nil ?_
  refine Ends.seq ?_
  refine Wp.seq ?_
  refine Wp.region ?_
  refine Ops.pv (pv_move rfl) rfl ?_
  refine Ops.pv (pv_loadK [_, _] rfl rfl rfl ⟨rfl, rfl, trivial⟩) rfl ?_
  refine Ops.pv (pv_loadK [_, _] rfl rfl rfl ⟨rfl, rfl, trivial⟩) rfl ?_
  refine Ops.ef rfl (ef_callr (tr_mBoth n cb L p hH so de) rfl rfl) ?_
  rintro _ _ ⟨rfl, rfl⟩
  refine Ops.pv (pv_move rfl) rfl ?_
  refine Ops.pv (pv_extract rfl rfl) rfl ?_
  refine Ops.pv (pv_extract rfl rfl) rfl ?_
  refine Ops.ef rfl (ef_allocK tyZ24 rfl) ?_
  rintro _ _ ⟨b3, rfl, rfl⟩
  refine Ops.ef rfl (ef_storeK rfl rfl rfl rfl) ?_
  rintro _ _ ⟨rfl, rfl⟩
  refine Ops.pv (pv_assign rfl) rfl ?_
  refine Ops.nil ?_
  refine Ends.seq ?_
  refine Wp.seq ?_
  refine Wp.block ?_
  refine Wp.seq ?_
  refine Wp.region ?_
  refine Ops.pv (pv_move rfl) rfl ?_
  refine Ops.pv (pv_neq rfl rfl) rfl ?_
  refine Ops.pv (pv_assign rfl) rfl ?_
  refine Ops.nil ?_
  refine Ends.seq ?_
  first | refine Wp.cond_dect rfl (fun h1 => ?_) (fun h1 => ?_) | refine Wp.cond_t rfl (fun h1 => ?_) (fun h1 => ?_)
  · refine Wp.seq ?_
    refine Wp.region ?_
    refine Ops.pv (pv_move rfl) rfl ?_
    refine Ops.pv (pv_assign rfl) rfl ?_
    refine Ops.nil ?_
    refine Ends.seq ?_
    refine Wp.ret ?_
    refine Ends.block_ret ?_
    refine Ends.then_ret ?_
    have he : mMutate p so de g k = ((mBoth p so de).2, p) := by unfold mMutate; rw [if_pos (by assumption)]
    rw [he]
    exact Ends.ret (L' := L) (res1 rfl rfl) ⟨rfl, hH⟩
  · refine Wp.seq ?_
    refine Wp.region ?_
    first | refine Ops.pv (pv_fieldAddr0 rfl rfl) rfl ?_ | refine Ops.pv (pv_fieldAddr rfl rfl) rfl ?_
    first | refine Ops.pv (pv_load rfl rfl rfl) rfl ?_ | refine Ops.pv (pv_load rfl rfl (by assumption)) rfl ?_
    refine Ops.pv (pv_neq rfl rfl) rfl ?_
    refine Ops.pv (pv_assign rfl) rfl ?_
    refine Ops.nil ?_
    refine Ends.seq ?_
    first | refine Wp.cond_dect rfl (fun h2 => ?_) (fun h2 => ?_) | refine Wp.cond_t rfl (fun h2 => ?_) (fun h2 => ?_)
    · refine Wp.seq ?_
      refine Wp.region ?_
      refine Ops.pv (pv_assign rfl) rfl ?_
      refine Ops.nil ?_
      refine Ends.seq ?_
      refine Wp.ret ?_
      refine Ends.block_ret ?_
      refine Ends.then_ret ?_
      have he : mMutate p so de g k = (2, p) := by unfold mMutate; rw [if_neg (by assumption), if_pos (by assumption)]
      rw [he]
      exact Ends.ret (L' := L) (res1 rfl rfl) ⟨rfl, hH⟩
    · refine Wp.skip ?_
      refine Ends.block_normal ?_
      refine Ends.seq ?_
      refine Wp.seq ?_
      refine Wp.region ?_
      refine Ops.pv (pv_loadK [_, _, _, _, _, _] rfl rfl rfl ⟨rfl, rfl, rfl, rfl, rfl, rfl, trivial⟩) rfl ?_
      refine Ops.pv (pv_move rfl) rfl ?_
      refine Ops.pv (pv_move rfl) rfl ?_
      refine Ops.ef rfl (ef_callr (tr_derive (mBoth p so de).1 0 0 g k) rfl rfl) ?_
      rintro _ _ ⟨rfl, rfl⟩
      refine Ops.pv (pv_move rfl) rfl ?_
      refine Ops.pv (pv_extract rfl rfl) rfl ?_
      refine Ops.pv (pv_extract rfl rfl) rfl ?_
      refine Ops.ef rfl (ef_storeK rfl rfl rfl rfl) ?_
      rintro _ _ ⟨rfl, rfl⟩
      refine Ops.pv (pv_assign rfl) rfl ?_
      refine Ops.nil ?_
      refine Ends.seq ?_
      refine Wp.seq ?_
      refine Wp.seq ?_
      refine Wp.region ?_
      refine Ops.pv (pv_move rfl) rfl ?_
      refine Ops.pv (pv_eql rfl rfl) rfl ?_
      refine Ops.nil ?_
      refine Ends.seq ?_
      first | refine Wp.cond_dect rfl (fun h3 => ?_) (fun h3 => ?_) | refine Wp.cond_t rfl (fun h3 => ?_) (fun h3 => ?_)
      · refine Wp.region ?_
        refine Ops.pv (pv_move rfl) rfl ?_
        refine Ops.pv (pv_loadK [_, _] rfl rfl rfl ⟨rfl, rfl, trivial⟩) rfl ?_
        refine Ops.pv (pv_loadK [_, _] rfl rfl rfl ⟨rfl, rfl, trivial⟩) rfl ?_
        refine Ops.pv (pv_loadK [_, _, _, _, _, _] rfl rfl rfl ⟨rfl, rfl, rfl, rfl, rfl, rfl, trivial⟩) rfl ?_
        refine Ops.ef rfl (ef_call (tr_mCarry n cb L p hH so de (derive (mBoth p so de).1 0 0 g k).1) rfl rfl) ?_
        rintro _ _ ⟨_, Q1, ⟨rfl, hH2⟩, rfl, rfl⟩
        refine Ops.app ?_
        skip
        refine Ops.nil ?_
        refine Ends.seq ?_
        refine Wp.seq ?_
        refine Wp.region ?_
        refine Ops.pv (pv_move rfl) rfl ?_
        refine Ops.pv (pv_assign rfl) rfl ?_
        refine Ops.nil ?_
        refine Ends.seq ?_
        refine Wp.ret ?_
        have he : mMutate p so de g k = ((derive (mBoth p so de).1 0 0 g k).2, mCarry p so de (derive (mBoth p so de).1 0 0 g k).1) := by unfold mMutate; rw [if_neg (by assumption), if_neg (by assumption), if_pos (by assumption)]
        rw [he]
        exact Ends.ret (L' := Q1) (res1 rfl rfl) ⟨rfl, hH2⟩
      · refine Wp.skip ?_
        refine Ends.seq ?_
        refine Wp.seq ?_
        refine Wp.region ?_
        refine Ops.pv (pv_move rfl) rfl ?_
        refine Ops.pv (pv_assign rfl) rfl ?_
        refine Ops.nil ?_
        refine Ends.seq ?_
        refine Wp.ret ?_
        have he : mMutate p so de g k = ((derive (mBoth p so de).1 0 0 g k).2, p) := by unfold mMutate; rw [if_neg (by assumption), if_neg (by assumption), if_neg (by assumption)]
        rw [he]
        exact Ends.ret (L' := L) (res1 rfl rfl) ⟨rfl, hH⟩

theorem tr_mTake (n cb : Nat) (L : Hp) (p : PS) (hH : CapsH n p cb L) (hn : n ≤ 2 ^ 19) (so : SlotM) : Tr Try.prog 27 [cpP cb, slotV so] (L) (fun u L' => u = .tuple #[(mTake p so).1.v, .int .i64 (mTake p so).2.1] ∧ CapsH n (mTake p so).2.2 cb L') := by
  obtain ⟨sb, tb, Ls, Lt, hS, hT, rfl⟩ := hH
  refine Tr.enter Try.func27 rfl Try.ntmps27 rfl (fun W F => ?_)
  refine Wp.app ?_
  refine Wp.seq ?_
  refine Wp.region ?_
  refine Ops.ef rfl (ef_boxK rfl rfl) ?_
  rintro _ _ ⟨b1, rfl, rfl⟩
  refine Ops.ef rfl (ef_allocK tyZ24 rfl) ?_
  rintro _ _ ⟨b2, rfl, rfl⟩
  refine Ops.pv (pv_assign rfl) rfl ?_
  refine Ops.nil ?_
  refine Ends.seq ?_
  refine Wp.seq ?_
  refine AnyH.start ((b1, .cells [.int .i64 so.1, .int .i64 so.2].toArray 38) :: cBlk cb sb tb :: []) 13 rfl ?_
  refine AnyH.take 0 rfl (by kernel_rfl) (by kernel_rfl) (by kernel_rfl) PF.pf rfl (pv_move rfl) rfl ?_
  first | refine AnyH.take 1 rfl (by kernel_rfl) (by kernel_rfl) (by kernel_rfl) PF.pf rfl (pv_nilCheck rfl) rfl ?_ | refine AnyH.take 1 rfl (by kernel_rfl) (by kernel_rfl) (by kernel_rfl) PF.pf rfl (pv_nilCheck_func rfl rfl) rfl ?_
  first | refine AnyH.take 2 rfl (by kernel_rfl) (by kernel_rfl) (by kernel_rfl) PF.pf rfl (pv_fieldAddr0 rfl rfl) rfl ?_ | refine AnyH.take 2 rfl (by kernel_rfl) (by kernel_rfl) (by kernel_rfl) PF.pf rfl (pv_fieldAddr rfl rfl) rfl ?_
  first | refine AnyH.take 3 rfl (by kernel_rfl) (by kernel_rfl) (by kernel_rfl) PF.pf rfl (pv_fieldAddr0 rfl rfl) rfl ?_ | refine AnyH.take 3 rfl (by kernel_rfl) (by kernel_rfl) (by kernel_rfl) PF.pf rfl (pv_fieldAddr rfl rfl) rfl ?_
  first | refine AnyH.take 4 rfl (by kernel_rfl) (by kernel_rfl) (by kernel_rfl) PF.pf rfl (pv_load rfl rfl rfl) rfl ?_ | refine AnyH.take 4 rfl (by kernel_rfl) (by kernel_rfl) (by kernel_rfl) PF.pf rfl (pv_load rfl rfl (by assumption)) rfl ?_
  refine AnyH.take 5 rfl (by kernel_rfl) (by kernel_rfl) (by kernel_rfl) PF.pf rfl (pv_loadK [_, _] rfl rfl rfl ⟨rfl, rfl, trivial⟩) rfl ?_
  refine AnyH.two 6 10 (by kernel_rfl) ?_ ?_
  · refine Turn.ef rfl rfl (ef_call (sf_take hS so) rfl rfl) ?_ ?_
    · rintro _ _ ⟨_, Q1, ⟨rfl, hS2⟩, rfl, rfl⟩; infer_instance
    rintro _ _ ⟨_, Q1, ⟨rfl, hS2⟩, rfl, rfl⟩
    refine AnyH.app ?_
    skip
    refine AnyH.take 7 rfl (by kernel_rfl) (by kernel_rfl) (by kernel_rfl) PF.pf rfl (pv_move rfl) rfl ?_
    refine AnyH.take 8 rfl (by kernel_rfl) (by kernel_rfl) (by kernel_rfl) PF.pf rfl (pv_extract rfl rfl) rfl ?_
    refine AnyH.take 9 rfl (by kernel_rfl) (by kernel_rfl) (by kernel_rfl) PF.pf rfl (pv_extract rfl rfl) rfl ?_
    refine AnyH.one 10 (by kernel_rfl) ?_
    refine Turn.ef rfl rfl (ef_allocK tyZ24 rfl) ?_ ?_
    · rintro _ _ ⟨b3, rfl, rfl⟩; infer_instance
    rintro _ _ ⟨b3, rfl, rfl⟩
    refine AnyH.one 11 (by kernel_rfl) ?_
    refine Turn.ef rfl rfl (ef_storeK rfl rfl rfl rfl) ?_ ?_
    · rintro _ _ ⟨rfl, rfl⟩; infer_instance
    rintro _ _ ⟨rfl, rfl⟩
    refine AnyH.take 12 rfl (by kernel_rfl) (by kernel_rfl) (by kernel_rfl) PF.pf rfl (pv_assign rfl) rfl ?_
    refine AnyH.done (by kernel_rfl) ?_
    refine Ends.seq ?_
    refine Wp.seq ?_
    refine Wp.seq ?_
    refine Wp.region ?_
    refine Ops.pv (pv_move rfl) rfl ?_
    refine Ops.pv (pv_eql rfl rfl) rfl ?_
    refine Ops.nil ?_
    refine Ends.seq ?_
    first | refine Wp.cond_dect rfl (fun h1 => ?_) (fun h1 => ?_) | refine Wp.cond_t rfl (fun h1 => ?_) (fun h1 => ?_)
    · refine AnyH.start ((b1, .cells [.int .i64 so.1, .int .i64 so.2].toArray 38) :: cBlk cb sb tb :: []) 6 rfl ?_
      refine AnyH.take 0 rfl (by kernel_rfl) (by kernel_rfl) (by kernel_rfl) PF.pf rfl (pv_move rfl) rfl ?_
      first | refine AnyH.take 1 rfl (by kernel_rfl) (by kernel_rfl) (by kernel_rfl) PF.pf rfl (pv_nilCheck rfl) rfl ?_ | refine AnyH.take 1 rfl (by kernel_rfl) (by kernel_rfl) (by kernel_rfl) PF.pf rfl (pv_nilCheck_func rfl rfl) rfl ?_
      first | refine AnyH.take 2 rfl (by kernel_rfl) (by kernel_rfl) (by kernel_rfl) PF.pf rfl (pv_fieldAddr0 rfl rfl) rfl ?_ | refine AnyH.take 2 rfl (by kernel_rfl) (by kernel_rfl) (by kernel_rfl) PF.pf rfl (pv_fieldAddr rfl rfl) rfl ?_
      first | refine AnyH.take 3 rfl (by kernel_rfl) (by kernel_rfl) (by kernel_rfl) PF.pf rfl (pv_load rfl rfl rfl) rfl ?_ | refine AnyH.take 3 rfl (by kernel_rfl) (by kernel_rfl) (by kernel_rfl) PF.pf rfl (pv_load rfl rfl (by assumption)) rfl ?_
      refine AnyH.take 4 rfl (by kernel_rfl) (by kernel_rfl) (by kernel_rfl) PF.pf rfl (pv_loadK [_, _] rfl rfl rfl ⟨rfl, rfl, trivial⟩) rfl ?_
      refine AnyH.one 5 (by kernel_rfl) ?_
      refine Turn.ef rfl rfl (ef_call (tr_fDrop hT (by omega) so) rfl rfl) ?_ ?_
      · rintro _ _ ⟨_, R1, ⟨rfl, hT2⟩, rfl, rfl⟩; infer_instance
      rintro _ _ ⟨_, R1, ⟨rfl, hT2⟩, rfl, rfl⟩
      refine AnyH.app ?_
      skip
      refine AnyH.done (by kernel_rfl) ?_
      refine Ends.seq ?_
      refine Wp.seq ?_
      refine Wp.region ?_
      refine Ops.pv (pv_loadK [_, _, _, _, _, _] rfl rfl rfl ⟨rfl, rfl, rfl, rfl, rfl, rfl, trivial⟩) rfl ?_
      refine Ops.pv (pv_move rfl) rfl ?_
      refine Ops.ef rfl (ef_storeK rfl rfl rfl rfl) ?_
      rintro _ _ ⟨rfl, rfl⟩
      refine Ops.pv (pv_assign rfl) rfl ?_
      refine Ops.nil ?_
      refine Ends.seq ?_
      refine Wp.ret ?_
      have he : mTake p so = ((dtake p.l so).1, (dtake p.l so).2.1, ⟨(dtake p.l so).2.2, (ftDrop p.F so).2⟩) := by unfold mTake; rw [if_pos (by assumption)]
      rw [he]
      exact Ends.ret (L' := cBlk cb sb tb :: (Q1 ++ R1)) (res_list (rs := [.cell 4 24, .tmp 5]) rfl ⟨_, _, rfl, rv_cellK [_, _, _, _, _, _] rfl rfl rfl ⟨rfl, rfl, rfl, rfl, rfl, rfl, trivial⟩, ⟨_, _, rfl, rv_tmp rfl, rfl⟩⟩ rfl) ⟨rfl, sb, tb, Q1, R1, hS2, hT2, rfl⟩
    · refine Wp.skip ?_
      refine Ends.seq ?_
      refine Wp.seq ?_
      refine Wp.region ?_
      refine Ops.pv (pv_loadK [_, _, _, _, _, _] rfl rfl rfl ⟨rfl, rfl, rfl, rfl, rfl, rfl, trivial⟩) rfl ?_
      refine Ops.pv (pv_move rfl) rfl ?_
      refine Ops.ef rfl (ef_storeK rfl rfl rfl rfl) ?_
      rintro _ _ ⟨rfl, rfl⟩
      refine Ops.pv (pv_assign rfl) rfl ?_
      refine Ops.nil ?_
      refine Ends.seq ?_
      refine Wp.ret ?_
      have he : mTake p so = ((dtake p.l so).1, (dtake p.l so).2.1, ⟨(dtake p.l so).2.2, p.F⟩) := by unfold mTake; rw [if_neg (by assumption)]
      rw [he]
      exact Ends.ret (L' := cBlk cb sb tb :: (Q1 ++ Lt)) (res_list (rs := [.cell 4 24, .tmp 5]) rfl ⟨_, _, rfl, rv_cellK [_, _, _, _, _, _] rfl rfl rfl ⟨rfl, rfl, rfl, rfl, rfl, rfl, trivial⟩, ⟨_, _, rfl, rv_tmp rfl, rfl⟩⟩ rfl) ⟨rfl, sb, tb, Q1, Lt, hS2, hT, rfl⟩
  · refine Turn.ef rfl rfl (ef_allocK tyZ24 rfl) ?_ ?_
    · rintro _ _ ⟨b4, rfl, rfl⟩; infer_instance
    rintro _ _ ⟨b4, rfl, rfl⟩
    refine AnyH.one 6 (by kernel_rfl) ?_
    refine Turn.ef rfl rfl (ef_call (sf_take hS so) rfl rfl) ?_ ?_
    · rintro _ _ ⟨_, Q2, ⟨rfl, hS2⟩, rfl, rfl⟩; infer_instance
    rintro _ _ ⟨_, Q2, ⟨rfl, hS2⟩, rfl, rfl⟩
    refine AnyH.app ?_
    skip
    refine AnyH.take 7 rfl (by kernel_rfl) (by kernel_rfl) (by kernel_rfl) PF.pf rfl (pv_move rfl) rfl ?_
    refine AnyH.take 8 rfl (by kernel_rfl) (by kernel_rfl) (by kernel_rfl) PF.pf rfl (pv_extract rfl rfl) rfl ?_
    refine AnyH.take 9 rfl (by kernel_rfl) (by kernel_rfl) (by kernel_rfl) PF.pf rfl (pv_extract rfl rfl) rfl ?_
    refine AnyH.one 11 (by kernel_rfl) ?_
    refine Turn.ef rfl rfl (ef_storeK rfl rfl rfl rfl) ?_ ?_
    · rintro _ _ ⟨rfl, rfl⟩; infer_instance
    rintro _ _ ⟨rfl, rfl⟩
    refine AnyH.take 12 rfl (by kernel_rfl) (by kernel_rfl) (by kernel_rfl) PF.pf rfl (pv_assign rfl) rfl ?_
    refine AnyH.done (by kernel_rfl) ?_
    refine Ends.seq ?_
    refine Wp.seq ?_
    refine Wp.seq ?_
    refine Wp.region ?_
    refine Ops.pv (pv_move rfl) rfl ?_
    refine Ops.pv (pv_eql rfl rfl) rfl ?_
    refine Ops.nil ?_
    refine Ends.seq ?_
    first | refine Wp.cond_dect rfl (fun h2 => ?_) (fun h2 => ?_) | refine Wp.cond_t rfl (fun h2 => ?_) (fun h2 => ?_)
    · refine AnyH.start ((b1, .cells [.int .i64 so.1, .int .i64 so.2].toArray 38) :: cBlk cb sb tb :: []) 6 rfl ?_
      refine AnyH.take 0 rfl (by kernel_rfl) (by kernel_rfl) (by kernel_rfl) PF.pf rfl (pv_move rfl) rfl ?_
      first | refine AnyH.take 1 rfl (by kernel_rfl) (by kernel_rfl) (by kernel_rfl) PF.pf rfl (pv_nilCheck rfl) rfl ?_ | refine AnyH.take 1 rfl (by kernel_rfl) (by kernel_rfl) (by kernel_rfl) PF.pf rfl (pv_nilCheck_func rfl rfl) rfl ?_
      first | refine AnyH.take 2 rfl (by kernel_rfl) (by kernel_rfl) (by kernel_rfl) PF.pf rfl (pv_fieldAddr0 rfl rfl) rfl ?_ | refine AnyH.take 2 rfl (by kernel_rfl) (by kernel_rfl) (by kernel_rfl) PF.pf rfl (pv_fieldAddr rfl rfl) rfl ?_
      first | refine AnyH.take 3 rfl (by kernel_rfl) (by kernel_rfl) (by kernel_rfl) PF.pf rfl (pv_load rfl rfl rfl) rfl ?_ | refine AnyH.take 3 rfl (by kernel_rfl) (by kernel_rfl) (by kernel_rfl) PF.pf rfl (pv_load rfl rfl (by assumption)) rfl ?_
      refine AnyH.take 4 rfl (by kernel_rfl) (by kernel_rfl) (by kernel_rfl) PF.pf rfl (pv_loadK [_, _] rfl rfl rfl ⟨rfl, rfl, trivial⟩) rfl ?_
      refine AnyH.one 5 (by kernel_rfl) ?_
      refine Turn.ef rfl rfl (ef_call (tr_fDrop hT (by omega) so) rfl rfl) ?_ ?_
      · rintro _ _ ⟨_, R2, ⟨rfl, hT2⟩, rfl, rfl⟩; infer_instance
      rintro _ _ ⟨_, R2, ⟨rfl, hT2⟩, rfl, rfl⟩
      refine AnyH.app ?_
      skip
      refine AnyH.done (by kernel_rfl) ?_
      refine Ends.seq ?_
      refine Wp.seq ?_
      refine Wp.region ?_
      refine Ops.pv (pv_loadK [_, _, _, _, _, _] rfl rfl rfl ⟨rfl, rfl, rfl, rfl, rfl, rfl, trivial⟩) rfl ?_
      refine Ops.pv (pv_move rfl) rfl ?_
      refine Ops.ef rfl (ef_storeK rfl rfl rfl rfl) ?_
      rintro _ _ ⟨rfl, rfl⟩
      refine Ops.pv (pv_assign rfl) rfl ?_
      refine Ops.nil ?_
      refine Ends.seq ?_
      refine Wp.ret ?_
      have he : mTake p so = ((dtake p.l so).1, (dtake p.l so).2.1, ⟨(dtake p.l so).2.2, (ftDrop p.F so).2⟩) := by unfold mTake; rw [if_pos (by assumption)]
      rw [he]
      exact Ends.ret (L' := cBlk cb sb tb :: (Q2 ++ R2)) (res_list (rs := [.cell 4 24, .tmp 5]) rfl ⟨_, _, rfl, rv_cellK [_, _, _, _, _, _] rfl rfl rfl ⟨rfl, rfl, rfl, rfl, rfl, rfl, trivial⟩, ⟨_, _, rfl, rv_tmp rfl, rfl⟩⟩ rfl) ⟨rfl, sb, tb, Q2, R2, hS2, hT2, rfl⟩
    · refine Wp.skip ?_
      refine Ends.seq ?_
      refine Wp.seq ?_
      refine Wp.region ?_
      refine Ops.pv (pv_loadK [_, _, _, _, _, _] rfl rfl rfl ⟨rfl, rfl, rfl, rfl, rfl, rfl, trivial⟩) rfl ?_
      refine Ops.pv (pv_move rfl) rfl ?_
      refine Ops.ef rfl (ef_storeK rfl rfl rfl rfl) ?_
      rintro _ _ ⟨rfl, rfl⟩
      refine Ops.pv (pv_assign rfl) rfl ?_
      refine Ops.nil ?_
      refine Ends.seq ?_
      refine Wp.ret ?_
      have he : mTake p so = ((dtake p.l so).1, (dtake p.l so).2.1, ⟨(dtake p.l so).2.2, p.F⟩) := by unfold mTake; rw [if_neg (by assumption)]
      rw [he]
      exact Ends.ret (L' := cBlk cb sb tb :: (Q2 ++ Lt)) (res_list (rs := [.cell 4 24, .tmp 5]) rfl ⟨_, _, rfl, rv_cellK [_, _, _, _, _, _] rfl rfl rfl ⟨rfl, rfl, rfl, rfl, rfl, rfl, trivial⟩, ⟨_, _, rfl, rv_tmp rfl, rfl⟩⟩ rfl) ⟨rfl, sb, tb, Q2, Lt, hS2, hT, rfl⟩

set_option maxHeartbeats 4000000 in
theorem tr_mRotate (n cb : Nat) (L : Hp) (p : PS) (hH : CapsH n p cb L) (de vo so : SlotM) : Tr Try.prog 22 [cpP cb, slotV de, slotV vo, slotV so] (L) (fun u L' => u = .int .i64 (mRotate p de vo so).1 ∧ CapsH (n + 0) (mRotate p de vo so).2 cb L') := by
  have hH0 := hH
  obtain ⟨sb, tb, Ls, Lt, hS, hT, rfl⟩ := hH
  refine Tr.enter Try.func22 rfl Try.ntmps22 rfl (fun W F => ?_)
  refine Wp.app ?_
  refine Wp.seq ?_
  refine Wp.region ?_
  refine Ops.ef rfl (ef_boxK rfl rfl) ?_
  rintro _ _ ⟨b1, rfl, rfl⟩
  refine Ops.ef rfl (ef_boxK rfl rfl) ?_
  rintro _ _ ⟨b2, rfl, rfl⟩
  refine Ops.ef rfl (ef_boxK rfl rfl) ?_
  rintro _ _ ⟨b3, rfl, rfl⟩
  refine Ops.pv (pv_assign rfl) rfl ?_
  refine Ops.nil ?_
  refine Ends.seq ?_
  refine Wp.seq ?_
  refine Wp.seq ?_
  refine Wp.region ?_
  refine Ops.pv (pv_loadK [_, _] rfl rfl rfl ⟨rfl, rfl, trivial⟩) rfl ?_
  refine Ops.pv (pv_loadK [_, _] rfl rfl rfl ⟨rfl, rfl, trivial⟩) rfl ?_
  refine Ops.pv (pv_eql_slot rfl rfl) rfl ?_
  refine Ops.pv (pv_move rfl) rfl ?_
  refine Ops.pvcn rfl rfl (fun hg => pv_loadK [_, _] rfl rfl rfl ⟨rfl, rfl, trivial⟩) rfl ?_
  refine Ops.pvcn rfl rfl (fun hg => Pv.setE (t := 17) rfl (cv_pos hg) (pv_loadK [_, _] rfl rfl rfl ⟨rfl, rfl, trivial⟩)) rfl ?_
  refine Ops.pvcn rfl rfl (fun hg => Pv.setE (t := 17) rfl (cv_pos hg) (Pv.setE (t := 18) rfl (cv_pos hg) (pv_eql_slot rfl rfl))) rfl ?_
  refine Ops.pv (pv_pick_or rfl rfl) rfl ?_
  refine Ops.nil ?_
  refine Ends.seq ?_
  first | refine Wp.cond_dect rfl (fun h1 => ?_) (fun h1 => ?_) | refine Wp.cond_t rfl (fun h1 => ?_) (fun h1 => ?_)
  · refine Wp.seq ?_
    refine Wp.region ?_
    refine Ops.pv (pv_assign rfl) rfl ?_
    refine Ops.nil ?_
    refine Ends.seq ?_
    refine Wp.ret ?_
    refine Ends.then_ret ?_
    have he : mRotate p de vo so = (10, p) := by unfold mRotate; rw [if_pos (by assumption)]
    rw [he]
    exact Ends.ret (L' := (cBlk cb sb tb :: (Ls ++ Lt))) (res1 rfl rfl) ⟨rfl, sb, tb, Ls, Lt, hS, hT, rfl⟩
  · refine Wp.skip ?_
    refine Ends.seq ?_
    refine Wp.seq ?_
    refine Wp.region ?_
    refine Ops.pv (pv_move rfl) rfl ?_
    refine Ops.pv (pv_loadK [_, _] rfl rfl rfl ⟨rfl, rfl, trivial⟩) rfl ?_
    refine Ops.ef rfl (ef_callr (tr_mSource n cb (cBlk cb sb tb :: (Ls ++ Lt)) p hH0 vo) rfl rfl) ?_
    rintro _ _ ⟨rfl, rfl⟩
    refine Ops.pv (pv_move rfl) rfl ?_
    refine Ops.pv (pv_extract rfl rfl) rfl ?_
    refine Ops.pv (pv_extract rfl rfl) rfl ?_
    refine Ops.ef rfl (ef_allocK tyZ24 rfl) ?_
    rintro _ _ ⟨b4, rfl, rfl⟩
    refine Ops.ef rfl (ef_storeK rfl rfl rfl rfl) ?_
    rintro _ _ ⟨rfl, rfl⟩
    refine Ops.pv (pv_assign rfl) rfl ?_
    refine Ops.nil ?_
    refine Ends.seq ?_
    refine Wp.seq ?_
    refine Wp.seq ?_
    refine Wp.region ?_
    refine Ops.pv (pv_move rfl) rfl ?_
    refine Ops.pv (pv_neq rfl rfl) rfl ?_
    refine Ops.nil ?_
    refine Ends.seq ?_
    first | refine Wp.cond_dect rfl (fun h2 => ?_) (fun h2 => ?_) | refine Wp.cond_t rfl (fun h2 => ?_) (fun h2 => ?_)
    · refine Wp.seq ?_
      refine Wp.region ?_
      refine Ops.pv (pv_move rfl) rfl ?_
      refine Ops.pv (pv_assign rfl) rfl ?_
      refine Ops.nil ?_
      refine Ends.seq ?_
      refine Wp.ret ?_
      refine Ends.then_ret ?_
      have he : mRotate p de vo so = ((mSource p vo).2, p) := by unfold mRotate; rw [if_neg (by assumption), if_pos (by assumption)]
      rw [he]
      exact Ends.ret (L' := (cBlk cb sb tb :: (Ls ++ Lt))) (res1 rfl rfl) ⟨rfl, sb, tb, Ls, Lt, hS, hT, rfl⟩
    · refine Wp.skip ?_
      refine Ends.seq ?_
      refine Wp.seq ?_
      refine Wp.region ?_
      refine Ops.pv (pv_move rfl) rfl ?_
      refine Ops.pv (pv_loadK [_, _] rfl rfl rfl ⟨rfl, rfl, trivial⟩) rfl ?_
      refine Ops.ef rfl (ef_callr (tr_mSource n cb (cBlk cb sb tb :: (Ls ++ Lt)) p hH0 so) rfl rfl) ?_
      rintro _ _ ⟨rfl, rfl⟩
      refine Ops.pv (pv_move rfl) rfl ?_
      refine Ops.pv (pv_extract rfl rfl) rfl ?_
      refine Ops.pv (pv_extract rfl rfl) rfl ?_
      refine Ops.ef rfl (ef_allocK tyZ24 rfl) ?_
      rintro _ _ ⟨b5, rfl, rfl⟩
      refine Ops.ef rfl (ef_storeK rfl rfl rfl rfl) ?_
      rintro _ _ ⟨rfl, rfl⟩
      refine Ops.pv (pv_assign rfl) rfl ?_
      refine Ops.nil ?_
      refine Ends.seq ?_
      refine Wp.seq ?_
      refine Wp.seq ?_
      refine Wp.region ?_
      refine Ops.pv (pv_move rfl) rfl ?_
      refine Ops.pv (pv_eql rfl rfl) rfl ?_
      refine Ops.pv (pv_move rfl) rfl ?_
      refine Ops.pvc rfl rfl (fun hg => pv_loadK [_, _] rfl rfl rfl ⟨rfl, rfl, trivial⟩) rfl ?_
      refine Ops.pvc rfl rfl (fun hg => Pv.setE (t := 39) rfl (cv_pos hg) (pv_loadK [_, _] rfl rfl rfl ⟨rfl, rfl, trivial⟩)) rfl ?_
      refine Ops.pvc rfl rfl (fun hg => Pv.setE (t := 39) rfl (cv_pos hg) (Pv.setE (t := 40) rfl (cv_pos hg) (pv_neq_slot rfl rfl))) rfl ?_
      refine Ops.pv (pv_pick_and rfl rfl) rfl ?_
      refine Ops.nil ?_
      refine Ends.seq ?_
      first | refine Wp.cond_dect rfl (fun h3 => ?_) (fun h3 => ?_) | refine Wp.cond_t rfl (fun h3 => ?_) (fun h3 => ?_)
      · refine Wp.region ?_
        refine Ops.pv (pv_move rfl) rfl ?_
        refine Ops.pv (pv_loadK [_, _] rfl rfl rfl ⟨rfl, rfl, trivial⟩) rfl ?_
        refine Ops.ef rfl (ef_callr (tr_mPlace n cb (cBlk cb sb tb :: (Ls ++ Lt)) p hH0 de) rfl rfl) ?_
        rintro _ _ ⟨rfl, rfl⟩
        refine Ops.pv (pv_assign rfl) rfl ?_
        refine Ops.nil ?_
        refine Ends.seq ?_
        refine Wp.seq ?_
        refine Wp.seq ?_
        refine Wp.region ?_
        refine Ops.pv (pv_move rfl) rfl ?_
        refine Ops.pv (pv_neq rfl rfl) rfl ?_
        refine Ops.nil ?_
        refine Ends.seq ?_
        first | refine Wp.cond_dect rfl (fun h4 => ?_) (fun h4 => ?_) | refine Wp.cond_t rfl (fun h4 => ?_) (fun h4 => ?_)
        · refine Wp.seq ?_
          refine Wp.region ?_
          refine Ops.pv (pv_move rfl) rfl ?_
          refine Ops.pv (pv_assign rfl) rfl ?_
          refine Ops.nil ?_
          refine Ends.seq ?_
          refine Wp.ret ?_
          refine Ends.then_ret ?_
          have he0 : mRotE p de so = mPlace p de := by unfold mRotE; rw [if_pos (by assumption)]
          have he : mRotate p de vo so = (mRotE p de so, p) := by unfold mRotate; rw [if_neg (by assumption), if_neg (by assumption), if_pos (by rw [he0]; assumption)]
          rw [he, he0]
          exact Ends.ret (L' := (cBlk cb sb tb :: (Ls ++ Lt))) (res1 rfl rfl) ⟨rfl, sb, tb, Ls, Lt, hS, hT, rfl⟩
        · refine Wp.skip ?_
          refine Ends.seq ?_
          refine Wp.seq ?_
          refine Wp.region ?_
          refine Ops.pv (pv_build rfl) rfl ?_
          refine Ops.ef rfl (ef_allocK tyZ38 rfl) ?_
          rintro _ _ ⟨b6, rfl, rfl⟩
          refine Ops.ef rfl (ef_storeK rfl rfl rfl rfl) ?_
          rintro _ _ ⟨rfl, rfl⟩
          refine Ops.nil ?_
          refine Ends.seq ?_
          refine Wp.seq ?_
          refine AnyH.start ((b2, .cells [.int .i64 vo.1, .int .i64 vo.2].toArray 38) :: cBlk cb sb tb :: []) 7 rfl ?_
          refine AnyH.take 0 rfl (by kernel_rfl) (by kernel_rfl) (by kernel_rfl) PF.pf rfl (pv_move rfl) rfl ?_
          first | refine AnyH.take 1 rfl (by kernel_rfl) (by kernel_rfl) (by kernel_rfl) PF.pf rfl (pv_nilCheck rfl) rfl ?_ | refine AnyH.take 1 rfl (by kernel_rfl) (by kernel_rfl) (by kernel_rfl) PF.pf rfl (pv_nilCheck_func rfl rfl) rfl ?_
          first | refine AnyH.take 2 rfl (by kernel_rfl) (by kernel_rfl) (by kernel_rfl) PF.pf rfl (pv_fieldAddr0 rfl rfl) rfl ?_ | refine AnyH.take 2 rfl (by kernel_rfl) (by kernel_rfl) (by kernel_rfl) PF.pf rfl (pv_fieldAddr rfl rfl) rfl ?_
          first | refine AnyH.take 3 rfl (by kernel_rfl) (by kernel_rfl) (by kernel_rfl) PF.pf rfl (pv_fieldAddr0 rfl rfl) rfl ?_ | refine AnyH.take 3 rfl (by kernel_rfl) (by kernel_rfl) (by kernel_rfl) PF.pf rfl (pv_fieldAddr rfl rfl) rfl ?_
          first | refine AnyH.take 4 rfl (by kernel_rfl) (by kernel_rfl) (by kernel_rfl) PF.pf rfl (pv_load rfl rfl rfl) rfl ?_ | refine AnyH.take 4 rfl (by kernel_rfl) (by kernel_rfl) (by kernel_rfl) PF.pf rfl (pv_load rfl rfl (by assumption)) rfl ?_
          refine AnyH.take 5 rfl (by kernel_rfl) (by kernel_rfl) (by kernel_rfl) PF.pf rfl (pv_loadK [_, _] rfl rfl rfl ⟨rfl, rfl, trivial⟩) rfl ?_
          refine AnyH.one 6 (by kernel_rfl) ?_
          refine Turn.ef rfl rfl (ef_call (sf_take hS vo) rfl rfl) ?_ ?_
          · rintro _ _ ⟨_, Q1, ⟨rfl, hS2⟩, rfl, rfl⟩; infer_instance
          rintro _ _ ⟨_, Q1, ⟨rfl, hS2⟩, rfl, rfl⟩
          refine AnyH.app ?_
          skip
          refine AnyH.done (by kernel_rfl) ?_
          refine Ends.seq ?_
          refine Wp.seq ?_
          refine AnyH.start ((b3, .cells [.int .i64 so.1, .int .i64 so.2].toArray 38) :: cBlk cb sb tb :: []) 7 rfl ?_
          refine AnyH.take 0 rfl (by kernel_rfl) (by kernel_rfl) (by kernel_rfl) PF.pf rfl (pv_move rfl) rfl ?_
          first | refine AnyH.take 1 rfl (by kernel_rfl) (by kernel_rfl) (by kernel_rfl) PF.pf rfl (pv_nilCheck rfl) rfl ?_ | refine AnyH.take 1 rfl (by kernel_rfl) (by kernel_rfl) (by kernel_rfl) PF.pf rfl (pv_nilCheck_func rfl rfl) rfl ?_
          first | refine AnyH.take 2 rfl (by kernel_rfl) (by kernel_rfl) (by kernel_rfl) PF.pf rfl (pv_fieldAddr0 rfl rfl) rfl ?_ | refine AnyH.take 2 rfl (by kernel_rfl) (by kernel_rfl) (by kernel_rfl) PF.pf rfl (pv_fieldAddr rfl rfl) rfl ?_
          first | refine AnyH.take 3 rfl (by kernel_rfl) (by kernel_rfl) (by kernel_rfl) PF.pf rfl (pv_fieldAddr0 rfl rfl) rfl ?_ | refine AnyH.take 3 rfl (by kernel_rfl) (by kernel_rfl) (by kernel_rfl) PF.pf rfl (pv_fieldAddr rfl rfl) rfl ?_
          first | refine AnyH.take 4 rfl (by kernel_rfl) (by kernel_rfl) (by kernel_rfl) PF.pf rfl (pv_load rfl rfl rfl) rfl ?_ | refine AnyH.take 4 rfl (by kernel_rfl) (by kernel_rfl) (by kernel_rfl) PF.pf rfl (pv_load rfl rfl (by assumption)) rfl ?_
          refine AnyH.take 5 rfl (by kernel_rfl) (by kernel_rfl) (by kernel_rfl) PF.pf rfl (pv_loadK [_, _] rfl rfl rfl ⟨rfl, rfl, trivial⟩) rfl ?_
          refine AnyH.one 6 (by kernel_rfl) ?_
          refine Turn.ef rfl rfl (ef_call (sf_take hS2 so) rfl rfl) ?_ ?_
          · rintro _ _ ⟨_, Q2, ⟨rfl, hS3⟩, rfl, rfl⟩; infer_instance
          rintro _ _ ⟨_, Q2, ⟨rfl, hS3⟩, rfl, rfl⟩
          refine AnyH.app ?_
          skip
          refine AnyH.done (by kernel_rfl) ?_
          refine Ends.seq ?_
          refine Wp.seq ?_
          refine AnyH.start ((b4, .cells (mSource p vo).1.cells.toArray 24) :: (b1, .cells [.int .i64 de.1, .int .i64 de.2].toArray 38) :: cBlk cb sb tb :: []) 8 rfl ?_
          refine AnyH.take 0 rfl (by kernel_rfl) (by kernel_rfl) (by kernel_rfl) PF.pf rfl (pv_move rfl) rfl ?_
          first | refine AnyH.take 1 rfl (by kernel_rfl) (by kernel_rfl) (by kernel_rfl) PF.pf rfl (pv_nilCheck rfl) rfl ?_ | refine AnyH.take 1 rfl (by kernel_rfl) (by kernel_rfl) (by kernel_rfl) PF.pf rfl (pv_nilCheck_func rfl rfl) rfl ?_
          first | refine AnyH.take 2 rfl (by kernel_rfl) (by kernel_rfl) (by kernel_rfl) PF.pf rfl (pv_fieldAddr0 rfl rfl) rfl ?_ | refine AnyH.take 2 rfl (by kernel_rfl) (by kernel_rfl) (by kernel_rfl) PF.pf rfl (pv_fieldAddr rfl rfl) rfl ?_
          first | refine AnyH.take 3 rfl (by kernel_rfl) (by kernel_rfl) (by kernel_rfl) PF.pf rfl (pv_fieldAddr0 rfl rfl) rfl ?_ | refine AnyH.take 3 rfl (by kernel_rfl) (by kernel_rfl) (by kernel_rfl) PF.pf rfl (pv_fieldAddr rfl rfl) rfl ?_
          first | refine AnyH.take 4 rfl (by kernel_rfl) (by kernel_rfl) (by kernel_rfl) PF.pf rfl (pv_load rfl rfl rfl) rfl ?_ | refine AnyH.take 4 rfl (by kernel_rfl) (by kernel_rfl) (by kernel_rfl) PF.pf rfl (pv_load rfl rfl (by assumption)) rfl ?_
          refine AnyH.take 5 rfl (by kernel_rfl) (by kernel_rfl) (by kernel_rfl) PF.pf rfl (pv_loadK [_, _] rfl rfl rfl ⟨rfl, rfl, trivial⟩) rfl ?_
          refine AnyH.take 6 rfl (by kernel_rfl) (by kernel_rfl) (by kernel_rfl) PF.pf rfl (pv_loadK [_, _, _, _, _, _] rfl rfl rfl ⟨rfl, rfl, rfl, rfl, rfl, rfl, trivial⟩) rfl ?_
          refine AnyH.one 7 (by kernel_rfl) ?_
          refine Turn.ef rfl rfl (ef_call (sf_put hS3 de (mSource p vo).1) rfl rfl) ?_ ?_
          · rintro _ _ ⟨_, Q3, ⟨rfl, hS4⟩, rfl, rfl⟩; infer_instance
          rintro _ _ ⟨_, Q3, ⟨rfl, hS4⟩, rfl, rfl⟩
          refine AnyH.app ?_
          skip
          refine AnyH.done (by kernel_rfl) ?_
          refine Ends.seq ?_
          refine Wp.seq ?_
          refine AnyH.start ((b5, .cells (mSource p so).1.cells.toArray 24) :: (b2, .cells [.int .i64 vo.1, .int .i64 vo.2].toArray 38) :: cBlk cb sb tb :: []) 8 rfl ?_
          refine AnyH.take 0 rfl (by kernel_rfl) (by kernel_rfl) (by kernel_rfl) PF.pf rfl (pv_move rfl) rfl ?_
          first | refine AnyH.take 1 rfl (by kernel_rfl) (by kernel_rfl) (by kernel_rfl) PF.pf rfl (pv_nilCheck rfl) rfl ?_ | refine AnyH.take 1 rfl (by kernel_rfl) (by kernel_rfl) (by kernel_rfl) PF.pf rfl (pv_nilCheck_func rfl rfl) rfl ?_
          first | refine AnyH.take 2 rfl (by kernel_rfl) (by kernel_rfl) (by kernel_rfl) PF.pf rfl (pv_fieldAddr0 rfl rfl) rfl ?_ | refine AnyH.take 2 rfl (by kernel_rfl) (by kernel_rfl) (by kernel_rfl) PF.pf rfl (pv_fieldAddr rfl rfl) rfl ?_
          first | refine AnyH.take 3 rfl (by kernel_rfl) (by kernel_rfl) (by kernel_rfl) PF.pf rfl (pv_fieldAddr0 rfl rfl) rfl ?_ | refine AnyH.take 3 rfl (by kernel_rfl) (by kernel_rfl) (by kernel_rfl) PF.pf rfl (pv_fieldAddr rfl rfl) rfl ?_
          first | refine AnyH.take 4 rfl (by kernel_rfl) (by kernel_rfl) (by kernel_rfl) PF.pf rfl (pv_load rfl rfl rfl) rfl ?_ | refine AnyH.take 4 rfl (by kernel_rfl) (by kernel_rfl) (by kernel_rfl) PF.pf rfl (pv_load rfl rfl (by assumption)) rfl ?_
          refine AnyH.take 5 rfl (by kernel_rfl) (by kernel_rfl) (by kernel_rfl) PF.pf rfl (pv_loadK [_, _] rfl rfl rfl ⟨rfl, rfl, trivial⟩) rfl ?_
          refine AnyH.take 6 rfl (by kernel_rfl) (by kernel_rfl) (by kernel_rfl) PF.pf rfl (pv_loadK [_, _, _, _, _, _] rfl rfl rfl ⟨rfl, rfl, rfl, rfl, rfl, rfl, trivial⟩) rfl ?_
          refine AnyH.one 7 (by kernel_rfl) ?_
          refine Turn.ef rfl rfl (ef_call (sf_put hS4 vo (mSource p so).1) rfl rfl) ?_ ?_
          · rintro _ _ ⟨_, Q4, ⟨rfl, hS5⟩, rfl, rfl⟩; infer_instance
          rintro _ _ ⟨_, Q4, ⟨rfl, hS5⟩, rfl, rfl⟩
          refine AnyH.app ?_
          skip
          refine AnyH.done (by kernel_rfl) ?_
          refine Ends.seq ?_
          refine Wp.seq ?_
          refine AnyH.start ((b6, .cells [.int .i64 (-1), .int .i64 0].toArray 38) :: (b2, .cells [.int .i64 vo.1, .int .i64 vo.2].toArray 38) :: cBlk cb sb tb :: []) 7 rfl ?_
          refine AnyH.take 0 rfl (by kernel_rfl) (by kernel_rfl) (by kernel_rfl) PF.pf rfl (pv_move rfl) rfl ?_
          first | refine AnyH.take 1 rfl (by kernel_rfl) (by kernel_rfl) (by kernel_rfl) PF.pf rfl (pv_nilCheck rfl) rfl ?_ | refine AnyH.take 1 rfl (by kernel_rfl) (by kernel_rfl) (by kernel_rfl) PF.pf rfl (pv_nilCheck_func rfl rfl) rfl ?_
          first | refine AnyH.take 2 rfl (by kernel_rfl) (by kernel_rfl) (by kernel_rfl) PF.pf rfl (pv_fieldAddr0 rfl rfl) rfl ?_ | refine AnyH.take 2 rfl (by kernel_rfl) (by kernel_rfl) (by kernel_rfl) PF.pf rfl (pv_fieldAddr rfl rfl) rfl ?_
          first | refine AnyH.take 3 rfl (by kernel_rfl) (by kernel_rfl) (by kernel_rfl) PF.pf rfl (pv_load rfl rfl rfl) rfl ?_ | refine AnyH.take 3 rfl (by kernel_rfl) (by kernel_rfl) (by kernel_rfl) PF.pf rfl (pv_load rfl rfl (by assumption)) rfl ?_
          refine AnyH.take 4 rfl (by kernel_rfl) (by kernel_rfl) (by kernel_rfl) PF.pf rfl (pv_loadK [_, _] rfl rfl rfl ⟨rfl, rfl, trivial⟩) rfl ?_
          refine AnyH.take 5 rfl (by kernel_rfl) (by kernel_rfl) (by kernel_rfl) PF.pf rfl (pv_loadK [_, _] rfl rfl rfl ⟨rfl, rfl, trivial⟩) rfl ?_
          refine AnyH.one 6 (by kernel_rfl) ?_
          refine Turn.ef rfl rfl (ef_call (tr_fMove hT vo (-1, 0)) rfl rfl) ?_ ?_
          · rintro _ _ ⟨_, R1, ⟨rfl, hT2⟩, rfl, rfl⟩; infer_instance
          rintro _ _ ⟨_, R1, ⟨rfl, hT2⟩, rfl, rfl⟩
          refine AnyH.app ?_
          skip
          refine AnyH.done (by kernel_rfl) ?_
          refine Ends.seq ?_
          refine Wp.seq ?_
          refine AnyH.start ((b2, .cells [.int .i64 vo.1, .int .i64 vo.2].toArray 38) :: (b3, .cells [.int .i64 so.1, .int .i64 so.2].toArray 38) :: cBlk cb sb tb :: []) 7 rfl ?_
          refine AnyH.take 0 rfl (by kernel_rfl) (by kernel_rfl) (by kernel_rfl) PF.pf rfl (pv_move rfl) rfl ?_
          first | refine AnyH.take 1 rfl (by kernel_rfl) (by kernel_rfl) (by kernel_rfl) PF.pf rfl (pv_nilCheck rfl) rfl ?_ | refine AnyH.take 1 rfl (by kernel_rfl) (by kernel_rfl) (by kernel_rfl) PF.pf rfl (pv_nilCheck_func rfl rfl) rfl ?_
          first | refine AnyH.take 2 rfl (by kernel_rfl) (by kernel_rfl) (by kernel_rfl) PF.pf rfl (pv_fieldAddr0 rfl rfl) rfl ?_ | refine AnyH.take 2 rfl (by kernel_rfl) (by kernel_rfl) (by kernel_rfl) PF.pf rfl (pv_fieldAddr rfl rfl) rfl ?_
          first | refine AnyH.take 3 rfl (by kernel_rfl) (by kernel_rfl) (by kernel_rfl) PF.pf rfl (pv_load rfl rfl rfl) rfl ?_ | refine AnyH.take 3 rfl (by kernel_rfl) (by kernel_rfl) (by kernel_rfl) PF.pf rfl (pv_load rfl rfl (by assumption)) rfl ?_
          refine AnyH.take 4 rfl (by kernel_rfl) (by kernel_rfl) (by kernel_rfl) PF.pf rfl (pv_loadK [_, _] rfl rfl rfl ⟨rfl, rfl, trivial⟩) rfl ?_
          refine AnyH.take 5 rfl (by kernel_rfl) (by kernel_rfl) (by kernel_rfl) PF.pf rfl (pv_loadK [_, _] rfl rfl rfl ⟨rfl, rfl, trivial⟩) rfl ?_
          refine AnyH.one 6 (by kernel_rfl) ?_
          refine Turn.ef rfl rfl (ef_call (tr_fMove hT2 so vo) rfl rfl) ?_ ?_
          · rintro _ _ ⟨_, R2, ⟨rfl, hT3⟩, rfl, rfl⟩; infer_instance
          rintro _ _ ⟨_, R2, ⟨rfl, hT3⟩, rfl, rfl⟩
          refine AnyH.app ?_
          skip
          refine AnyH.done (by kernel_rfl) ?_
          refine Ends.seq ?_
          refine Wp.seq ?_
          refine AnyH.start ((b6, .cells [.int .i64 (-1), .int .i64 0].toArray 38) :: (b1, .cells [.int .i64 de.1, .int .i64 de.2].toArray 38) :: cBlk cb sb tb :: []) 7 rfl ?_
          refine AnyH.take 0 rfl (by kernel_rfl) (by kernel_rfl) (by kernel_rfl) PF.pf rfl (pv_move rfl) rfl ?_
          first | refine AnyH.take 1 rfl (by kernel_rfl) (by kernel_rfl) (by kernel_rfl) PF.pf rfl (pv_nilCheck rfl) rfl ?_ | refine AnyH.take 1 rfl (by kernel_rfl) (by kernel_rfl) (by kernel_rfl) PF.pf rfl (pv_nilCheck_func rfl rfl) rfl ?_
          first | refine AnyH.take 2 rfl (by kernel_rfl) (by kernel_rfl) (by kernel_rfl) PF.pf rfl (pv_fieldAddr0 rfl rfl) rfl ?_ | refine AnyH.take 2 rfl (by kernel_rfl) (by kernel_rfl) (by kernel_rfl) PF.pf rfl (pv_fieldAddr rfl rfl) rfl ?_
          first | refine AnyH.take 3 rfl (by kernel_rfl) (by kernel_rfl) (by kernel_rfl) PF.pf rfl (pv_load rfl rfl rfl) rfl ?_ | refine AnyH.take 3 rfl (by kernel_rfl) (by kernel_rfl) (by kernel_rfl) PF.pf rfl (pv_load rfl rfl (by assumption)) rfl ?_
          refine AnyH.take 4 rfl (by kernel_rfl) (by kernel_rfl) (by kernel_rfl) PF.pf rfl (pv_loadK [_, _] rfl rfl rfl ⟨rfl, rfl, trivial⟩) rfl ?_
          refine AnyH.take 5 rfl (by kernel_rfl) (by kernel_rfl) (by kernel_rfl) PF.pf rfl (pv_loadK [_, _] rfl rfl rfl ⟨rfl, rfl, trivial⟩) rfl ?_
          refine AnyH.one 6 (by kernel_rfl) ?_
          refine Turn.ef rfl rfl (ef_call (tr_fMove hT3 (-1, 0) de) rfl rfl) ?_ ?_
          · rintro _ _ ⟨_, R3, ⟨rfl, hT4⟩, rfl, rfl⟩; infer_instance
          rintro _ _ ⟨_, R3, ⟨rfl, hT4⟩, rfl, rfl⟩
          refine AnyH.app ?_
          skip
          refine AnyH.done (by kernel_rfl) ?_
          refine Ends.seq ?_
          refine Wp.seq ?_
          refine Wp.region ?_
          refine Ops.pv (pv_assign rfl) rfl ?_
          refine Ops.nil ?_
          refine Ends.seq ?_
          refine Wp.ret ?_
          have he0 : mRotE p de so = mPlace p de := by unfold mRotE; rw [if_pos (by assumption)]
          have he : mRotate p de vo so = (0, ⟨mRotL p.l de vo so (mSource p vo).1 (mSource p so).1, mRotF p.F de vo so⟩) := by unfold mRotate; rw [if_neg (by assumption), if_neg (by assumption), if_neg (by rw [he0]; assumption)]
          rw [he]
          exact Ends.ret (L' := cBlk cb sb tb :: (Q4 ++ R3)) (res1 rfl rfl) ⟨rfl, sb, tb, Q4, R3, hS5, hT4, rfl⟩
      · refine Wp.skip ?_
        refine Ends.seq ?_
        refine Wp.seq ?_
        refine Wp.seq ?_
        refine Wp.region ?_
        refine Ops.pv (pv_move rfl) rfl ?_
        refine Ops.pv (pv_neq rfl rfl) rfl ?_
        refine Ops.nil ?_
        refine Ends.seq ?_
        first | refine Wp.cond_dect rfl (fun h5 => ?_) (fun h5 => ?_) | refine Wp.cond_t rfl (fun h5 => ?_) (fun h5 => ?_)
        · refine Wp.seq ?_
          refine Wp.region ?_
          refine Ops.pv (pv_move rfl) rfl ?_
          refine Ops.pv (pv_assign rfl) rfl ?_
          refine Ops.nil ?_
          refine Ends.seq ?_
          refine Wp.ret ?_
          refine Ends.then_ret ?_
          have he0 : mRotE p de so = (mSource p so).2 := by unfold mRotE; rw [if_neg (by assumption)]
          have he : mRotate p de vo so = (mRotE p de so, p) := by unfold mRotate; rw [if_neg (by assumption), if_neg (by assumption), if_pos (by rw [he0]; assumption)]
          rw [he, he0]
          exact Ends.ret (L' := (cBlk cb sb tb :: (Ls ++ Lt))) (res1 rfl rfl) ⟨rfl, sb, tb, Ls, Lt, hS, hT, rfl⟩
        · refine Wp.skip ?_
          refine Ends.seq ?_
          refine Wp.seq ?_
          refine Wp.region ?_
          refine Ops.pv (pv_build rfl) rfl ?_
          refine Ops.ef rfl (ef_allocK tyZ38 rfl) ?_
          rintro _ _ ⟨b7, rfl, rfl⟩
          refine Ops.ef rfl (ef_storeK rfl rfl rfl rfl) ?_
          rintro _ _ ⟨rfl, rfl⟩
          refine Ops.nil ?_
          refine Ends.seq ?_
          refine Wp.seq ?_
          refine AnyH.start ((b2, .cells [.int .i64 vo.1, .int .i64 vo.2].toArray 38) :: cBlk cb sb tb :: []) 7 rfl ?_
          refine AnyH.take 0 rfl (by kernel_rfl) (by kernel_rfl) (by kernel_rfl) PF.pf rfl (pv_move rfl) rfl ?_
          first | refine AnyH.take 1 rfl (by kernel_rfl) (by kernel_rfl) (by kernel_rfl) PF.pf rfl (pv_nilCheck rfl) rfl ?_ | refine AnyH.take 1 rfl (by kernel_rfl) (by kernel_rfl) (by kernel_rfl) PF.pf rfl (pv_nilCheck_func rfl rfl) rfl ?_
          first | refine AnyH.take 2 rfl (by kernel_rfl) (by kernel_rfl) (by kernel_rfl) PF.pf rfl (pv_fieldAddr0 rfl rfl) rfl ?_ | refine AnyH.take 2 rfl (by kernel_rfl) (by kernel_rfl) (by kernel_rfl) PF.pf rfl (pv_fieldAddr rfl rfl) rfl ?_
          first | refine AnyH.take 3 rfl (by kernel_rfl) (by kernel_rfl) (by kernel_rfl) PF.pf rfl (pv_fieldAddr0 rfl rfl) rfl ?_ | refine AnyH.take 3 rfl (by kernel_rfl) (by kernel_rfl) (by kernel_rfl) PF.pf rfl (pv_fieldAddr rfl rfl) rfl ?_
          first | refine AnyH.take 4 rfl (by kernel_rfl) (by kernel_rfl) (by kernel_rfl) PF.pf rfl (pv_load rfl rfl rfl) rfl ?_ | refine AnyH.take 4 rfl (by kernel_rfl) (by kernel_rfl) (by kernel_rfl) PF.pf rfl (pv_load rfl rfl (by assumption)) rfl ?_
          refine AnyH.take 5 rfl (by kernel_rfl) (by kernel_rfl) (by kernel_rfl) PF.pf rfl (pv_loadK [_, _] rfl rfl rfl ⟨rfl, rfl, trivial⟩) rfl ?_
          refine AnyH.one 6 (by kernel_rfl) ?_
          refine Turn.ef rfl rfl (ef_call (sf_take hS vo) rfl rfl) ?_ ?_
          · rintro _ _ ⟨_, Q5, ⟨rfl, hS2⟩, rfl, rfl⟩; infer_instance
          rintro _ _ ⟨_, Q5, ⟨rfl, hS2⟩, rfl, rfl⟩
          refine AnyH.app ?_
          skip
          refine AnyH.done (by kernel_rfl) ?_
          refine Ends.seq ?_
          refine Wp.seq ?_
          refine AnyH.start ((b3, .cells [.int .i64 so.1, .int .i64 so.2].toArray 38) :: cBlk cb sb tb :: []) 7 rfl ?_
          refine AnyH.take 0 rfl (by kernel_rfl) (by kernel_rfl) (by kernel_rfl) PF.pf rfl (pv_move rfl) rfl ?_
          first | refine AnyH.take 1 rfl (by kernel_rfl) (by kernel_rfl) (by kernel_rfl) PF.pf rfl (pv_nilCheck rfl) rfl ?_ | refine AnyH.take 1 rfl (by kernel_rfl) (by kernel_rfl) (by kernel_rfl) PF.pf rfl (pv_nilCheck_func rfl rfl) rfl ?_
          first | refine AnyH.take 2 rfl (by kernel_rfl) (by kernel_rfl) (by kernel_rfl) PF.pf rfl (pv_fieldAddr0 rfl rfl) rfl ?_ | refine AnyH.take 2 rfl (by kernel_rfl) (by kernel_rfl) (by kernel_rfl) PF.pf rfl (pv_fieldAddr rfl rfl) rfl ?_
          first | refine AnyH.take 3 rfl (by kernel_rfl) (by kernel_rfl) (by kernel_rfl) PF.pf rfl (pv_fieldAddr0 rfl rfl) rfl ?_ | refine AnyH.take 3 rfl (by kernel_rfl) (by kernel_rfl) (by kernel_rfl) PF.pf rfl (pv_fieldAddr rfl rfl) rfl ?_
          first | refine AnyH.take 4 rfl (by kernel_rfl) (by kernel_rfl) (by kernel_rfl) PF.pf rfl (pv_load rfl rfl rfl) rfl ?_ | refine AnyH.take 4 rfl (by kernel_rfl) (by kernel_rfl) (by kernel_rfl) PF.pf rfl (pv_load rfl rfl (by assumption)) rfl ?_
          refine AnyH.take 5 rfl (by kernel_rfl) (by kernel_rfl) (by kernel_rfl) PF.pf rfl (pv_loadK [_, _] rfl rfl rfl ⟨rfl, rfl, trivial⟩) rfl ?_
          refine AnyH.one 6 (by kernel_rfl) ?_
          refine Turn.ef rfl rfl (ef_call (sf_take hS2 so) rfl rfl) ?_ ?_
          · rintro _ _ ⟨_, Q6, ⟨rfl, hS3⟩, rfl, rfl⟩; infer_instance
          rintro _ _ ⟨_, Q6, ⟨rfl, hS3⟩, rfl, rfl⟩
          refine AnyH.app ?_
          skip
          refine AnyH.done (by kernel_rfl) ?_
          refine Ends.seq ?_
          refine Wp.seq ?_
          refine AnyH.start ((b4, .cells (mSource p vo).1.cells.toArray 24) :: (b1, .cells [.int .i64 de.1, .int .i64 de.2].toArray 38) :: cBlk cb sb tb :: []) 8 rfl ?_
          refine AnyH.take 0 rfl (by kernel_rfl) (by kernel_rfl) (by kernel_rfl) PF.pf rfl (pv_move rfl) rfl ?_
          first | refine AnyH.take 1 rfl (by kernel_rfl) (by kernel_rfl) (by kernel_rfl) PF.pf rfl (pv_nilCheck rfl) rfl ?_ | refine AnyH.take 1 rfl (by kernel_rfl) (by kernel_rfl) (by kernel_rfl) PF.pf rfl (pv_nilCheck_func rfl rfl) rfl ?_
          first | refine AnyH.take 2 rfl (by kernel_rfl) (by kernel_rfl) (by kernel_rfl) PF.pf rfl (pv_fieldAddr0 rfl rfl) rfl ?_ | refine AnyH.take 2 rfl (by kernel_rfl) (by kernel_rfl) (by kernel_rfl) PF.pf rfl (pv_fieldAddr rfl rfl) rfl ?_
          first | refine AnyH.take 3 rfl (by kernel_rfl) (by kernel_rfl) (by kernel_rfl) PF.pf rfl (pv_fieldAddr0 rfl rfl) rfl ?_ | refine AnyH.take 3 rfl (by kernel_rfl) (by kernel_rfl) (by kernel_rfl) PF.pf rfl (pv_fieldAddr rfl rfl) rfl ?_
          first | refine AnyH.take 4 rfl (by kernel_rfl) (by kernel_rfl) (by kernel_rfl) PF.pf rfl (pv_load rfl rfl rfl) rfl ?_ | refine AnyH.take 4 rfl (by kernel_rfl) (by kernel_rfl) (by kernel_rfl) PF.pf rfl (pv_load rfl rfl (by assumption)) rfl ?_
          refine AnyH.take 5 rfl (by kernel_rfl) (by kernel_rfl) (by kernel_rfl) PF.pf rfl (pv_loadK [_, _] rfl rfl rfl ⟨rfl, rfl, trivial⟩) rfl ?_
          refine AnyH.take 6 rfl (by kernel_rfl) (by kernel_rfl) (by kernel_rfl) PF.pf rfl (pv_loadK [_, _, _, _, _, _] rfl rfl rfl ⟨rfl, rfl, rfl, rfl, rfl, rfl, trivial⟩) rfl ?_
          refine AnyH.one 7 (by kernel_rfl) ?_
          refine Turn.ef rfl rfl (ef_call (sf_put hS3 de (mSource p vo).1) rfl rfl) ?_ ?_
          · rintro _ _ ⟨_, Q7, ⟨rfl, hS4⟩, rfl, rfl⟩; infer_instance
          rintro _ _ ⟨_, Q7, ⟨rfl, hS4⟩, rfl, rfl⟩
          refine AnyH.app ?_
          skip
          refine AnyH.done (by kernel_rfl) ?_
          refine Ends.seq ?_
          refine Wp.seq ?_
          refine AnyH.start ((b5, .cells (mSource p so).1.cells.toArray 24) :: (b2, .cells [.int .i64 vo.1, .int .i64 vo.2].toArray 38) :: cBlk cb sb tb :: []) 8 rfl ?_
          refine AnyH.take 0 rfl (by kernel_rfl) (by kernel_rfl) (by kernel_rfl) PF.pf rfl (pv_move rfl) rfl ?_
          first | refine AnyH.take 1 rfl (by kernel_rfl) (by kernel_rfl) (by kernel_rfl) PF.pf rfl (pv_nilCheck rfl) rfl ?_ | refine AnyH.take 1 rfl (by kernel_rfl) (by kernel_rfl) (by kernel_rfl) PF.pf rfl (pv_nilCheck_func rfl rfl) rfl ?_
          first | refine AnyH.take 2 rfl (by kernel_rfl) (by kernel_rfl) (by kernel_rfl) PF.pf rfl (pv_fieldAddr0 rfl rfl) rfl ?_ | refine AnyH.take 2 rfl (by kernel_rfl) (by kernel_rfl) (by kernel_rfl) PF.pf rfl (pv_fieldAddr rfl rfl) rfl ?_
          first | refine AnyH.take 3 rfl (by kernel_rfl) (by kernel_rfl) (by kernel_rfl) PF.pf rfl (pv_fieldAddr0 rfl rfl) rfl ?_ | refine AnyH.take 3 rfl (by kernel_rfl) (by kernel_rfl) (by kernel_rfl) PF.pf rfl (pv_fieldAddr rfl rfl) rfl ?_
          first | refine AnyH.take 4 rfl (by kernel_rfl) (by kernel_rfl) (by kernel_rfl) PF.pf rfl (pv_load rfl rfl rfl) rfl ?_ | refine AnyH.take 4 rfl (by kernel_rfl) (by kernel_rfl) (by kernel_rfl) PF.pf rfl (pv_load rfl rfl (by assumption)) rfl ?_
          refine AnyH.take 5 rfl (by kernel_rfl) (by kernel_rfl) (by kernel_rfl) PF.pf rfl (pv_loadK [_, _] rfl rfl rfl ⟨rfl, rfl, trivial⟩) rfl ?_
          refine AnyH.take 6 rfl (by kernel_rfl) (by kernel_rfl) (by kernel_rfl) PF.pf rfl (pv_loadK [_, _, _, _, _, _] rfl rfl rfl ⟨rfl, rfl, rfl, rfl, rfl, rfl, trivial⟩) rfl ?_
          refine AnyH.one 7 (by kernel_rfl) ?_
          refine Turn.ef rfl rfl (ef_call (sf_put hS4 vo (mSource p so).1) rfl rfl) ?_ ?_
          · rintro _ _ ⟨_, Q8, ⟨rfl, hS5⟩, rfl, rfl⟩; infer_instance
          rintro _ _ ⟨_, Q8, ⟨rfl, hS5⟩, rfl, rfl⟩
          refine AnyH.app ?_
          skip
          refine AnyH.done (by kernel_rfl) ?_
          refine Ends.seq ?_
          refine Wp.seq ?_
          refine AnyH.start ((b7, .cells [.int .i64 (-1), .int .i64 0].toArray 38) :: (b2, .cells [.int .i64 vo.1, .int .i64 vo.2].toArray 38) :: cBlk cb sb tb :: []) 7 rfl ?_
          refine AnyH.take 0 rfl (by kernel_rfl) (by kernel_rfl) (by kernel_rfl) PF.pf rfl (pv_move rfl) rfl ?_
          first | refine AnyH.take 1 rfl (by kernel_rfl) (by kernel_rfl) (by kernel_rfl) PF.pf rfl (pv_nilCheck rfl) rfl ?_ | refine AnyH.take 1 rfl (by kernel_rfl) (by kernel_rfl) (by kernel_rfl) PF.pf rfl (pv_nilCheck_func rfl rfl) rfl ?_
          first | refine AnyH.take 2 rfl (by kernel_rfl) (by kernel_rfl) (by kernel_rfl) PF.pf rfl (pv_fieldAddr0 rfl rfl) rfl ?_ | refine AnyH.take 2 rfl (by kernel_rfl) (by kernel_rfl) (by kernel_rfl) PF.pf rfl (pv_fieldAddr rfl rfl) rfl ?_
          first | refine AnyH.take 3 rfl (by kernel_rfl) (by kernel_rfl) (by kernel_rfl) PF.pf rfl (pv_load rfl rfl rfl) rfl ?_ | refine AnyH.take 3 rfl (by kernel_rfl) (by kernel_rfl) (by kernel_rfl) PF.pf rfl (pv_load rfl rfl (by assumption)) rfl ?_
          refine AnyH.take 4 rfl (by kernel_rfl) (by kernel_rfl) (by kernel_rfl) PF.pf rfl (pv_loadK [_, _] rfl rfl rfl ⟨rfl, rfl, trivial⟩) rfl ?_
          refine AnyH.take 5 rfl (by kernel_rfl) (by kernel_rfl) (by kernel_rfl) PF.pf rfl (pv_loadK [_, _] rfl rfl rfl ⟨rfl, rfl, trivial⟩) rfl ?_
          refine AnyH.one 6 (by kernel_rfl) ?_
          refine Turn.ef rfl rfl (ef_call (tr_fMove hT vo (-1, 0)) rfl rfl) ?_ ?_
          · rintro _ _ ⟨_, R4, ⟨rfl, hT2⟩, rfl, rfl⟩; infer_instance
          rintro _ _ ⟨_, R4, ⟨rfl, hT2⟩, rfl, rfl⟩
          refine AnyH.app ?_
          skip
          refine AnyH.done (by kernel_rfl) ?_
          refine Ends.seq ?_
          refine Wp.seq ?_
          refine AnyH.start ((b2, .cells [.int .i64 vo.1, .int .i64 vo.2].toArray 38) :: (b3, .cells [.int .i64 so.1, .int .i64 so.2].toArray 38) :: cBlk cb sb tb :: []) 7 rfl ?_
          refine AnyH.take 0 rfl (by kernel_rfl) (by kernel_rfl) (by kernel_rfl) PF.pf rfl (pv_move rfl) rfl ?_
          first | refine AnyH.take 1 rfl (by kernel_rfl) (by kernel_rfl) (by kernel_rfl) PF.pf rfl (pv_nilCheck rfl) rfl ?_ | refine AnyH.take 1 rfl (by kernel_rfl) (by kernel_rfl) (by kernel_rfl) PF.pf rfl (pv_nilCheck_func rfl rfl) rfl ?_
          first | refine AnyH.take 2 rfl (by kernel_rfl) (by kernel_rfl) (by kernel_rfl) PF.pf rfl (pv_fieldAddr0 rfl rfl) rfl ?_ | refine AnyH.take 2 rfl (by kernel_rfl) (by kernel_rfl) (by kernel_rfl) PF.pf rfl (pv_fieldAddr rfl rfl) rfl ?_
          first | refine AnyH.take 3 rfl (by kernel_rfl) (by kernel_rfl) (by kernel_rfl) PF.pf rfl (pv_load rfl rfl rfl) rfl ?_ | refine AnyH.take 3 rfl (by kernel_rfl) (by kernel_rfl) (by kernel_rfl) PF.pf rfl (pv_load rfl rfl (by assumption)) rfl ?_
          refine AnyH.take 4 rfl (by kernel_rfl) (by kernel_rfl) (by kernel_rfl) PF.pf rfl (pv_loadK [_, _] rfl rfl rfl ⟨rfl, rfl, trivial⟩) rfl ?_
          refine AnyH.take 5 rfl (by kernel_rfl) (by kernel_rfl) (by kernel_rfl) PF.pf rfl (pv_loadK [_, _] rfl rfl rfl ⟨rfl, rfl, trivial⟩) rfl ?_
          refine AnyH.one 6 (by kernel_rfl) ?_
          refine Turn.ef rfl rfl (ef_call (tr_fMove hT2 so vo) rfl rfl) ?_ ?_
          · rintro _ _ ⟨_, R5, ⟨rfl, hT3⟩, rfl, rfl⟩; infer_instance
          rintro _ _ ⟨_, R5, ⟨rfl, hT3⟩, rfl, rfl⟩
          refine AnyH.app ?_
          skip
          refine AnyH.done (by kernel_rfl) ?_
          refine Ends.seq ?_
          refine Wp.seq ?_
          refine AnyH.start ((b7, .cells [.int .i64 (-1), .int .i64 0].toArray 38) :: (b1, .cells [.int .i64 de.1, .int .i64 de.2].toArray 38) :: cBlk cb sb tb :: []) 7 rfl ?_
          refine AnyH.take 0 rfl (by kernel_rfl) (by kernel_rfl) (by kernel_rfl) PF.pf rfl (pv_move rfl) rfl ?_
          first | refine AnyH.take 1 rfl (by kernel_rfl) (by kernel_rfl) (by kernel_rfl) PF.pf rfl (pv_nilCheck rfl) rfl ?_ | refine AnyH.take 1 rfl (by kernel_rfl) (by kernel_rfl) (by kernel_rfl) PF.pf rfl (pv_nilCheck_func rfl rfl) rfl ?_
          first | refine AnyH.take 2 rfl (by kernel_rfl) (by kernel_rfl) (by kernel_rfl) PF.pf rfl (pv_fieldAddr0 rfl rfl) rfl ?_ | refine AnyH.take 2 rfl (by kernel_rfl) (by kernel_rfl) (by kernel_rfl) PF.pf rfl (pv_fieldAddr rfl rfl) rfl ?_
          first | refine AnyH.take 3 rfl (by kernel_rfl) (by kernel_rfl) (by kernel_rfl) PF.pf rfl (pv_load rfl rfl rfl) rfl ?_ | refine AnyH.take 3 rfl (by kernel_rfl) (by kernel_rfl) (by kernel_rfl) PF.pf rfl (pv_load rfl rfl (by assumption)) rfl ?_
          refine AnyH.take 4 rfl (by kernel_rfl) (by kernel_rfl) (by kernel_rfl) PF.pf rfl (pv_loadK [_, _] rfl rfl rfl ⟨rfl, rfl, trivial⟩) rfl ?_
          refine AnyH.take 5 rfl (by kernel_rfl) (by kernel_rfl) (by kernel_rfl) PF.pf rfl (pv_loadK [_, _] rfl rfl rfl ⟨rfl, rfl, trivial⟩) rfl ?_
          refine AnyH.one 6 (by kernel_rfl) ?_
          refine Turn.ef rfl rfl (ef_call (tr_fMove hT3 (-1, 0) de) rfl rfl) ?_ ?_
          · rintro _ _ ⟨_, R6, ⟨rfl, hT4⟩, rfl, rfl⟩; infer_instance
          rintro _ _ ⟨_, R6, ⟨rfl, hT4⟩, rfl, rfl⟩
          refine AnyH.app ?_
          skip
          refine AnyH.done (by kernel_rfl) ?_
          refine Ends.seq ?_
          refine Wp.seq ?_
          refine Wp.region ?_
          refine Ops.pv (pv_assign rfl) rfl ?_
          refine Ops.nil ?_
          refine Ends.seq ?_
          refine Wp.ret ?_
          have he0 : mRotE p de so = (mSource p so).2 := by unfold mRotE; rw [if_neg (by assumption)]
          have he : mRotate p de vo so = (0, ⟨mRotL p.l de vo so (mSource p vo).1 (mSource p so).1, mRotF p.F de vo so⟩) := by unfold mRotate; rw [if_neg (by assumption), if_neg (by assumption), if_neg (by rw [he0]; assumption)]
          rw [he]
          exact Ends.ret (L' := cBlk cb sb tb :: (Q8 ++ R6)) (res1 rfl rfl) ⟨rfl, sb, tb, Q8, R6, hS5, hT4, rfl⟩

end Go.Proofs.Ytdodfnjmkpgdbaa
