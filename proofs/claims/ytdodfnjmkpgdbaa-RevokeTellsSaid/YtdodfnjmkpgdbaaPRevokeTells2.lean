/- RevokeTells. Laid together by pack.py out of the texts in wip. -/
import Derived.Test.YtdodfnjmkpgdbaaPRevokeTells1
set_option linter.unusedVariables false
set_option linter.unusedSimpArgs false
set_option linter.unusedSectionVars false
section
set_option linter.unusedVariables false
set_option linter.unusedSimpArgs false
namespace Go.Proofs.Ytdodfnjmkpgdbaa
open Go.SL
theorem tr_rightsOk (r : Int) : TrR Try.prog 75 [.int .i64 r] ([]) (.bool (rightsOk r)) := by
 refine Tr.enter Try.func75 rfl Try.ntmps75 rfl (fun W F => ?_)
 refine Wp.app ?_
 refine Wp.seq ?_
 refine Wp.region ?_
 refine Ops.pv (pv_assign rfl) rfl ?_
 refine Ops.nil ?_
 refine Ends.seq ?_
 refine Wp.seq ?_
 refine Wp.region ?_
 refine Ops.pv (pv_move rfl) rfl ?_
 refine Ops.pv (pv_andNot rfl rfl rfl) rfl ?_
 refine Ops.pv (pv_eql rfl rfl) rfl ?_
 refine Ops.pv (pv_assign rfl) rfl ?_
 refine Ops.nil ?_
 refine Ends.seq ?_
 refine Wp.ret ?_
 exact Ends.ret (res1 rfl rfl) ⟨rfl, rfl⟩
theorem tr_fits (gd n : Int) : TrR Try.prog 77 [.int .u64 gd, .int .i64 n] ([]) (.bool (fitsM gd n)) := by
 refine Tr.enter Try.func77 rfl Try.ntmps77 rfl (fun W F => ?_)
 refine Wp.app ?_
 refine Wp.seq ?_
 refine Wp.region ?_
 refine Ops.pv (pv_assign rfl) rfl ?_
 refine Ops.nil ?_
 refine Ends.seq ?_
 refine Wp.seq ?_
 refine Wp.region ?_
 refine Ops.pv (pv_move rfl) rfl ?_
 refine Ops.pv (pv_geq rfl rfl) rfl ?_
 refine Ops.pv (pv_move rfl) rfl ?_
 refine Ops.split (t := 7) rfl (fun h1 => ?_) (fun h1 => ?_)
 ·
  refine Ops.pvg ⟨_, _, rfl, rfl, rfl⟩ (pv_move rfl) rfl ?_
  refine Ops.pvg ⟨_, _, rfl, rfl, rfl⟩ (pv_leq rfl rfl) rfl ?_
  refine Ops.pv (pv_pick_true rfl rfl) rfl ?_
  refine Ops.pv (pv_move rfl) rfl ?_
  refine Ops.split (t := 11) rfl (fun h2 => ?_) (fun h2 => ?_)
  ·
   refine Ops.pvg ⟨_, _, rfl, rfl, rfl⟩ (pv_move rfl) rfl ?_
   refine Ops.pvg ⟨_, _, rfl, rfl, rfl⟩ (pv_move rfl) rfl ?_
   refine Ops.pvg ⟨_, _, rfl, rfl, rfl⟩ (pv_shr rfl rfl (by omega) rfl) rfl ?_
   refine Ops.pvg ⟨_, _, rfl, rfl, rfl⟩ (pv_eql rfl rfl) rfl ?_
   refine Ops.pv (pv_pick_true rfl rfl) rfl ?_
   refine Ops.pv (pv_assign rfl) rfl ?_
   refine Ops.nil ?_
   refine Ends.seq ?_
   refine Wp.ret ?_
   exact Ends.ret (res1 rfl rfl) ⟨by simp [fitsM, IntKind.bits, *] <;> rfl, rfl⟩
  refine Ops.skipg ⟨_, _, rfl, rfl, rfl⟩ rfl ?_
  refine Ops.skipg ⟨_, _, rfl, rfl, rfl⟩ rfl ?_
  refine Ops.skipg ⟨_, _, rfl, rfl, rfl⟩ rfl ?_
  refine Ops.skipg ⟨_, _, rfl, rfl, rfl⟩ rfl ?_
  refine Ops.pv (pv_pick_false rfl rfl) rfl ?_
  refine Ops.pv (pv_assign rfl) rfl ?_
  refine Ops.nil ?_
  refine Ends.seq ?_
  refine Wp.ret ?_
  exact Ends.ret (res1 rfl rfl) ⟨by simp [fitsM, IntKind.bits, *] <;> rfl, rfl⟩
 refine Ops.skipg ⟨_, _, rfl, rfl, rfl⟩ rfl ?_
 refine Ops.skipg ⟨_, _, rfl, rfl, rfl⟩ rfl ?_
 refine Ops.pv (pv_pick_false rfl rfl) rfl ?_
 refine Ops.pv (pv_move rfl) rfl ?_
 refine Ops.skipg ⟨_, _, rfl, rfl, rfl⟩ rfl ?_
 refine Ops.skipg ⟨_, _, rfl, rfl, rfl⟩ rfl ?_
 refine Ops.skipg ⟨_, _, rfl, rfl, rfl⟩ rfl ?_
 refine Ops.skipg ⟨_, _, rfl, rfl, rfl⟩ rfl ?_
 refine Ops.pv (pv_pick_false rfl rfl) rfl ?_
 refine Ops.pv (pv_assign rfl) rfl ?_
 refine Ops.nil ?_
 refine Ends.seq ?_
 refine Wp.ret ?_
 exact Ends.ret (res1 rfl rfl) ⟨by simp [fitsM, IntKind.bits, *] <;> rfl, rfl⟩
theorem tr_plain (c : CapM) : TrR Try.prog 88 [c.v] ([]) ((plainM c).v) := by
 refine Tr.enter Try.func88 rfl Try.ntmps88 rfl (fun W F => ?_)
 refine Wp.app ?_
 refine Wp.seq ?_
 refine Wp.region ?_
 refine Ops.ef rfl (ef_boxK rfl rfl) ?_
 rintro _ _ ⟨b1, rfl, rfl⟩
 refine Ops.ef rfl (ef_allocK tyZ24 rfl) ?_
 rintro _ _ ⟨b2, rfl, rfl⟩
 refine Ops.nil ?_
 refine Ends.seq ?_
 refine Wp.seq ?_
 refine Wp.region ?_
 refine Ops.pv (pv_fieldAddr0 rfl rfl) rfl ?_
 refine Ops.pv (pv_load rfl rfl rfl) rfl ?_
 refine Ops.pv (pv_build rfl) rfl ?_
 refine Ops.ef rfl (ef_allocK tyZ24 rfl) ?_
 rintro _ _ ⟨b3, rfl, rfl⟩
 refine Ops.ef rfl (ef_storeK rfl rfl rfl rfl) ?_
 rintro _ _ ⟨rfl, rfl⟩
 refine Ops.nil ?_
 refine Ends.seq ?_
 refine Wp.seq ?_
 refine Wp.seq ?_
 refine Wp.region ?_
 refine Ops.pv (pv_fieldAddr0 rfl rfl) rfl ?_
 refine Ops.pv (pv_load rfl rfl rfl) rfl ?_
 refine Ops.nil ?_
 refine Ends.seq ?_
 refine Wp.block ?_
 refine Wp.seq ?_
 refine Wp.seq ?_
 refine Wp.region ?_
 refine Ops.pv (pv_eql rfl rfl) rfl ?_
 refine Ops.pv (pv_assign rfl) rfl ?_
 refine Ops.nil ?_
 refine Ends.seq ?_
 refine Wp.cond_dect rfl (fun h1 => ?_) (fun h1 => ?_)
 ·
  refine Wp.skip ?_
  refine Ends.seq ?_
  refine Wp.cond_true rfl ?_
  refine Wp.skip ?_
  refine Ends.block_normal ?_
  refine Ends.seq ?_
  refine Wp.seq ?_
  refine Wp.region ?_
  refine Ops.pv (pv_loadK [_, _, _, _, _, _] rfl rfl rfl ⟨rfl, rfl, rfl, rfl, rfl, rfl, trivial⟩) rfl ?_
  refine Ops.ef rfl (ef_storeK rfl rfl rfl rfl) ?_
  rintro _ _ ⟨rfl, rfl⟩
  refine Ops.nil ?_
  refine Ends.seq ?_
  refine Wp.ret ?_
  exact Ends.ret (res_one rfl (rv_cellK [_, _, _, _, _, _] rfl rfl rfl ⟨rfl, rfl, rfl, rfl, rfl, rfl, trivial⟩)) ⟨by simp [plainM, *], rfl⟩
 refine Wp.region ?_
 refine Ops.pv (pv_eql rfl rfl) rfl ?_
 refine Ops.pv (pv_assign rfl) rfl ?_
 refine Ops.nil ?_
 refine Ends.seq ?_
 refine Wp.cond_dect rfl (fun h2 => ?_) (fun h2 => ?_)
 ·
  refine Wp.skip ?_
  refine Ends.block_normal ?_
  refine Ends.seq ?_
  refine Wp.seq ?_
  refine Wp.region ?_
  refine Ops.pv (pv_loadK [_, _, _, _, _, _] rfl rfl rfl ⟨rfl, rfl, rfl, rfl, rfl, rfl, trivial⟩) rfl ?_
  refine Ops.ef rfl (ef_storeK rfl rfl rfl rfl) ?_
  rintro _ _ ⟨rfl, rfl⟩
  refine Ops.nil ?_
  refine Ends.seq ?_
  refine Wp.ret ?_
  exact Ends.ret (res_one rfl (rv_cellK [_, _, _, _, _, _] rfl rfl rfl ⟨rfl, rfl, rfl, rfl, rfl, rfl, trivial⟩)) ⟨by simp [plainM, *], rfl⟩
 refine Wp.seq ?_
 refine Wp.seq ?_
 refine Wp.region ?_
 refine Ops.pv (pv_eql rfl rfl) rfl ?_
 refine Ops.pv (pv_assign rfl) rfl ?_
 refine Ops.nil ?_
 refine Ends.seq ?_
 refine Wp.cond_dect rfl (fun h3 => ?_) (fun h3 => ?_)
 ·
  refine Wp.skip ?_
  refine Ends.seq ?_
  refine Wp.cond_true rfl ?_
  refine AnyH.start [(b1, .cells c.cells.toArray 24)] 12 rfl ?_
  refine Tk 0 rfl rfl (pv_fieldAddr0 rfl rfl) rfl ?_
  refine Tk 1 rfl rfl (pv_load rfl rfl rfl) rfl ?_
  refine Tk 2 rfl rfl (pv_fieldAddr0 rfl rfl) rfl ?_
  refine Tk 3 rfl rfl (pv_load rfl rfl rfl) rfl ?_
  refine Tk 4 rfl rfl (pv_fieldAddr0 rfl rfl) rfl ?_
  refine Tk 5 rfl rfl (pv_load rfl rfl rfl) rfl ?_
  refine Tk 6 rfl rfl (pv_fieldAddr0 rfl rfl) rfl ?_
  refine AnyH.one 7 (by kernel_rfl) ?_
  refine Turn.ef rfl rfl (ef_store1 rfl rfl (by first | rfl | assumption) (by first | rfl | assumption)) ?_ ?_
  ·
   rintro _ _ ⟨rfl, rfl⟩; infer_instance
  rintro _ _ ⟨rfl, rfl⟩
  refine Tk 8 rfl rfl (pv_fieldAddr0 rfl rfl) rfl ?_
  refine AnyH.one 9 (by kernel_rfl) ?_
  refine Turn.ef rfl rfl (ef_store1 rfl rfl (by first | rfl | assumption) (by first | rfl | assumption)) ?_ ?_
  ·
   rintro _ _ ⟨rfl, rfl⟩; infer_instance
  rintro _ _ ⟨rfl, rfl⟩
  refine Tk 10 rfl rfl (pv_fieldAddr0 rfl rfl) rfl ?_
  refine AnyH.one 11 (by kernel_rfl) ?_
  refine Turn.ef rfl rfl (ef_store1 rfl rfl (by first | rfl | assumption) (by first | rfl | assumption)) ?_ ?_
  ·
   rintro _ _ ⟨rfl, rfl⟩; infer_instance
  rintro _ _ ⟨rfl, rfl⟩
  refine AnyH.done (by kernel_rfl) ?_
  refine Ends.block_normal ?_
  refine Ends.seq ?_
  refine Wp.seq ?_
  refine Wp.region ?_
  refine Ops.pv (pv_loadK [_, _, _, _, _, _] rfl rfl rfl ⟨rfl, rfl, rfl, rfl, rfl, rfl, trivial⟩) rfl ?_
  refine Ops.ef rfl (ef_storeK rfl rfl rfl rfl) ?_
  rintro _ _ ⟨rfl, rfl⟩
  refine Ops.nil ?_
  refine Ends.seq ?_
  refine Wp.ret ?_
  exact Ends.ret (res_one rfl (rv_cellK [_, _, _, _, _, _] rfl rfl rfl ⟨rfl, rfl, rfl, rfl, rfl, rfl, trivial⟩)) ⟨by simp [plainM, *], rfl⟩
 refine Wp.region ?_
 refine Ops.pv (pv_eql rfl rfl) rfl ?_
 refine Ops.pv (pv_assign rfl) rfl ?_
 refine Ops.nil ?_
 refine Ends.seq ?_
 refine Wp.cond_dect rfl (fun h4 => ?_) (fun h4 => ?_)
 ·
  refine AnyH.start [(b1, .cells c.cells.toArray 24)] 12 rfl ?_
  refine Tk 0 rfl rfl (pv_fieldAddr0 rfl rfl) rfl ?_
  refine Tk 1 rfl rfl (pv_load rfl rfl rfl) rfl ?_
  refine Tk 2 rfl rfl (pv_fieldAddr0 rfl rfl) rfl ?_
  refine Tk 3 rfl rfl (pv_load rfl rfl rfl) rfl ?_
  refine Tk 4 rfl rfl (pv_fieldAddr0 rfl rfl) rfl ?_
  refine Tk 5 rfl rfl (pv_load rfl rfl rfl) rfl ?_
  refine Tk 6 rfl rfl (pv_fieldAddr0 rfl rfl) rfl ?_
  refine AnyH.one 7 (by kernel_rfl) ?_
  refine Turn.ef rfl rfl (ef_store1 rfl rfl (by first | rfl | assumption) (by first | rfl | assumption)) ?_ ?_
  ·
   rintro _ _ ⟨rfl, rfl⟩; infer_instance
  rintro _ _ ⟨rfl, rfl⟩
  refine Tk 8 rfl rfl (pv_fieldAddr0 rfl rfl) rfl ?_
  refine AnyH.one 9 (by kernel_rfl) ?_
  refine Turn.ef rfl rfl (ef_store1 rfl rfl (by first | rfl | assumption) (by first | rfl | assumption)) ?_ ?_
  ·
   rintro _ _ ⟨rfl, rfl⟩; infer_instance
  rintro _ _ ⟨rfl, rfl⟩
  refine Tk 10 rfl rfl (pv_fieldAddr0 rfl rfl) rfl ?_
  refine AnyH.one 11 (by kernel_rfl) ?_
  refine Turn.ef rfl rfl (ef_store1 rfl rfl (by first | rfl | assumption) (by first | rfl | assumption)) ?_ ?_
  ·
   rintro _ _ ⟨rfl, rfl⟩; infer_instance
  rintro _ _ ⟨rfl, rfl⟩
  refine AnyH.done (by kernel_rfl) ?_
  refine Ends.block_normal ?_
  refine Ends.seq ?_
  refine Wp.seq ?_
  refine Wp.region ?_
  refine Ops.pv (pv_loadK [_, _, _, _, _, _] rfl rfl rfl ⟨rfl, rfl, rfl, rfl, rfl, rfl, trivial⟩) rfl ?_
  refine Ops.ef rfl (ef_storeK rfl rfl rfl rfl) ?_
  rintro _ _ ⟨rfl, rfl⟩
  refine Ops.nil ?_
  refine Ends.seq ?_
  refine Wp.ret ?_
  exact Ends.ret (res_one rfl (rv_cellK [_, _, _, _, _, _] rfl rfl rfl ⟨rfl, rfl, rfl, rfl, rfl, rfl, trivial⟩)) ⟨by simp [plainM, *], rfl⟩
 refine Wp.seq ?_
 refine Wp.region ?_
 refine Ops.pv (pv_eql rfl rfl) rfl ?_
 refine Ops.pv (pv_assign rfl) rfl ?_
 refine Ops.nil ?_
 refine Ends.seq ?_
 refine Wp.cond_dect rfl (fun h5 => ?_) (fun h5 => ?_)
 ·
  refine AnyH.start [(b1, .cells c.cells.toArray 24)] 8 rfl ?_
  refine Tk 0 rfl rfl (pv_fieldAddr0 rfl rfl) rfl ?_
  refine Tk 1 rfl rfl (pv_load rfl rfl rfl) rfl ?_
  refine Tk 2 rfl rfl (pv_fieldAddr0 rfl rfl) rfl ?_
  refine Tk 3 rfl rfl (pv_load rfl rfl rfl) rfl ?_
  refine Tk 4 rfl rfl (pv_fieldAddr0 rfl rfl) rfl ?_
  refine AnyH.one 5 (by kernel_rfl) ?_
  refine Turn.ef rfl rfl (ef_store1 rfl rfl (by first | rfl | assumption) (by first | rfl | assumption)) ?_ ?_
  ·
   rintro _ _ ⟨rfl, rfl⟩; infer_instance
  rintro _ _ ⟨rfl, rfl⟩
  refine Tk 6 rfl rfl (pv_fieldAddr0 rfl rfl) rfl ?_
  refine AnyH.one 7 (by kernel_rfl) ?_
  refine Turn.ef rfl rfl (ef_store1 rfl rfl (by first | rfl | assumption) (by first | rfl | assumption)) ?_ ?_
  ·
   rintro _ _ ⟨rfl, rfl⟩; infer_instance
  rintro _ _ ⟨rfl, rfl⟩
  refine AnyH.done (by kernel_rfl) ?_
  refine Ends.block_normal ?_
  refine Ends.seq ?_
  refine Wp.seq ?_
  refine Wp.region ?_
  refine Ops.pv (pv_loadK [_, _, _, _, _, _] rfl rfl rfl ⟨rfl, rfl, rfl, rfl, rfl, rfl, trivial⟩) rfl ?_
  refine Ops.ef rfl (ef_storeK rfl rfl rfl rfl) ?_
  rintro _ _ ⟨rfl, rfl⟩
  refine Ops.nil ?_
  refine Ends.seq ?_
  refine Wp.ret ?_
  exact Ends.ret (res_one rfl (rv_cellK [_, _, _, _, _, _] rfl rfl rfl ⟨rfl, rfl, rfl, rfl, rfl, rfl, trivial⟩)) ⟨by simp [plainM, *], rfl⟩
 refine Wp.seq ?_
 refine Wp.region ?_
 refine Ops.pv (pv_eql rfl rfl) rfl ?_
 refine Ops.pv (pv_assign rfl) rfl ?_
 refine Ops.nil ?_
 refine Ends.seq ?_
 refine Wp.cond_dect rfl (fun h6 => ?_) (fun h6 => ?_)
 ·
  refine AnyH.start [(b1, .cells c.cells.toArray 24)] 12 rfl ?_
  refine Tk 0 rfl rfl (pv_fieldAddr0 rfl rfl) rfl ?_
  refine Tk 1 rfl rfl (pv_load rfl rfl rfl) rfl ?_
  refine Tk 2 rfl rfl (pv_fieldAddr0 rfl rfl) rfl ?_
  refine Tk 3 rfl rfl (pv_load rfl rfl rfl) rfl ?_
  refine Tk 4 rfl rfl (pv_fieldAddr0 rfl rfl) rfl ?_
  refine Tk 5 rfl rfl (pv_load rfl rfl rfl) rfl ?_
  refine Tk 6 rfl rfl (pv_fieldAddr0 rfl rfl) rfl ?_
  refine AnyH.one 7 (by kernel_rfl) ?_
  refine Turn.ef rfl rfl (ef_store1 rfl rfl (by first | rfl | assumption) (by first | rfl | assumption)) ?_ ?_
  ·
   rintro _ _ ⟨rfl, rfl⟩; infer_instance
  rintro _ _ ⟨rfl, rfl⟩
  refine Tk 8 rfl rfl (pv_fieldAddr0 rfl rfl) rfl ?_
  refine AnyH.one 9 (by kernel_rfl) ?_
  refine Turn.ef rfl rfl (ef_store1 rfl rfl (by first | rfl | assumption) (by first | rfl | assumption)) ?_ ?_
  ·
   rintro _ _ ⟨rfl, rfl⟩; infer_instance
  rintro _ _ ⟨rfl, rfl⟩
  refine Tk 10 rfl rfl (pv_fieldAddr0 rfl rfl) rfl ?_
  refine AnyH.one 11 (by kernel_rfl) ?_
  refine Turn.ef rfl rfl (ef_store1 rfl rfl (by first | rfl | assumption) (by first | rfl | assumption)) ?_ ?_
  ·
   rintro _ _ ⟨rfl, rfl⟩; infer_instance
  rintro _ _ ⟨rfl, rfl⟩
  refine AnyH.done (by kernel_rfl) ?_
  refine Ends.block_normal ?_
  refine Ends.seq ?_
  refine Wp.seq ?_
  refine Wp.region ?_
  refine Ops.pv (pv_loadK [_, _, _, _, _, _] rfl rfl rfl ⟨rfl, rfl, rfl, rfl, rfl, rfl, trivial⟩) rfl ?_
  refine Ops.ef rfl (ef_storeK rfl rfl rfl rfl) ?_
  rintro _ _ ⟨rfl, rfl⟩
  refine Ops.nil ?_
  refine Ends.seq ?_
  refine Wp.ret ?_
  exact Ends.ret (res_one rfl (rv_cellK [_, _, _, _, _, _] rfl rfl rfl ⟨rfl, rfl, rfl, rfl, rfl, rfl, trivial⟩)) ⟨by simp [plainM, *], rfl⟩
 refine Wp.region ?_
 refine Ops.pv (pv_fieldAddr0 rfl rfl) rfl ?_
 refine Ops.pv (pv_load rfl rfl rfl) rfl ?_
 refine Ops.pv (pv_fieldAddr0 rfl rfl) rfl ?_
 refine Ops.ef rfl (ef_store1 rfl rfl (by first | rfl | assumption) (by first | rfl | assumption)) ?_
 rintro _ _ ⟨rfl, rfl⟩
 refine Ops.nil ?_
 refine Ends.block_normal ?_
 refine Ends.seq ?_
 refine Wp.seq ?_
 refine Wp.region ?_
 refine Ops.pv (pv_loadK [_, _, _, _, _, _] rfl rfl rfl ⟨rfl, rfl, rfl, rfl, rfl, rfl, trivial⟩) rfl ?_
 refine Ops.ef rfl (ef_storeK rfl rfl rfl rfl) ?_
 rintro _ _ ⟨rfl, rfl⟩
 refine Ops.nil ?_
 refine Ends.seq ?_
 refine Wp.ret ?_
 exact Ends.ret (res_one rfl (rv_cellK [_, _, _, _, _, _] rfl rfl rfl ⟨rfl, rfl, rfl, rfl, rfl, rfl, trivial⟩)) ⟨by simp [plainM, *], rfl⟩
theorem tr_check (c : CapM) : TrR Try.prog 69 [c.v] ([]) (.int .i64 (checkM c)) := by
 refine Tr.enter Try.func69 rfl Try.ntmps69 rfl (fun W F => ?_)
 refine Wp.app ?_
 refine Wp.seq ?_
 refine Wp.region ?_
 refine Ops.ef rfl (ef_boxK rfl rfl) ?_
 rintro _ _ ⟨b1, rfl, rfl⟩
 refine Ops.pv (pv_assign rfl) rfl ?_
 refine Ops.nil ?_
 refine Ends.seq ?_
 refine Wp.seq ?_
 refine Wp.block ?_
 refine Wp.seq ?_
 refine Wp.region ?_
 refine Ops.pv (pv_fieldAddr0 rfl rfl) rfl ?_
 refine Ops.pv (pv_load rfl rfl rfl) rfl ?_
 refine Ops.pv (pv_lss rfl rfl) rfl ?_
 refine Ops.pv (pv_move rfl) rfl ?_
 refine Ops.split (t := 7) rfl (fun h1 => ?_) (fun h1 => ?_)
 ·
  refine Ops.skipg ⟨_, _, rfl, rfl, rfl⟩ rfl ?_
  refine Ops.skipg ⟨_, _, rfl, rfl, rfl⟩ rfl ?_
  refine Ops.skipg ⟨_, _, rfl, rfl, rfl⟩ rfl ?_
  refine Ops.pv (pv_pick_true rfl rfl) rfl ?_
  refine Ops.pv (pv_assign rfl) rfl ?_
  refine Ops.nil ?_
  refine Ends.seq ?_
  refine Wp.cond_true rfl ?_
  refine Wp.seq ?_
  refine Wp.region ?_
  refine Ops.pv (pv_assign rfl) rfl ?_
  refine Ops.nil ?_
  refine Ends.seq ?_
  refine Wp.ret ?_
  refine Ends.block_ret ?_
  refine Ends.then_ret ?_
  exact Ends.ret (res1 rfl rfl) ⟨by (first | (simp_all [checkM, rightsOk, IntKind.bits]; done) | (simp_all [checkM, rightsOk, IntKind.bits]; omega) | (simp_all [checkM, rightsOk, IntKind.bits]; intros; omega)), rfl⟩
 refine Ops.pvg ⟨_, _, rfl, rfl, rfl⟩ (pv_fieldAddr0 rfl rfl) rfl ?_
 refine Ops.pvg ⟨_, _, rfl, rfl, rfl⟩ (pv_load rfl rfl rfl) rfl ?_
 refine Ops.pvg ⟨_, _, rfl, rfl, rfl⟩ (pv_gtr rfl rfl) rfl ?_
 refine Ops.pv (pv_pick_false rfl rfl) rfl ?_
 refine Ops.pv (pv_assign rfl) rfl ?_
 refine Ops.nil ?_
 refine Ends.seq ?_
 refine Wp.cond_dect rfl (fun h2 => ?_) (fun h2 => ?_)
 ·
  refine Wp.seq ?_
  refine Wp.region ?_
  refine Ops.pv (pv_assign rfl) rfl ?_
  refine Ops.nil ?_
  refine Ends.seq ?_
  refine Wp.ret ?_
  refine Ends.block_ret ?_
  refine Ends.then_ret ?_
  exact Ends.ret (res1 rfl rfl) ⟨by (first | (simp_all [checkM, rightsOk, IntKind.bits]; done) | (simp_all [checkM, rightsOk, IntKind.bits]; omega) | (simp_all [checkM, rightsOk, IntKind.bits]; intros; omega)), rfl⟩
 refine Wp.seq ?_
 refine Wp.seq ?_
 refine AnyH.startL 5 rfl ?_
 refine Tk 0 rfl rfl (pv_loadK [_, _, _, _, _, _] rfl rfl rfl ⟨rfl, rfl, rfl, rfl, rfl, rfl, trivial⟩) rfl ?_
 refine Tk 2 rfl rfl (pv_loadK [_, _, _, _, _, _] rfl rfl rfl ⟨rfl, rfl, rfl, rfl, rfl, rfl, trivial⟩) rfl ?_
 refine AnyH.one 1 (by kernel_rfl) ?_
 refine Turn.ef rfl rfl (ef_callr (tr_plain c) rfl rfl) ?_ ?_
 ·
  rintro _ _ ⟨rfl, rfl⟩; infer_instance
 rintro _ _ ⟨rfl, rfl⟩
 refine Tk 3 rfl rfl (pv_neq_cap rfl rfl) rfl ?_
 refine Tk 4 rfl rfl (pv_assign rfl) rfl ?_
 refine AnyH.done (by kernel_rfl) ?_
 refine Ends.seq ?_
 refine Wp.cond_t rfl (fun h3 => ?_) (fun h3 => ?_)
 ·
  refine Wp.skip ?_
  refine Ends.seq ?_
  refine Wp.cond_true rfl ?_
  refine Wp.seq ?_
  refine Wp.region ?_
  refine Ops.pv (pv_assign rfl) rfl ?_
  refine Ops.nil ?_
  refine Ends.seq ?_
  refine Wp.ret ?_
  refine Ends.block_ret ?_
  refine Ends.then_ret ?_
  exact Ends.ret (res1 rfl rfl) ⟨by (first | (simp_all [checkM, rightsOk, IntKind.bits]; done) | (simp_all [checkM, rightsOk, IntKind.bits]; omega) | (simp_all [checkM, rightsOk, IntKind.bits]; intros; omega)), rfl⟩
 refine Wp.seq ?_
 refine Wp.region ?_
 refine Ops.pv (pv_fieldAddr0 rfl rfl) rfl ?_
 refine Ops.pv (pv_load rfl rfl rfl) rfl ?_
 refine Ops.pv (pv_lss rfl rfl) rfl ?_
 refine Ops.pv (pv_move rfl) rfl ?_
 refine Ops.split (t := 20) rfl (fun h4 => ?_) (fun h4 => ?_)
 ·
  refine Ops.skipg ⟨_, _, rfl, rfl, rfl⟩ rfl ?_
  refine Ops.skipg ⟨_, _, rfl, rfl, rfl⟩ rfl ?_
  refine Ops.skipg ⟨_, _, rfl, rfl, rfl⟩ rfl ?_
  refine Ops.skipg ⟨_, _, rfl, rfl, rfl⟩ rfl ?_
  refine Ops.pv (pv_pick_true rfl rfl) rfl ?_
  refine Ops.pv (pv_assign rfl) rfl ?_
  refine Ops.nil ?_
  refine Ends.seq ?_
  refine Wp.cond_true rfl ?_
  refine Wp.skip ?_
  refine Ends.seq ?_
  refine Wp.cond_true rfl ?_
  refine Wp.seq ?_
  refine Wp.region ?_
  refine Ops.pv (pv_assign rfl) rfl ?_
  refine Ops.nil ?_
  refine Ends.seq ?_
  refine Wp.ret ?_
  refine Ends.block_ret ?_
  refine Ends.then_ret ?_
  exact Ends.ret (res1 rfl rfl) ⟨by (first | (simp_all [checkM, rightsOk, IntKind.bits]; done) | (simp_all [checkM, rightsOk, IntKind.bits]; omega) | (simp_all [checkM, rightsOk, IntKind.bits]; intros; omega)), rfl⟩
 refine Ops.pvg ⟨_, _, rfl, rfl, rfl⟩ (pv_fieldAddr0 rfl rfl) rfl ?_
 refine Ops.pvg ⟨_, _, rfl, rfl, rfl⟩ (pv_load rfl rfl rfl) rfl ?_
 refine Ops.pvg ⟨_, _, rfl, rfl, rfl⟩ (pv_shr rfl rfl (by omega) rfl) rfl ?_
 refine Ops.pvg ⟨_, _, rfl, rfl, rfl⟩ (pv_neq rfl rfl) rfl ?_
 refine Ops.pv (pv_pick_false rfl rfl) rfl ?_
 refine Ops.pv (pv_assign rfl) rfl ?_
 refine Ops.nil ?_
 refine Ends.seq ?_
 refine Wp.cond_t rfl (fun h5 => ?_) (fun h5 => ?_)
 ·
  refine Wp.skip ?_
  refine Ends.seq ?_
  refine Wp.cond_true rfl ?_
  refine Wp.seq ?_
  refine Wp.region ?_
  refine Ops.pv (pv_assign rfl) rfl ?_
  refine Ops.nil ?_
  refine Ends.seq ?_
  refine Wp.ret ?_
  refine Ends.block_ret ?_
  refine Ends.then_ret ?_
  exact Ends.ret (res1 rfl rfl) ⟨by (first | (simp_all [checkM, rightsOk, IntKind.bits]; done) | (simp_all [checkM, rightsOk, IntKind.bits]; omega) | (simp_all [checkM, rightsOk, IntKind.bits]; intros; omega)), rfl⟩
 refine Wp.seq ?_
 refine Wp.region ?_
 refine Ops.pv (pv_fieldAddr0 rfl rfl) rfl ?_
 refine Ops.pv (pv_load rfl rfl rfl) rfl ?_
 refine Ops.ef rfl (ef_callr (tr_rightsOk _) rfl rfl) ?_
 rintro _ _ ⟨rfl, rfl⟩
 refine Ops.pv (pv_not_dec rfl) rfl ?_
 refine Ops.pv (pv_assign rfl) rfl ?_
 refine Ops.nil ?_
 refine Ends.seq ?_
 refine Wp.cond_t rfl (fun h6 => ?_) (fun h6 => ?_)
 ·
  refine Wp.skip ?_
  refine Ends.seq ?_
  refine Wp.cond_true rfl ?_
  refine Wp.seq ?_
  refine Wp.region ?_
  refine Ops.pv (pv_assign rfl) rfl ?_
  refine Ops.nil ?_
  refine Ends.seq ?_
  refine Wp.ret ?_
  refine Ends.block_ret ?_
  refine Ends.then_ret ?_
  exact Ends.ret (res1 rfl rfl) ⟨by (first | (simp_all [checkM, rightsOk, IntKind.bits]; done) | (simp_all [checkM, rightsOk, IntKind.bits]; omega) | (simp_all [checkM, rightsOk, IntKind.bits]; intros; omega)), rfl⟩
 refine Wp.seq ?_
 refine Wp.region ?_
 refine Ops.pv (pv_fieldAddr0 rfl rfl) rfl ?_
 refine Ops.pv (pv_load rfl rfl rfl) rfl ?_
 refine Ops.pv (pv_shr rfl rfl (by omega) rfl) rfl ?_
 refine Ops.pv (pv_neq rfl rfl) rfl ?_
 refine Ops.pv (pv_assign rfl) rfl ?_
 refine Ops.nil ?_
 refine Ends.seq ?_
 refine Wp.cond_t rfl (fun h7 => ?_) (fun h7 => ?_)
 ·
  refine Wp.skip ?_
  refine Ends.seq ?_
  refine Wp.cond_true rfl ?_
  refine Wp.seq ?_
  refine Wp.region ?_
  refine Ops.pv (pv_assign rfl) rfl ?_
  refine Ops.nil ?_
  refine Ends.seq ?_
  refine Wp.ret ?_
  refine Ends.block_ret ?_
  refine Ends.then_ret ?_
  exact Ends.ret (res1 rfl rfl) ⟨by (first | (simp_all [checkM, rightsOk, IntKind.bits]; done) | (simp_all [checkM, rightsOk, IntKind.bits]; omega) | (simp_all [checkM, rightsOk, IntKind.bits]; intros; omega)), rfl⟩
 refine Wp.region ?_
 refine Ops.pv (pv_fieldAddr0 rfl rfl) rfl ?_
 refine Ops.pv (pv_load rfl rfl rfl) rfl ?_
 refine Ops.pv (pv_fieldAddr0 rfl rfl) rfl ?_
 refine Ops.pv (pv_load rfl rfl rfl) rfl ?_
 refine Ops.ef rfl (ef_callr (tr_fits _ _) rfl rfl) ?_
 rintro _ _ ⟨rfl, rfl⟩
 refine Ops.pv (pv_not rfl) rfl ?_
 refine Ops.pv (pv_assign rfl) rfl ?_
 refine Ops.nil ?_
 refine Ends.seq ?_
 refine Wp.cond_t rfl (fun h8 => ?_) (fun h8 => ?_)
 ·
  refine Wp.seq ?_
  refine Wp.region ?_
  refine Ops.pv (pv_assign rfl) rfl ?_
  refine Ops.nil ?_
  refine Ends.seq ?_
  refine Wp.ret ?_
  refine Ends.block_ret ?_
  refine Ends.then_ret ?_
  exact Ends.ret (res1 rfl rfl) ⟨by (first | (simp_all [checkM, rightsOk, IntKind.bits]; done) | (simp_all [checkM, rightsOk, IntKind.bits]; omega) | (simp_all [checkM, rightsOk, IntKind.bits]; intros; omega)), rfl⟩
 refine Wp.skip ?_
 refine Ends.block_normal ?_
 refine Ends.seq ?_
 refine Wp.seq ?_
 refine Wp.region ?_
 refine Ops.pv (pv_assign rfl) rfl ?_
 refine Ops.nil ?_
 refine Ends.seq ?_
 refine Wp.ret ?_
 exact Ends.ret (res1 rfl rfl) ⟨by (first | (simp_all [checkM, rightsOk, IntKind.bits]; done) | (simp_all [checkM, rightsOk, IntKind.bits]; omega) | (simp_all [checkM, rightsOk, IntKind.bits]; intros; omega)), rfl⟩
theorem tr_size (b : Nat) (n : NodeM) (h : n.radix ≤ 4) : TrR Try.prog 73 [.pointer (some ⟨b, 0, none⟩)] ([(b, .cells (.int .i64 n.radix :: capsCells n.caps).toArray 91)]) (.int .i64 (2 ^ n.radix : Nat)) := by
 refine Tr.enter Try.func73 rfl Try.ntmps73 rfl (fun W F => ?_)
 refine Wp.app ?_
 refine Wp.seq ?_
 refine Wp.region ?_
 refine Ops.pv (pv_assign rfl) rfl ?_
 refine Ops.nil ?_
 refine Ends.seq ?_
 refine Wp.seq ?_
 refine Wp.region ?_
 refine Ops.pv (pv_move rfl) rfl ?_
 refine Ops.pv (pv_nilCheck rfl) rfl ?_
 refine Ops.pv (pv_fieldAddr0 rfl rfl) rfl ?_
 refine Ops.pv (pv_load rfl rfl rfl) rfl ?_
 refine Ops.pv (pv_shl rfl rfl (by omega) rfl) rfl ?_
 refine Ops.pv (pv_assign rfl) rfl ?_
 refine Ops.nil ?_
 refine Ends.seq ?_
 refine Wp.ret ?_
 exact Ends.ret (res1 rfl rfl) ⟨sh_one h, rfl⟩
theorem tr_slot_none (sb : Nat) (S : StoreM) (s : SlotM) (h : nget s.1 S.nodes = none) : TrR Try.prog 50 [.pointer (some ⟨sb, 0, none⟩), slotV s] (storeHp sb S) (.pointer none) := by
 have hm : (mget s.1 (nodeKV S.nodes)).getD (.pointer none) = .pointer none := by rw [mget_nodeKV, h]; rfl
 refine Tr.enter Try.func50 rfl Try.ntmps50 rfl (fun W F => ?_)
 refine Wp.app ?_
 refine Wp.seq ?_
 refine Wp.region ?_
 refine Ops.ef rfl (ef_boxK rfl rfl) ?_
 rintro _ _ ⟨b1, rfl, rfl⟩
 refine Ops.pv (pv_assign rfl) rfl ?_
 refine Ops.nil ?_
 refine Ends.seq ?_
 refine Wp.seq ?_
 refine AnyH.startL 8 rfl ?_
 refine Tk 0 rfl rfl (pv_move rfl) rfl ?_
 refine Tk 1 rfl rfl (pv_nilCheck rfl) rfl ?_
 refine Tk 2 rfl rfl (pv_fieldAddr0 rfl rfl) rfl ?_
 refine Tk 3 rfl rfl (pv_load rfl rfl rfl) rfl ?_
 refine Tk 4 rfl rfl (pv_fieldAddr0 rfl rfl) rfl ?_
 refine Tk 5 rfl rfl (pv_load rfl rfl rfl) rfl ?_
 refine Tk 6 rfl rfl (pv_lookup_i s.1 rfl rfl hm) rfl ?_
 refine Tk 7 rfl rfl (pv_assign rfl) rfl ?_
 refine AnyH.done (by kernel_rfl) ?_
 refine Ends.seq ?_
 refine Wp.seq ?_
 refine Wp.seq ?_
 refine AnyH.startL 14 rfl ?_
 refine Tk 0 rfl rfl (pv_move rfl) rfl ?_
 refine Tk 1 rfl rfl (pv_eql_nil rfl rfl) rfl ?_
 refine Tk 2 rfl rfl (pv_move rfl) rfl ?_
 refine Ts 3 rfl ⟨_, _, rfl, rfl, rfl⟩ rfl ?_
 refine Ts 4 rfl ⟨_, _, rfl, rfl, rfl⟩ rfl ?_
 refine Ts 5 rfl ⟨_, _, rfl, rfl, rfl⟩ rfl ?_
 refine Tk 6 rfl rfl (pv_pick_true rfl rfl) rfl ?_
 refine Tk 7 rfl rfl (pv_move rfl) rfl ?_
 refine Ts 8 rfl ⟨_, _, rfl, rfl, rfl⟩ rfl ?_
 refine Ts 9 rfl ⟨_, _, rfl, rfl, rfl⟩ rfl ?_
 refine Ts 10 rfl ⟨_, _, rfl, rfl, rfl⟩ rfl ?_
 refine Ts 11 rfl ⟨_, _, rfl, rfl, rfl⟩ rfl ?_
 refine Ts 12 rfl ⟨_, _, rfl, rfl, rfl⟩ rfl ?_
 refine Tk 13 rfl rfl (pv_pick_true rfl rfl) rfl ?_
 refine AnyH.done (by kernel_rfl) ?_
 refine Ends.seq ?_
 refine Wp.cond_true rfl ?_
 refine Wp.seq ?_
 refine Wp.region ?_
 refine Ops.pv (pv_assign rfl) rfl ?_
 refine Ops.nil ?_
 refine Ends.seq ?_
 refine Wp.ret ?_
 refine Ends.then_ret ?_
 exact Ends.ret (res1 rfl rfl) ⟨rfl, rfl⟩
theorem tr_slot_node (sb : Nat) (S : StoreM) (s : SlotM) (n : NodeM) (h : nget s.1 S.nodes = some n) (hw : n.Wf) : TrR Try.prog 50 [.pointer (some ⟨sb, 0, none⟩), slotV s] (storeHp sb S) (.pointer (if n.has s.2 then some ⟨n.blk, 1 + s.2.toNat * 6, none⟩ else none)) := by
 have hm : (mget s.1 (nodeKV S.nodes)).getD (.pointer none) = .pointer (some ⟨n.blk, 0, none⟩) := by rw [mget_nodeKV, h]; rfl
 have hblk := S.blk (sb := sb) h
 have hlt := @NodeM.Wf.lt n hw s.2
 refine Tr.enter Try.func50 rfl Try.ntmps50 rfl (fun W F => ?_)
 refine Wp.app ?_
 refine Wp.seq ?_
 refine Wp.region ?_
 refine Ops.ef rfl (ef_boxK rfl rfl) ?_
 rintro _ _ ⟨b1, rfl, rfl⟩
 refine Ops.pv (pv_assign rfl) rfl ?_
 refine Ops.nil ?_
 refine Ends.seq ?_
 refine Wp.seq ?_
 refine AnyH.startL 8 rfl ?_
 refine Tk 0 rfl rfl (pv_move rfl) rfl ?_
 refine Tk 1 rfl rfl (pv_nilCheck rfl) rfl ?_
 refine Tk 2 rfl rfl (pv_fieldAddr0 rfl rfl) rfl ?_
 refine Tk 3 rfl rfl (pv_load rfl rfl rfl) rfl ?_
 refine Tk 4 rfl rfl (pv_fieldAddr0 rfl rfl) rfl ?_
 refine Tk 5 rfl rfl (pv_load rfl rfl rfl) rfl ?_
 refine Tk 6 rfl rfl (pv_lookup_i s.1 rfl rfl hm) rfl ?_
 refine Tk 7 rfl rfl (pv_assign rfl) rfl ?_
 refine AnyH.done (by kernel_rfl) ?_
 refine Ends.seq ?_
 refine Wp.seq ?_
 refine Wp.seq ?_
 refine AnyH.startL 14 rfl ?_
 refine Tk 0 rfl rfl (pv_move rfl) rfl ?_
 refine Tk 1 rfl rfl (pv_eql_nil rfl rfl) rfl ?_
 refine Tk 2 rfl rfl (pv_move rfl) rfl ?_
 refine Tk 3 rfl ⟨_, _, rfl, rfl, rfl⟩ (pv_fieldAddr0 rfl rfl) rfl ?_
 refine Tk 4 rfl ⟨_, _, rfl, rfl, rfl⟩ (pv_load rfl rfl rfl) rfl ?_
 refine Tk 5 rfl ⟨_, _, rfl, rfl, rfl⟩ (pv_lss rfl rfl) rfl ?_
 refine Tk 6 rfl rfl (pv_pick_false rfl rfl) rfl ?_
 refine Tk 7 rfl rfl (pv_move rfl) rfl ?_
 refine AnyH.split (t := 20) rfl (fun h1 => ?_) (fun h1 => ?_)
 ·
  refine Ts 8 rfl ⟨_, _, rfl, rfl, rfl⟩ rfl ?_
  refine Ts 9 rfl ⟨_, _, rfl, rfl, rfl⟩ rfl ?_
  refine Ts 10 rfl ⟨_, _, rfl, rfl, rfl⟩ rfl ?_
  refine Ts 11 rfl ⟨_, _, rfl, rfl, rfl⟩ rfl ?_
  refine Ts 12 rfl ⟨_, _, rfl, rfl, rfl⟩ rfl ?_
  refine Tk 13 rfl rfl (pv_pick_true rfl rfl) rfl ?_
  refine AnyH.done (by kernel_rfl) ?_
  refine Ends.seq ?_
  refine Wp.cond_true rfl ?_
  refine Wp.seq ?_
  refine Wp.region ?_
  refine Ops.pv (pv_assign rfl) rfl ?_
  refine Ops.nil ?_
  refine Ends.seq ?_
  refine Wp.ret ?_
  refine Ends.then_ret ?_
  exact Ends.ret (res1 rfl rfl) ⟨by rw [if_neg (by unfold NodeM.has; omega)], rfl⟩
 refine Tk 8 rfl ⟨_, _, rfl, rfl, rfl⟩ (pv_fieldAddr0 rfl rfl) rfl ?_
 refine Tk 9 rfl ⟨_, _, rfl, rfl, rfl⟩ (pv_load rfl rfl rfl) rfl ?_
 refine Tk 10 rfl ⟨_, _, rfl, rfl, rfl⟩ (pv_move rfl) rfl ?_
 refine AnyH.one 11 (by kernel_rfl) ?_
 refine Turn.ef rfl ⟨_, _, rfl, rfl, rfl⟩ (ef_callr (tr_size n.blk n hw.hi) rfl rfl) ?_ ?_
 ·
  rintro _ _ ⟨rfl, rfl⟩; infer_instance
 rintro _ _ ⟨rfl, rfl⟩
 refine Tk 12 rfl ⟨_, _, rfl, rfl, rfl⟩ (pv_geq rfl rfl) rfl ?_
 refine Tk 13 rfl rfl (pv_pick_false rfl rfl) rfl ?_
 refine AnyH.done (by kernel_rfl) ?_
 refine Ends.seq ?_
 refine Wp.cond_dect rfl (fun h2 => ?_) (fun h2 => ?_)
 ·
  refine Wp.seq ?_
  refine Wp.region ?_
  refine Ops.pv (pv_assign rfl) rfl ?_
  refine Ops.nil ?_
  refine Ends.seq ?_
  refine Wp.ret ?_
  refine Ends.then_ret ?_
  exact Ends.ret (res1 rfl rfl) ⟨by rw [if_neg (by unfold NodeM.has; omega)], rfl⟩
 refine Wp.skip ?_
 refine Ends.seq ?_
 refine Wp.seq ?_
 refine AnyH.startL 7 rfl ?_
 refine Tk 0 rfl rfl (pv_move rfl) rfl ?_
 refine Tk 1 rfl rfl (pv_fieldAddr0 rfl rfl) rfl ?_
 refine Tk 2 rfl rfl (pv_load rfl rfl rfl) rfl ?_
 refine Tk 3 rfl rfl (pv_nilCheck rfl) rfl ?_
 refine Tk 4 rfl rfl (pv_fieldAddr0 rfl rfl) rfl ?_
 refine Tk 5 rfl rfl (pv_indexAddrA (i := s.2.toNat) rfl rfl (by unfold NodeM.has at *; omega) (hlt (by unfold NodeM.has at *; omega))) rfl ?_
 refine Tk 6 rfl rfl (pv_assign rfl) rfl ?_
 refine AnyH.done (by kernel_rfl) ?_
 refine Ends.seq ?_
 refine Wp.ret ?_
 exact Ends.ret (res1 rfl rfl) ⟨by rw [if_pos (by unfold NodeM.has; omega)], rfl⟩
theorem tr_slot (sb : Nat) (S : StoreM) (s : SlotM) (hw : S.Wf) : TrR Try.prog 50 [.pointer (some ⟨sb, 0, none⟩), slotV s] (storeHp sb S) (.pointer (S.addr s)) := by
 cases hn : nget s.1 S.nodes with
 | none => exact (tr_slot_none sb S s hn).eq (by simp [StoreM.addr, hn])
 | some n => exact (tr_slot_node sb S s n hn (hw _ _ hn).1).eq (by simp [StoreM.addr, hn])
theorem tr_get_none (sb : Nat) (S : StoreM) (s : SlotM) (hw : S.Wf) (h : S.cap? s = none) : TrR Try.prog 20 [.pointer (some ⟨sb, 0, none⟩), slotV s] (storeHp sb S) (.tuple #[CapM.zero.v, .int .i64 6]) := by
 refine Tr.enter Try.func20 rfl Try.ntmps20 rfl (fun W F => ?_)
 refine Wp.app ?_
 refine Wp.seq ?_
 refine Wp.region ?_
 refine Ops.ef rfl (ef_boxK rfl rfl) ?_
 rintro _ _ ⟨b1, rfl, rfl⟩
 refine Ops.ef rfl (ef_allocK tyZ24 rfl) ?_
 rintro _ _ ⟨b2, rfl, rfl⟩
 refine Ops.pv (pv_assign rfl) rfl ?_
 refine Ops.nil ?_
 refine Ends.seq ?_
 refine Wp.seq ?_
 refine Wp.region ?_
 refine Ops.pv (pv_move rfl) rfl ?_
 refine Ops.pv (pv_loadK [_, _] rfl rfl rfl ⟨rfl, rfl, trivial⟩) rfl ?_
 refine Ops.ef rfl (ef_callr (TrR.eq (r' := .pointer none) (tr_slot sb S s hw) (by rw [S.cap_none hw h])) rfl rfl) ?_
 rintro _ _ ⟨rfl, rfl⟩
 refine Ops.pv (pv_assign rfl) rfl ?_
 refine Ops.nil ?_
 refine Ends.seq ?_
 refine Wp.seq ?_
 refine Wp.seq ?_
 refine Wp.region ?_
 refine Ops.pv (pv_move rfl) rfl ?_
 refine Ops.pv (pv_eql_nil rfl rfl) rfl ?_
 refine Ops.nil ?_
 refine Ends.seq ?_
 refine Wp.cond_true rfl ?_
 refine Wp.seq ?_
 refine Wp.region ?_
 refine Ops.pv (pv_build rfl) rfl ?_
 refine Ops.ef rfl (ef_storeK rfl rfl rfl rfl) ?_
 rintro _ _ ⟨rfl, rfl⟩
 refine Ops.pv (pv_assign rfl) rfl ?_
 refine Ops.nil ?_
 refine Ends.seq ?_
 refine Wp.ret ?_
 refine Ends.then_ret ?_
 exact Ends.ret (res_list (rs := [.cell 4 24, .tmp 5]) rfl ⟨_, _, rfl, rv_cellK [_, _, _, _, _, _] rfl rfl rfl ⟨rfl, rfl, rfl, rfl, rfl, rfl, trivial⟩, ⟨_, _, rfl, rv_tmp rfl, rfl⟩⟩ rfl) ⟨rfl, rfl⟩
theorem tr_get_some (sb : Nat) (S : StoreM) (s : SlotM) (c : CapM) (hw : S.Wf) (h : S.cap? s = some c) : TrR Try.prog 20 [.pointer (some ⟨sb, 0, none⟩), slotV s] (storeHp sb S) (.tuple #[c.v, .int .i64 0]) := by
 obtain ⟨n, hn, hh, hc, ha⟩ := S.cap_some h
 have hblk := S.blk (sb := sb) hn
 refine Tr.enter Try.func20 rfl Try.ntmps20 rfl (fun W F => ?_)
 refine Wp.app ?_
 refine Wp.seq ?_
 refine Wp.region ?_
 refine Ops.ef rfl (ef_boxK rfl rfl) ?_
 rintro _ _ ⟨b1, rfl, rfl⟩
 refine Ops.ef rfl (ef_allocK tyZ24 rfl) ?_
 rintro _ _ ⟨b2, rfl, rfl⟩
 refine Ops.pv (pv_assign rfl) rfl ?_
 refine Ops.nil ?_
 refine Ends.seq ?_
 refine Wp.seq ?_
 refine Wp.region ?_
 refine Ops.pv (pv_move rfl) rfl ?_
 refine Ops.pv (pv_loadK [_, _] rfl rfl rfl ⟨rfl, rfl, trivial⟩) rfl ?_
 refine Ops.ef rfl (ef_callr (TrR.eq (r' := .pointer (some ⟨n.blk, 1 + s.2.toNat * 6, none⟩)) (tr_slot sb S s hw) (by rw [ha])) rfl rfl) ?_
 rintro _ _ ⟨rfl, rfl⟩
 refine Ops.pv (pv_assign rfl) rfl ?_
 refine Ops.nil ?_
 refine Ends.seq ?_
 refine Wp.seq ?_
 refine Wp.seq ?_
 refine Wp.region ?_
 refine Ops.pv (pv_move rfl) rfl ?_
 refine Ops.pv (pv_eql_nil rfl rfl) rfl ?_
 refine Ops.nil ?_
 refine Ends.seq ?_
 refine Wp.cond_false rfl ?_
 refine Wp.skip ?_
 refine Ends.seq ?_
 refine Wp.seq ?_
 refine Wp.region ?_
 refine Ops.pv (pv_move rfl) rfl ?_
 refine Ops.pv (pv_nilCheck rfl) rfl ?_
 refine Ops.pv (pv_loadK c.cells rfl rfl rfl (NodeM.reads hc)) rfl ?_
 refine Ops.ef rfl (ef_storeK rfl rfl rfl rfl) ?_
 rintro _ _ ⟨rfl, rfl⟩
 refine Ops.pv (pv_assign rfl) rfl ?_
 refine Ops.nil ?_
 refine Ends.seq ?_
 refine Wp.ret ?_
 exact Ends.ret (res_list (rs := [.cell 4 24, .tmp 5]) rfl ⟨_, _, rfl, rv_cellK [_, _, _, _, _, _] rfl rfl rfl ⟨rfl, rfl, rfl, rfl, rfl, rfl, trivial⟩, ⟨_, _, rfl, rv_tmp rfl, rfl⟩⟩ rfl) ⟨rfl, rfl⟩
theorem tr_get (sb : Nat) (S : StoreM) (s : SlotM) (hw : S.Wf) : TrR Try.prog 20 [.pointer (some ⟨sb, 0, none⟩), slotV s] (storeHp sb S) (.tuple #[(S.get s).1.v, .int .i64 (S.get s).2]) := by
 cases h : S.cap? s with
 | none => exact (tr_get_none sb S s hw h).eq (by simp [StoreM.get, h])
 | some c => exact (tr_get_some sb S s c hw h).eq (by simp [StoreM.get, h])
theorem tr_put_none (sb : Nat) (S : StoreM) (s : SlotM) (c : CapM) (hw : S.Wf) (h : S.cap? s = none) : Tr Try.prog 45 [.pointer (some ⟨sb, 0, none⟩), slotV s, c.v] (storeHp sb S) (fun v L' => v = .int .i64 (S.put s c).1 ∧ L' = storeHp sb (S.put s c).2) := by
 refine Tr.enter Try.func45 rfl Try.ntmps45 rfl (fun W F => ?_)
 refine Wp.app ?_
 refine Wp.seq ?_
 refine Wp.region ?_
 refine Ops.ef rfl (ef_boxK rfl rfl) ?_
 rintro _ _ ⟨b1, rfl, rfl⟩
 refine Ops.ef rfl (ef_boxK rfl rfl) ?_
 rintro _ _ ⟨b2, rfl, rfl⟩
 refine Ops.pv (pv_assign rfl) rfl ?_
 refine Ops.nil ?_
 refine Ends.seq ?_
 refine Wp.seq ?_
 refine Wp.region ?_
 refine Ops.pv (pv_move rfl) rfl ?_
 refine Ops.pv (pv_loadK [_, _] rfl rfl rfl ⟨rfl, rfl, trivial⟩) rfl ?_
 refine Ops.ef rfl (ef_callr (TrR.eq (r' := .pointer none) (tr_slot sb S s hw) (by rw [S.cap_none hw h])) rfl rfl) ?_
 rintro _ _ ⟨rfl, rfl⟩
 refine Ops.pv (pv_assign rfl) rfl ?_
 refine Ops.nil ?_
 refine Ends.seq ?_
 refine Wp.seq ?_
 refine Wp.seq ?_
 refine Wp.region ?_
 refine Ops.pv (pv_move rfl) rfl ?_
 refine Ops.pv (pv_eql_nil rfl rfl) rfl ?_
 refine Ops.nil ?_
 refine Ends.seq ?_
 refine Wp.cond_true rfl ?_
 refine Wp.seq ?_
 refine Wp.region ?_
 refine Ops.pv (pv_assign rfl) rfl ?_
 refine Ops.nil ?_
 refine Ends.seq ?_
 refine Wp.ret ?_
 refine Ends.then_ret ?_
 exact Ends.ret (L' := storeHp sb S) (res1 rfl rfl) ⟨by simp [StoreM.put, *], by simp [StoreM.put, *]⟩
theorem tr_put_some (sb : Nat) (S : StoreM) (s : SlotM) (c x : CapM) (hw : S.Wf) (h : S.cap? s = some x) : Tr Try.prog 45 [.pointer (some ⟨sb, 0, none⟩), slotV s, c.v] (storeHp sb S) (fun v L' => v = .int .i64 (S.put s c).1 ∧ L' = storeHp sb (S.put s c).2) := by
 obtain ⟨n, hn, hh, hc, ha⟩ := S.cap_some h
 have hblk := S.blk (sb := sb) hn
 have hset := NodeM.setL (c' := c) hc
 have hupd : Upd (storeHp sb S) n.blk (.cells (.int .i64 n.radix :: capsCells (n.caps.set s.2.toNat c)).toArray 91 (0, 0)) (storeHp sb (S.setNode s.1 (n.set s.2.toNat c))) := S.upd (n' := n.set s.2.toNat c) hn rfl rfl
 refine Tr.enter Try.func45 rfl Try.ntmps45 rfl (fun W F => ?_)
 refine Wp.app ?_
 refine Wp.seq ?_
 refine Wp.region ?_
 refine Ops.ef rfl (ef_boxK rfl rfl) ?_
 rintro _ _ ⟨b1, rfl, rfl⟩
 refine Ops.ef rfl (ef_boxK rfl rfl) ?_
 rintro _ _ ⟨b2, rfl, rfl⟩
 refine Ops.pv (pv_assign rfl) rfl ?_
 refine Ops.nil ?_
 refine Ends.seq ?_
 refine Wp.seq ?_
 refine Wp.region ?_
 refine Ops.pv (pv_move rfl) rfl ?_
 refine Ops.pv (pv_loadK [_, _] rfl rfl rfl ⟨rfl, rfl, trivial⟩) rfl ?_
 refine Ops.ef rfl (ef_callr (TrR.eq (r' := .pointer (some ⟨n.blk, 1 + s.2.toNat * 6, none⟩)) (tr_slot sb S s hw) (by rw [ha])) rfl rfl) ?_
 rintro _ _ ⟨rfl, rfl⟩
 refine Ops.pv (pv_assign rfl) rfl ?_
 refine Ops.nil ?_
 refine Ends.seq ?_
 refine Wp.seq ?_
 refine Wp.seq ?_
 refine Wp.region ?_
 refine Ops.pv (pv_move rfl) rfl ?_
 refine Ops.pv (pv_eql_nil rfl rfl) rfl ?_
 refine Ops.nil ?_
 refine Ends.seq ?_
 refine Wp.cond_false rfl ?_
 refine Wp.skip ?_
 refine Ends.seq ?_
 refine Wp.seq ?_
 refine Wp.seq ?_
 refine Wp.region ?_
 refine Ops.pv (pv_loadK [_, _, _, _, _, _] rfl rfl rfl ⟨rfl, rfl, rfl, rfl, rfl, rfl, trivial⟩) rfl ?_
 refine Ops.ef rfl (ef_callr (tr_check c) rfl rfl) ?_
 rintro _ _ ⟨rfl, rfl⟩
 refine Ops.pv (pv_assign rfl) rfl ?_
 refine Ops.nil ?_
 refine Ends.seq ?_
 refine Wp.block ?_
 refine Wp.seq ?_
 refine Wp.region ?_
 refine Ops.pv (pv_move rfl) rfl ?_
 refine Ops.pv (pv_neq rfl rfl) rfl ?_
 refine Ops.pv (pv_assign rfl) rfl ?_
 refine Ops.nil ?_
 refine Ends.seq ?_
 refine Wp.cond_dect rfl (fun h1 => ?_) (fun h1 => ?_)
 ·
  refine Wp.seq ?_
  refine Wp.region ?_
  refine Ops.pv (pv_move rfl) rfl ?_
  refine Ops.pv (pv_assign rfl) rfl ?_
  refine Ops.nil ?_
  refine Ends.seq ?_
  refine Wp.ret ?_
  refine Ends.block_ret ?_
  refine Ends.then_ret ?_
  exact Ends.ret (L' := storeHp sb S) (res1 rfl rfl) ⟨by simp [StoreM.put, *], by simp [StoreM.put, *]⟩
 refine Wp.seq ?_
 refine Wp.region ?_
 refine Ops.pv (pv_fieldAddr0 rfl rfl) rfl ?_
 refine Ops.pv (pv_load rfl rfl rfl) rfl ?_
 refine Ops.pv (pv_eql rfl rfl) rfl ?_
 refine Ops.pv (pv_assign rfl) rfl ?_
 refine Ops.nil ?_
 refine Ends.seq ?_
 refine Wp.cond_dect rfl (fun h2 => ?_) (fun h2 => ?_)
 ·
  refine Wp.seq ?_
  refine Wp.region ?_
  refine Ops.pv (pv_assign rfl) rfl ?_
  refine Ops.nil ?_
  refine Ends.seq ?_
  refine Wp.ret ?_
  refine Ends.block_ret ?_
  refine Ends.then_ret ?_
  exact Ends.ret (L' := storeHp sb S) (res1 rfl rfl) ⟨by simp [StoreM.put, *], by simp [StoreM.put, *]⟩
 refine Wp.seq ?_
 refine Wp.region ?_
 refine Ops.pv (pv_move rfl) rfl ?_
 refine Ops.pv (pv_nilCheck rfl) rfl ?_
 refine Ops.pv (pv_fieldAddr rfl rfl) rfl ?_
 refine Ops.pv (pv_load rfl rfl (NodeM.reads hc).1) rfl ?_
 refine Ops.pv (pv_neq rfl rfl) rfl ?_
 refine Ops.pv (pv_assign rfl) rfl ?_
 refine Ops.nil ?_
 refine Ends.seq ?_
 refine Wp.cond_dect rfl (fun h3 => ?_) (fun h3 => ?_)
 ·
  refine Wp.seq ?_
  refine Wp.region ?_
  refine Ops.pv (pv_assign rfl) rfl ?_
  refine Ops.nil ?_
  refine Ends.seq ?_
  refine Wp.ret ?_
  refine Ends.block_ret ?_
  refine Ends.then_ret ?_
  exact Ends.ret (L' := storeHp sb S) (res1 rfl rfl) ⟨by simp [StoreM.put, *], by simp [StoreM.put, *]⟩
 refine Wp.skip ?_
 refine Ends.block_normal ?_
 refine Ends.seq ?_
 refine Wp.seq ?_
 refine Wp.region ?_
 refine Ops.pv (pv_move rfl) rfl ?_
 refine Ops.pv (pv_loadK [_, _, _, _, _, _] rfl rfl rfl ⟨rfl, rfl, rfl, rfl, rfl, rfl, trivial⟩) rfl ?_
 refine Ops.pv (pv_nilCheck rfl) rfl ?_
 refine Ops.ef rfl (ef_storeK rfl rfl rfl rfl) ?_
 rintro _ _ ⟨rfl, rfl⟩
 refine Ops.nil ?_
 refine Ends.seq ?_
 refine Wp.seq ?_
 refine Wp.region ?_
 refine Ops.pv (pv_assign rfl) rfl ?_
 refine Ops.nil ?_
 refine Ends.seq ?_
 refine Wp.ret ?_
 exact Ends.ret (L' := storeHp sb (S.setNode s.1 (n.set s.2.toNat c))) (res1 rfl rfl) ⟨by simp [StoreM.put, *], by rw [S.setCap_eq hn]; simp [StoreM.put, *]⟩
theorem tr_put (sb : Nat) (S : StoreM) (s : SlotM) (c : CapM) (hw : S.Wf) : Tr Try.prog 45 [.pointer (some ⟨sb, 0, none⟩), slotV s, c.v] (storeHp sb S) (fun v L' => v = .int .i64 (S.put s c).1 ∧ L' = storeHp sb (S.put s c).2) := by
 cases h : S.cap? s with
 | none => exact tr_put_none sb S s c hw h
 | some x => exact tr_put_some sb S s c x hw h
theorem tr_take_none (sb : Nat) (S : StoreM) (s : SlotM) (hw : S.Wf) (h : S.cap? s = none) : Tr Try.prog 53 [.pointer (some ⟨sb, 0, none⟩), slotV s] (storeHp sb S) (fun v L' => v = .tuple #[(S.take s).1.v, .int .i64 (S.take s).2.1] ∧ L' = storeHp sb (S.take s).2.2) := by
 refine Tr.enter Try.func53 rfl Try.ntmps53 rfl (fun W F => ?_)
 refine Wp.app ?_
 refine Wp.seq ?_
 refine Wp.region ?_
 refine Ops.ef rfl (ef_boxK rfl rfl) ?_
 rintro _ _ ⟨b1, rfl, rfl⟩
 refine Ops.ef rfl (ef_allocK tyZ24 rfl) ?_
 rintro _ _ ⟨b2, rfl, rfl⟩
 refine Ops.pv (pv_assign rfl) rfl ?_
 refine Ops.nil ?_
 refine Ends.seq ?_
 refine Wp.seq ?_
 refine Wp.region ?_
 refine Ops.pv (pv_move rfl) rfl ?_
 refine Ops.pv (pv_loadK [_, _] rfl rfl rfl ⟨rfl, rfl, trivial⟩) rfl ?_
 refine Ops.ef rfl (ef_callr (TrR.eq (r' := .pointer none) (tr_slot sb S s hw) (by rw [S.cap_none hw h])) rfl rfl) ?_
 rintro _ _ ⟨rfl, rfl⟩
 refine Ops.pv (pv_assign rfl) rfl ?_
 refine Ops.nil ?_
 refine Ends.seq ?_
 refine Wp.seq ?_
 refine Wp.block ?_
 refine Wp.seq ?_
 refine Wp.region ?_
 refine Ops.pv (pv_move rfl) rfl ?_
 refine Ops.pv (pv_eql_nil rfl rfl) rfl ?_
 refine Ops.pv (pv_assign rfl) rfl ?_
 refine Ops.nil ?_
 refine Ends.seq ?_
 refine Wp.cond_true rfl ?_
 refine Wp.seq ?_
 refine Wp.region ?_
 refine Ops.pv (pv_build rfl) rfl ?_
 refine Ops.ef rfl (ef_storeK rfl rfl rfl rfl) ?_
 rintro _ _ ⟨rfl, rfl⟩
 refine Ops.pv (pv_assign rfl) rfl ?_
 refine Ops.nil ?_
 refine Ends.seq ?_
 refine Wp.ret ?_
 refine Ends.block_ret ?_
 refine Ends.then_ret ?_
 exact Ends.ret (L' := storeHp sb S) (res_list (rs := [.cell 4 24, .tmp 5]) rfl ⟨_, _, rfl, rv_cellK [_, _, _, _, _, _] rfl rfl rfl ⟨rfl, rfl, rfl, rfl, rfl, rfl, trivial⟩, ⟨_, _, rfl, rv_tmp rfl, rfl⟩⟩ rfl) ⟨by simp [StoreM.take, *], by simp [StoreM.take, *]⟩
theorem tr_take_some (sb : Nat) (S : StoreM) (s : SlotM) (x : CapM) (hw : S.Wf) (h : S.cap? s = some x) : Tr Try.prog 53 [.pointer (some ⟨sb, 0, none⟩), slotV s] (storeHp sb S) (fun v L' => v = .tuple #[(S.take s).1.v, .int .i64 (S.take s).2.1] ∧ L' = storeHp sb (S.take s).2.2) := by
 obtain ⟨n, hn, hh, hc, ha⟩ := S.cap_some h
 have hblk := S.blk (sb := sb) hn
 have hset : SetL _ (1 + s.2.toNat * 6) [.int .i64 0, .int .i64 0, .int .i64 0, .int .u64 0, .int .u64 0, .int .i64 0] _ := NodeM.setL (c' := CapM.zero) hc
 have hupd : Upd (storeHp sb S) n.blk (.cells (.int .i64 n.radix :: capsCells (n.caps.set s.2.toNat CapM.zero)).toArray 91 (0, 0)) (storeHp sb (S.setNode s.1 (n.set s.2.toNat CapM.zero))) := S.upd (n' := n.set s.2.toNat CapM.zero) hn rfl rfl
 refine Tr.enter Try.func53 rfl Try.ntmps53 rfl (fun W F => ?_)
 refine Wp.app ?_
 refine Wp.seq ?_
 refine Wp.region ?_
 refine Ops.ef rfl (ef_boxK rfl rfl) ?_
 rintro _ _ ⟨b1, rfl, rfl⟩
 refine Ops.ef rfl (ef_allocK tyZ24 rfl) ?_
 rintro _ _ ⟨b2, rfl, rfl⟩
 refine Ops.pv (pv_assign rfl) rfl ?_
 refine Ops.nil ?_
 refine Ends.seq ?_
 refine Wp.seq ?_
 refine Wp.region ?_
 refine Ops.pv (pv_move rfl) rfl ?_
 refine Ops.pv (pv_loadK [_, _] rfl rfl rfl ⟨rfl, rfl, trivial⟩) rfl ?_
 refine Ops.ef rfl (ef_callr (TrR.eq (r' := .pointer (some ⟨n.blk, 1 + s.2.toNat * 6, none⟩)) (tr_slot sb S s hw) (by rw [ha])) rfl rfl) ?_
 rintro _ _ ⟨rfl, rfl⟩
 refine Ops.pv (pv_assign rfl) rfl ?_
 refine Ops.nil ?_
 refine Ends.seq ?_
 refine Wp.seq ?_
 refine Wp.block ?_
 refine Wp.seq ?_
 refine Wp.region ?_
 refine Ops.pv (pv_move rfl) rfl ?_
 refine Ops.pv (pv_eql_nil rfl rfl) rfl ?_
 refine Ops.pv (pv_assign rfl) rfl ?_
 refine Ops.nil ?_
 refine Ends.seq ?_
 refine Wp.cond_false rfl ?_
 refine Wp.seq ?_
 refine Wp.region ?_
 refine Ops.pv (pv_move rfl) rfl ?_
 refine Ops.pv (pv_nilCheck rfl) rfl ?_
 refine Ops.pv (pv_fieldAddr rfl rfl) rfl ?_
 refine Ops.pv (pv_load rfl rfl (NodeM.reads hc).1) rfl ?_
 refine Ops.pv (pv_eql rfl rfl) rfl ?_
 refine Ops.pv (pv_assign rfl) rfl ?_
 refine Ops.nil ?_
 refine Ends.seq ?_
 refine Wp.cond_dect rfl (fun h1 => ?_) (fun h1 => ?_)
 ·
  refine Wp.seq ?_
  refine Wp.region ?_
  refine Ops.pv (pv_build rfl) rfl ?_
  refine Ops.ef rfl (ef_storeK rfl rfl rfl rfl) ?_
  rintro _ _ ⟨rfl, rfl⟩
  refine Ops.pv (pv_assign rfl) rfl ?_
  refine Ops.nil ?_
  refine Ends.seq ?_
  refine Wp.ret ?_
  refine Ends.block_ret ?_
  refine Ends.then_ret ?_
  exact Ends.ret (L' := storeHp sb S) (res_list (rs := [.cell 4 24, .tmp 5]) rfl ⟨_, _, rfl, rv_cellK [_, _, _, _, _, _] rfl rfl rfl ⟨rfl, rfl, rfl, rfl, rfl, rfl, trivial⟩, ⟨_, _, rfl, rv_tmp rfl, rfl⟩⟩ rfl) ⟨by simp [StoreM.take, *], by simp [StoreM.take, *]⟩
 refine Wp.skip ?_
 refine Ends.block_normal ?_
 refine Ends.seq ?_
 refine Wp.seq ?_
 refine Wp.region ?_
 refine Ops.pv (pv_move rfl) rfl ?_
 refine Ops.pv (pv_nilCheck rfl) rfl ?_
 refine Ops.pv (pv_loadK x.cells rfl rfl rfl (NodeM.reads hc)) rfl ?_
 refine Ops.ef rfl (ef_allocK tyZ24 rfl) ?_
 rintro _ _ ⟨b3, rfl, rfl⟩
 refine Ops.ef rfl (ef_storeK rfl rfl rfl rfl) ?_
 rintro _ _ ⟨rfl, rfl⟩
 refine Ops.nil ?_
 refine Ends.seq ?_
 refine Wp.seq ?_
 refine Wp.region ?_
 refine Ops.pv (pv_move rfl) rfl ?_
 refine Ops.pv (pv_build rfl) rfl ?_
 refine Ops.pv (pv_nilCheck rfl) rfl ?_
 refine Ops.ef rfl (ef_storeK rfl rfl rfl rfl) ?_
 rintro _ _ ⟨rfl, rfl⟩
 refine Ops.nil ?_
 refine Ends.seq ?_
 refine Wp.seq ?_
 refine Wp.region ?_
 refine Ops.pv (pv_loadK [_, _, _, _, _, _] rfl rfl rfl ⟨rfl, rfl, rfl, rfl, rfl, rfl, trivial⟩) rfl ?_
 refine Ops.ef rfl (ef_storeK rfl rfl rfl rfl) ?_
 rintro _ _ ⟨rfl, rfl⟩
 refine Ops.pv (pv_assign rfl) rfl ?_
 refine Ops.nil ?_
 refine Ends.seq ?_
 refine Wp.ret ?_
 exact Ends.ret (L' := storeHp sb (S.setNode s.1 (n.set s.2.toNat CapM.zero))) (res_list (rs := [.cell 4 24, .tmp 5]) rfl ⟨_, _, rfl, rv_cellK [_, _, _, _, _, _] rfl rfl rfl ⟨rfl, rfl, rfl, rfl, rfl, rfl, trivial⟩, ⟨_, _, rfl, rv_tmp rfl, rfl⟩⟩ rfl) ⟨by simp [StoreM.take, *], by rw [S.setCap_eq hn]; simp [StoreM.take, *]⟩
theorem tr_take (sb : Nat) (S : StoreM) (s : SlotM) (hw : S.Wf) : Tr Try.prog 53 [.pointer (some ⟨sb, 0, none⟩), slotV s] (storeHp sb S) (fun v L' => v = .tuple #[(S.take s).1.v, .int .i64 (S.take s).2.1] ∧ L' = storeHp sb (S.take s).2.2) := by
 cases h : S.cap? s with
 | none => exact tr_take_none sb S s hw h
 | some x => exact tr_take_some sb S s x hw h
theorem tr_radix_none (sb : Nat) (S : StoreM) (id : Int) (h : nget id S.nodes = none) : TrR Try.prog 34 [.pointer (some ⟨sb, 0, none⟩), .int .i64 id] (storeHp sb S) (.int .i64 0) := by
 have hm : (mget id (nodeKV S.nodes)).getD (.pointer none) = .pointer none := by rw [mget_nodeKV, h]; rfl
 refine Tr.enter Try.func34 rfl Try.ntmps34 rfl (fun W F => ?_)
 refine Wp.app ?_
 refine Wp.seq ?_
 refine Wp.region ?_
 refine Ops.pv (pv_assign rfl) rfl ?_
 refine Ops.nil ?_
 refine Ends.seq ?_
 refine Wp.seq ?_
 refine Wp.seq ?_
 refine Wp.region ?_
 refine Ops.pv (pv_move rfl) rfl ?_
 refine Ops.pv (pv_nilCheck rfl) rfl ?_
 refine Ops.pv (pv_fieldAddr0 rfl rfl) rfl ?_
 refine Ops.pv (pv_load rfl rfl rfl) rfl ?_
 refine Ops.pv (pv_move rfl) rfl ?_
 refine Ops.pv (pv_lookup_i id rfl rfl hm) rfl ?_
 refine Ops.pv (pv_assign rfl) rfl ?_
 refine Ops.nil ?_
 refine Ends.seq ?_
 refine Wp.seq ?_
 refine Wp.region ?_
 refine Ops.pv (pv_move rfl) rfl ?_
 refine Ops.pv (pv_neq_nil rfl rfl) rfl ?_
 refine Ops.nil ?_
 refine Ends.seq ?_
 refine Wp.cond_false rfl ?_
 refine Wp.skip ?_
 refine Ends.seq ?_
 refine Wp.seq ?_
 refine Wp.region ?_
 refine Ops.pv (pv_assign rfl) rfl ?_
 refine Ops.nil ?_
 refine Ends.seq ?_
 refine Wp.ret ?_
 exact Ends.ret (res1 rfl rfl) ⟨rfl, rfl⟩
theorem tr_radix_some (sb : Nat) (S : StoreM) (id : Int) (n : NodeM) (h : nget id S.nodes = some n) : TrR Try.prog 34 [.pointer (some ⟨sb, 0, none⟩), .int .i64 id] (storeHp sb S) (.int .i64 n.radix) := by
 have hm : (mget id (nodeKV S.nodes)).getD (.pointer none) = .pointer (some ⟨n.blk, 0, none⟩) := by rw [mget_nodeKV, h]; rfl
 have hblk := S.blk (sb := sb) h
 refine Tr.enter Try.func34 rfl Try.ntmps34 rfl (fun W F => ?_)
 refine Wp.app ?_
 refine Wp.seq ?_
 refine Wp.region ?_
 refine Ops.pv (pv_assign rfl) rfl ?_
 refine Ops.nil ?_
 refine Ends.seq ?_
 refine Wp.seq ?_
 refine Wp.seq ?_
 refine Wp.region ?_
 refine Ops.pv (pv_move rfl) rfl ?_
 refine Ops.pv (pv_nilCheck rfl) rfl ?_
 refine Ops.pv (pv_fieldAddr0 rfl rfl) rfl ?_
 refine Ops.pv (pv_load rfl rfl rfl) rfl ?_
 refine Ops.pv (pv_move rfl) rfl ?_
 refine Ops.pv (pv_lookup_i id rfl rfl hm) rfl ?_
 refine Ops.pv (pv_assign rfl) rfl ?_
 refine Ops.nil ?_
 refine Ends.seq ?_
 refine Wp.seq ?_
 refine Wp.region ?_
 refine Ops.pv (pv_move rfl) rfl ?_
 refine Ops.pv (pv_neq_nil rfl rfl) rfl ?_
 refine Ops.nil ?_
 refine Ends.seq ?_
 refine Wp.cond_true rfl ?_
 refine Wp.seq ?_
 refine Wp.region ?_
 refine Ops.pv (pv_move rfl) rfl ?_
 refine Ops.pv (pv_nilCheck rfl) rfl ?_
 refine Ops.pv (pv_fieldAddr0 rfl rfl) rfl ?_
 refine Ops.pv (pv_load rfl rfl rfl) rfl ?_
 refine Ops.pv (pv_assign rfl) rfl ?_
 refine Ops.nil ?_
 refine Ends.seq ?_
 refine Wp.ret ?_
 refine Ends.then_ret ?_
 exact Ends.ret (res1 rfl rfl) ⟨rfl, rfl⟩
theorem tr_radix (sb : Nat) (S : StoreM) (id : Int) : TrR Try.prog 34 [.pointer (some ⟨sb, 0, none⟩), .int .i64 id] (storeHp sb S) (.int .i64 (S.radix id)) := by
 cases h : nget id S.nodes with
 | none => exact (tr_radix_none sb S id h).eq (by simp [StoreM.radix, h])
 | some n => exact (tr_radix_some sb S id n h).eq (by simp [StoreM.radix, h])
theorem tr_slotsNew  : Tr Try.prog 42 [] ([]) (fun v L' => ∃ sb S, v = .pointer (some ⟨sb, 0, none⟩) ∧ L' = storeHp sb S ∧ S.nodes = []) := by
 refine Tr.enter Try.func42 rfl Try.ntmps42 rfl (fun W F => ?_)
 refine Wp.app ?_
 refine Wp.seq ?_
 refine Wp.region ?_
 refine Ops.pv (pv_assign rfl) rfl ?_
 refine Ops.nil ?_
 refine Ends.seq ?_
 refine Wp.seq ?_
 refine Wp.region ?_
 refine Ops.ef rfl (ef_makeMap rfl rfl) ?_
 rintro _ _ ⟨b1, rfl, rfl⟩
 refine Ops.pv (pv_build rfl) rfl ?_
 refine Ops.ef rfl (ef_boxK rfl rfl) ?_
 rintro _ _ ⟨b2, rfl, rfl⟩
 refine Ops.pv (pv_assign rfl) rfl ?_
 refine Ops.nil ?_
 refine Ends.seq ?_
 refine Wp.ret ?_
 exact Ends.ret (L' := [(b2, .cells [.map (some b1)].toArray 88 (0, 0)), (b1, .map #[] 0)]) (res1 rfl rfl) ⟨b2, ⟨b1, 0, []⟩, rfl, rfl, rfl⟩
def addErr (S : StoreM) (id r : Int) : Int := if id < 0 ∨ 64 ≤ id ∨ r < 1 ∨ 4 < r then 1 else if (nget id S.nodes).isSome then 4 else 0
theorem tr_add_some (sb : Nat) (S : StoreM) (id r : Int) (n : NodeM) (h : nget id S.nodes = some n) : Tr Try.prog 44 [.pointer (some ⟨sb, 0, none⟩), .int .i64 id, .int .i64 r] (storeHp sb S) (fun v L' => v = .int .i64 (addErr S id r) ∧ ((addErr S id r ≠ 0 ∧ L' = storeHp sb S) ∨ (addErr S id r = 0 ∧ ∃ b, L' = storeHp sb (S.addNode id b r.toNat)))) := by
 have hm : (mget id (nodeKV S.nodes)).getD (.pointer none) = .pointer (some ⟨n.blk, 0, none⟩) := by rw [mget_nodeKV, h]; rfl
 refine Tr.enter Try.func44 rfl Try.ntmps44 rfl (fun W F => ?_)
 refine Wp.app ?_
 refine Wp.seq ?_
 refine Wp.region ?_
 refine Ops.pv (pv_assign rfl) rfl ?_
 refine Ops.nil ?_
 refine Ends.seq ?_
 refine Wp.seq ?_
 refine Wp.block ?_
 refine Wp.seq ?_
 refine Wp.region ?_
 refine Ops.pv (pv_move rfl) rfl ?_
 refine Ops.pv (pv_lss rfl rfl) rfl ?_
 refine Ops.pv (pv_move rfl) rfl ?_
 refine Ops.split (t := 10) rfl (fun h1 => ?_) (fun h1 => ?_)
 ·
  refine Ops.skipg ⟨_, _, rfl, rfl, rfl⟩ rfl ?_
  refine Ops.skipg ⟨_, _, rfl, rfl, rfl⟩ rfl ?_
  refine Ops.pv (pv_pick_true rfl rfl) rfl ?_
  refine Ops.pv (pv_move rfl) rfl ?_
  refine Ops.skipg ⟨_, _, rfl, rfl, rfl⟩ rfl ?_
  refine Ops.skipg ⟨_, _, rfl, rfl, rfl⟩ rfl ?_
  refine Ops.pv (pv_pick_true rfl rfl) rfl ?_
  refine Ops.pv (pv_move rfl) rfl ?_
  refine Ops.skipg ⟨_, _, rfl, rfl, rfl⟩ rfl ?_
  refine Ops.skipg ⟨_, _, rfl, rfl, rfl⟩ rfl ?_
  refine Ops.pv (pv_pick_true rfl rfl) rfl ?_
  refine Ops.pv (pv_assign rfl) rfl ?_
  refine Ops.nil ?_
  refine Ends.seq ?_
  refine Wp.cond_true rfl ?_
  refine Wp.seq ?_
  refine Wp.region ?_
  refine Ops.pv (pv_assign rfl) rfl ?_
  refine Ops.nil ?_
  refine Ends.seq ?_
  refine Wp.ret ?_
  refine Ends.block_ret ?_
  refine Ends.then_ret ?_
  exact Ends.ret (L' := storeHp sb S) (res1 rfl rfl) ⟨by simp [addErr, *] <;> omega, .inl ⟨by simp [addErr, *] <;> omega, rfl⟩⟩
 refine Ops.pvg ⟨_, _, rfl, rfl, rfl⟩ (pv_move rfl) rfl ?_
 refine Ops.pvg ⟨_, _, rfl, rfl, rfl⟩ (pv_geq rfl rfl) rfl ?_
 refine Ops.pv (pv_pick_false rfl rfl) rfl ?_
 refine Ops.pv (pv_move rfl) rfl ?_
 refine Ops.split (t := 14) rfl (fun h2 => ?_) (fun h2 => ?_)
 ·
  refine Ops.skipg ⟨_, _, rfl, rfl, rfl⟩ rfl ?_
  refine Ops.skipg ⟨_, _, rfl, rfl, rfl⟩ rfl ?_
  refine Ops.pv (pv_pick_true rfl rfl) rfl ?_
  refine Ops.pv (pv_move rfl) rfl ?_
  refine Ops.skipg ⟨_, _, rfl, rfl, rfl⟩ rfl ?_
  refine Ops.skipg ⟨_, _, rfl, rfl, rfl⟩ rfl ?_
  refine Ops.pv (pv_pick_true rfl rfl) rfl ?_
  refine Ops.pv (pv_assign rfl) rfl ?_
  refine Ops.nil ?_
  refine Ends.seq ?_
  refine Wp.cond_true rfl ?_
  refine Wp.seq ?_
  refine Wp.region ?_
  refine Ops.pv (pv_assign rfl) rfl ?_
  refine Ops.nil ?_
  refine Ends.seq ?_
  refine Wp.ret ?_
  refine Ends.block_ret ?_
  refine Ends.then_ret ?_
  exact Ends.ret (L' := storeHp sb S) (res1 rfl rfl) ⟨by simp [addErr, *] <;> omega, .inl ⟨by simp [addErr, *] <;> omega, rfl⟩⟩
 refine Ops.pvg ⟨_, _, rfl, rfl, rfl⟩ (pv_move rfl) rfl ?_
 refine Ops.pvg ⟨_, _, rfl, rfl, rfl⟩ (pv_lss rfl rfl) rfl ?_
 refine Ops.pv (pv_pick_false rfl rfl) rfl ?_
 refine Ops.pv (pv_move rfl) rfl ?_
 refine Ops.split (t := 18) rfl (fun h3 => ?_) (fun h3 => ?_)
 ·
  refine Ops.skipg ⟨_, _, rfl, rfl, rfl⟩ rfl ?_
  refine Ops.skipg ⟨_, _, rfl, rfl, rfl⟩ rfl ?_
  refine Ops.pv (pv_pick_true rfl rfl) rfl ?_
  refine Ops.pv (pv_assign rfl) rfl ?_
  refine Ops.nil ?_
  refine Ends.seq ?_
  refine Wp.cond_true rfl ?_
  refine Wp.seq ?_
  refine Wp.region ?_
  refine Ops.pv (pv_assign rfl) rfl ?_
  refine Ops.nil ?_
  refine Ends.seq ?_
  refine Wp.ret ?_
  refine Ends.block_ret ?_
  refine Ends.then_ret ?_
  exact Ends.ret (L' := storeHp sb S) (res1 rfl rfl) ⟨by simp [addErr, *] <;> omega, .inl ⟨by simp [addErr, *] <;> omega, rfl⟩⟩
 refine Ops.pvg ⟨_, _, rfl, rfl, rfl⟩ (pv_move rfl) rfl ?_
 refine Ops.pvg ⟨_, _, rfl, rfl, rfl⟩ (pv_gtr rfl rfl) rfl ?_
 refine Ops.pv (pv_pick_false rfl rfl) rfl ?_
 refine Ops.pv (pv_assign rfl) rfl ?_
 refine Ops.nil ?_
 refine Ends.seq ?_
 refine Wp.cond_dect rfl (fun h4 => ?_) (fun h4 => ?_)
 ·
  refine Wp.seq ?_
  refine Wp.region ?_
  refine Ops.pv (pv_assign rfl) rfl ?_
  refine Ops.nil ?_
  refine Ends.seq ?_
  refine Wp.ret ?_
  refine Ends.block_ret ?_
  refine Ends.then_ret ?_
  exact Ends.ret (L' := storeHp sb S) (res1 rfl rfl) ⟨by simp [addErr, *] <;> omega, .inl ⟨by simp [addErr, *] <;> omega, rfl⟩⟩
 refine Wp.seq ?_
 refine Wp.region ?_
 refine Ops.pv (pv_move rfl) rfl ?_
 refine Ops.pv (pv_nilCheck rfl) rfl ?_
 refine Ops.pv (pv_fieldAddr0 rfl rfl) rfl ?_
 refine Ops.pv (pv_load rfl rfl rfl) rfl ?_
 refine Ops.pv (pv_move rfl) rfl ?_
 refine Ops.pv (pv_lookup_i id rfl rfl hm) rfl ?_
 refine Ops.pv (pv_neq_nil rfl rfl) rfl ?_
 refine Ops.pv (pv_assign rfl) rfl ?_
 refine Ops.nil ?_
 refine Ends.seq ?_
 refine Wp.cond_true rfl ?_
 refine Wp.seq ?_
 refine Wp.region ?_
 refine Ops.pv (pv_assign rfl) rfl ?_
 refine Ops.nil ?_
 refine Ends.seq ?_
 refine Wp.ret ?_
 refine Ends.block_ret ?_
 refine Ends.then_ret ?_
 exact Ends.ret (L' := storeHp sb S) (res1 rfl rfl) ⟨by simp [addErr, *] <;> omega, .inl ⟨by simp [addErr, *] <;> omega, rfl⟩⟩
theorem tr_add_none (sb : Nat) (S : StoreM) (id r : Int) (h : nget id S.nodes = none) : Tr Try.prog 44 [.pointer (some ⟨sb, 0, none⟩), .int .i64 id, .int .i64 r] (storeHp sb S) (fun v L' => v = .int .i64 (addErr S id r) ∧ ((addErr S id r ≠ 0 ∧ L' = storeHp sb S) ∨ (addErr S id r = 0 ∧ ∃ b, L' = storeHp sb (S.addNode id b r.toNat)))) := by
 have hm : (mget id (nodeKV S.nodes)).getD (.pointer none) = .pointer none := by rw [mget_nodeKV, h]; rfl
 have hupd := fun o => S.updMap (sb := sb) (o := o)
 refine Tr.enter Try.func44 rfl Try.ntmps44 rfl (fun W F => ?_)
 refine Wp.app ?_
 refine Wp.seq ?_
 refine Wp.region ?_
 refine Ops.pv (pv_assign rfl) rfl ?_
 refine Ops.nil ?_
 refine Ends.seq ?_
 refine Wp.seq ?_
 refine Wp.block ?_
 refine Wp.seq ?_
 refine Wp.region ?_
 refine Ops.pv (pv_move rfl) rfl ?_
 refine Ops.pv (pv_lss rfl rfl) rfl ?_
 refine Ops.pv (pv_move rfl) rfl ?_
 refine Ops.split (t := 10) rfl (fun h1 => ?_) (fun h1 => ?_)
 ·
  refine Ops.skipg ⟨_, _, rfl, rfl, rfl⟩ rfl ?_
  refine Ops.skipg ⟨_, _, rfl, rfl, rfl⟩ rfl ?_
  refine Ops.pv (pv_pick_true rfl rfl) rfl ?_
  refine Ops.pv (pv_move rfl) rfl ?_
  refine Ops.skipg ⟨_, _, rfl, rfl, rfl⟩ rfl ?_
  refine Ops.skipg ⟨_, _, rfl, rfl, rfl⟩ rfl ?_
  refine Ops.pv (pv_pick_true rfl rfl) rfl ?_
  refine Ops.pv (pv_move rfl) rfl ?_
  refine Ops.skipg ⟨_, _, rfl, rfl, rfl⟩ rfl ?_
  refine Ops.skipg ⟨_, _, rfl, rfl, rfl⟩ rfl ?_
  refine Ops.pv (pv_pick_true rfl rfl) rfl ?_
  refine Ops.pv (pv_assign rfl) rfl ?_
  refine Ops.nil ?_
  refine Ends.seq ?_
  refine Wp.cond_true rfl ?_
  refine Wp.seq ?_
  refine Wp.region ?_
  refine Ops.pv (pv_assign rfl) rfl ?_
  refine Ops.nil ?_
  refine Ends.seq ?_
  refine Wp.ret ?_
  refine Ends.block_ret ?_
  refine Ends.then_ret ?_
  exact Ends.ret (L' := storeHp sb S) (res1 rfl rfl) ⟨by simp [addErr, *] <;> omega, .inl ⟨by simp [addErr, *] <;> omega, rfl⟩⟩
 refine Ops.pvg ⟨_, _, rfl, rfl, rfl⟩ (pv_move rfl) rfl ?_
 refine Ops.pvg ⟨_, _, rfl, rfl, rfl⟩ (pv_geq rfl rfl) rfl ?_
 refine Ops.pv (pv_pick_false rfl rfl) rfl ?_
 refine Ops.pv (pv_move rfl) rfl ?_
 refine Ops.split (t := 14) rfl (fun h2 => ?_) (fun h2 => ?_)
 ·
  refine Ops.skipg ⟨_, _, rfl, rfl, rfl⟩ rfl ?_
  refine Ops.skipg ⟨_, _, rfl, rfl, rfl⟩ rfl ?_
  refine Ops.pv (pv_pick_true rfl rfl) rfl ?_
  refine Ops.pv (pv_move rfl) rfl ?_
  refine Ops.skipg ⟨_, _, rfl, rfl, rfl⟩ rfl ?_
  refine Ops.skipg ⟨_, _, rfl, rfl, rfl⟩ rfl ?_
  refine Ops.pv (pv_pick_true rfl rfl) rfl ?_
  refine Ops.pv (pv_assign rfl) rfl ?_
  refine Ops.nil ?_
  refine Ends.seq ?_
  refine Wp.cond_true rfl ?_
  refine Wp.seq ?_
  refine Wp.region ?_
  refine Ops.pv (pv_assign rfl) rfl ?_
  refine Ops.nil ?_
  refine Ends.seq ?_
  refine Wp.ret ?_
  refine Ends.block_ret ?_
  refine Ends.then_ret ?_
  exact Ends.ret (L' := storeHp sb S) (res1 rfl rfl) ⟨by simp [addErr, *] <;> omega, .inl ⟨by simp [addErr, *] <;> omega, rfl⟩⟩
 refine Ops.pvg ⟨_, _, rfl, rfl, rfl⟩ (pv_move rfl) rfl ?_
 refine Ops.pvg ⟨_, _, rfl, rfl, rfl⟩ (pv_lss rfl rfl) rfl ?_
 refine Ops.pv (pv_pick_false rfl rfl) rfl ?_
 refine Ops.pv (pv_move rfl) rfl ?_
 refine Ops.split (t := 18) rfl (fun h3 => ?_) (fun h3 => ?_)
 ·
  refine Ops.skipg ⟨_, _, rfl, rfl, rfl⟩ rfl ?_
  refine Ops.skipg ⟨_, _, rfl, rfl, rfl⟩ rfl ?_
  refine Ops.pv (pv_pick_true rfl rfl) rfl ?_
  refine Ops.pv (pv_assign rfl) rfl ?_
  refine Ops.nil ?_
  refine Ends.seq ?_
  refine Wp.cond_true rfl ?_
  refine Wp.seq ?_
  refine Wp.region ?_
  refine Ops.pv (pv_assign rfl) rfl ?_
  refine Ops.nil ?_
  refine Ends.seq ?_
  refine Wp.ret ?_
  refine Ends.block_ret ?_
  refine Ends.then_ret ?_
  exact Ends.ret (L' := storeHp sb S) (res1 rfl rfl) ⟨by simp [addErr, *] <;> omega, .inl ⟨by simp [addErr, *] <;> omega, rfl⟩⟩
 refine Ops.pvg ⟨_, _, rfl, rfl, rfl⟩ (pv_move rfl) rfl ?_
 refine Ops.pvg ⟨_, _, rfl, rfl, rfl⟩ (pv_gtr rfl rfl) rfl ?_
 refine Ops.pv (pv_pick_false rfl rfl) rfl ?_
 refine Ops.pv (pv_assign rfl) rfl ?_
 refine Ops.nil ?_
 refine Ends.seq ?_
 refine Wp.cond_dect rfl (fun h4 => ?_) (fun h4 => ?_)
 ·
  refine Wp.seq ?_
  refine Wp.region ?_
  refine Ops.pv (pv_assign rfl) rfl ?_
  refine Ops.nil ?_
  refine Ends.seq ?_
  refine Wp.ret ?_
  refine Ends.block_ret ?_
  refine Ends.then_ret ?_
  exact Ends.ret (L' := storeHp sb S) (res1 rfl rfl) ⟨by simp [addErr, *] <;> omega, .inl ⟨by simp [addErr, *] <;> omega, rfl⟩⟩
 refine Wp.seq ?_
 refine Wp.region ?_
 refine Ops.pv (pv_move rfl) rfl ?_
 refine Ops.pv (pv_nilCheck rfl) rfl ?_
 refine Ops.pv (pv_fieldAddr0 rfl rfl) rfl ?_
 refine Ops.pv (pv_load rfl rfl rfl) rfl ?_
 refine Ops.pv (pv_move rfl) rfl ?_
 refine Ops.pv (pv_lookup_i id rfl rfl hm) rfl ?_
 refine Ops.pv (pv_neq_nil rfl rfl) rfl ?_
 refine Ops.pv (pv_assign rfl) rfl ?_
 refine Ops.nil ?_
 refine Ends.seq ?_
 refine Wp.cond_false rfl ?_
 refine Wp.skip ?_
 refine Ends.block_normal ?_
 refine Ends.seq ?_
 refine Wp.seq ?_
 refine Wp.region ?_
 refine Ops.pv (pv_move rfl) rfl ?_
 refine Ops.pv (pv_nilCheck rfl) rfl ?_
 refine Ops.pv (pv_fieldAddr0 rfl rfl) rfl ?_
 refine Ops.pv (pv_load rfl rfl rfl) rfl ?_
 refine Ops.pv (pv_move rfl) rfl ?_
 refine Ops.pv (pv_move rfl) rfl ?_
 refine Ops.pv (pv_build rfl) rfl ?_
 refine Ops.ef rfl (ef_boxK rfl rfl) ?_
 rintro _ _ ⟨b1, rfl, rfl⟩
 refine Ops.ef rfl (ef_mapUpdate_i _ rfl rfl rfl) ?_
 rintro _ _ ⟨rfl, rfl⟩
 refine Ops.nil ?_
 refine Ends.seq ?_
 refine Wp.seq ?_
 refine Wp.region ?_
 refine Ops.pv (pv_assign rfl) rfl ?_
 refine Ops.nil ?_
 refine Ends.seq ?_
 refine Wp.ret ?_
 obtain ⟨k, rfl⟩ : ∃ k : Nat, r = k := ⟨r.toNat, by omega⟩
 refine Ends.heap (fun w ho => ho.perm (StoreM.add_perm h)) ?_
 exact Ends.ret (L' := storeHp sb (S.addNode id b1 k)) (res1 rfl rfl) ⟨by simp [addErr, *] <;> omega, .inr ⟨by simp [addErr, *] <;> omega, b1, by simp⟩⟩
theorem tr_add (sb : Nat) (S : StoreM) (id r : Int) : Tr Try.prog 44 [.pointer (some ⟨sb, 0, none⟩), .int .i64 id, .int .i64 r] (storeHp sb S) (fun v L' => v = .int .i64 (addErr S id r) ∧ ((addErr S id r ≠ 0 ∧ L' = storeHp sb S) ∨ (addErr S id r = 0 ∧ ∃ b, L' = storeHp sb (S.addNode id b r.toNat)))) := by
 cases h : nget id S.nodes with
 | none => exact tr_add_none sb S id r h
 | some n => exact tr_add_some sb S id r n h
end Go.Proofs.Ytdodfnjmkpgdbaa
end
section
set_option linter.unusedVariables false
set_option linter.unusedSimpArgs false
namespace Go.Proofs.Ytdodfnjmkpgdbaa
open Go.SL
theorem nget_nset {id : Int} {n n' : NodeM} : ∀ {l : List (Int × NodeM × Nat)}, nget id l = some n → ∀ o, nget o (nset id n' l) = if o = id then some n' else nget o l
  | [], h, o => by cases h
  | e :: l, h, o => by
    simp only [nget] at h
    by_cases he : id = e.1
    · rw [if_pos he] at h
      subst he
      simp only [nset, nget, if_true]
      split <;> rfl
    · rw [if_neg he] at h
      have ih := nget_nset (n' := n') h o
      by_cases ho : o = e.1
      · have : o ≠ id := fun h' => he (h' ▸ ho)
        simp [nset, nget, he, ho, Ne.symm he]
      · simp [nset, nget, he, ho, ih]
section
variable {S : StoreM} {s : SlotM} {x : CapM} (h : S.cap? s = some x) (c : CapM)
include h
theorem setCap_nget (o : Int) : ∃ n, nget s.1 S.nodes = some n ∧ n.has s.2 ∧ n.caps[s.2.toNat]? = some x ∧ nget o (S.setCap s c).nodes = if o = s.1 then some (n.set s.2.toNat c) else nget o S.nodes := by
 obtain ⟨n, hn, hh, hc, _⟩ := S.cap_some h
 refine ⟨n, hn, hh, hc, ?_⟩
 rw [← S.setCap_eq hn]
 exact nget_nset hn o
theorem setCap_cap (t : SlotM) : (S.setCap s c).cap? t = if t = s then some c else S.cap? t := by
 obtain ⟨n, hn, hh, hc, e⟩ := setCap_nget h c t.1
 have hlt : s.2.toNat < n.caps.length := by
  rcases Nat.lt_or_ge s.2.toNat n.caps.length with h' | h'
  ·
   exact h'
  ·
   rw [List.getElem?_eq_none h'] at hc; cases hc
 unfold StoreM.cap?
 rw [e]
 by_cases h1 : t.1 = s.1
 ·
  rw [if_pos h1, h1, hn]
  dsimp only
  have e0 : ∀ i, (n.set s.2.toNat c).has i ↔ n.has i := fun i => Iff.rfl
  by_cases h2 : t.2 = s.2
  ·
   have hh' : (n.set s.2.toNat c).has s.2 := hh
   rw [if_pos (Prod.ext h1 h2), h2, if_pos hh']
   simp [NodeM.set, hlt]
  ·
   rw [if_neg (fun e => h2 (congrArg Prod.snd e))]
   by_cases h3 : n.has t.2
   ·
    have h4 : (n.set s.2.toNat c).has t.2 := h3
    rw [if_pos h3, if_pos h4]
    have : s.2.toNat ≠ t.2.toNat := by have a := hh.1; have b := h3.1; omega
    simp [NodeM.set, List.getElem?_set_ne this]
   ·
    have h4 : ¬ (n.set s.2.toNat c).has t.2 := h3
    rw [if_neg h3, if_neg h4]
 ·
  rw [if_neg h1, if_neg (fun e => h1 (congrArg Prod.fst e))]
theorem setCap_radix (o : Int) : (S.setCap s c).radix o = S.radix o := by
 obtain ⟨n, hn, hh, hc, e⟩ := setCap_nget h c o
 unfold StoreM.radix
 rw [e]
 by_cases h1 : o = s.1
 ·
  rw [if_pos h1, h1, hn]; rfl
 ·
  rw [if_neg h1]
theorem setCap_wf (hw : S.Wf) : (S.setCap s c).Wf := by
 intro o m hm
 obtain ⟨n, hn, hh, hc, e⟩ := setCap_nget h c o
 rw [e] at hm
 by_cases h1 : o = s.1
 ·
  rw [if_pos h1] at hm; cases hm
  have := hw _ _ hn
  exact ⟨⟨by simpa [NodeM.set] using this.1.len, this.1.lo, this.1.hi⟩, by rw [h1]; exact this.2⟩
 ·
  rw [if_neg h1] at hm; exact hw _ _ hm
end
section
variable {S : StoreM} {id : Int} (h : nget id S.nodes = none) (b r : Nat)
include h
theorem addNode_nget (o : Int) : nget o (S.addNode id b r).nodes = if o = id then some ⟨b, r, zeroCaps⟩ else nget o S.nodes := by
 unfold StoreM.addNode
 dsimp only
 by_cases ho : o = id
 ·
  subst ho; rw [if_pos rfl, nget_app_none h]; simp [nget]
 ·
  rw [if_neg ho]
  cases hn : nget o S.nodes with
  | none => rw [nget_app_none hn]; simp [nget, ho]
  | some n => exact nget_app_some hn
theorem addNode_cap (t : SlotM) : (S.addNode id b r).cap? t = if t.1 = id then (if 0 ≤ t.2 ∧ t.2 < (2 ^ r : Nat) ∧ t.2 < 16 then some CapM.zero else none) else S.cap? t := by
 unfold StoreM.cap?
 rw [addNode_nget h]
 by_cases ht : t.1 = id
 ·
  rw [if_pos ht, if_pos ht]
  dsimp only
  by_cases h1 : 0 ≤ t.2 ∧ t.2 < (2 ^ r : Nat)
  ·
   have h1' : NodeM.has ⟨b, r, zeroCaps⟩ t.2 := h1
   rw [if_pos h1']
   by_cases h2 : t.2 < 16
   ·
    rw [if_pos ⟨h1.1, h1.2, h2⟩]
    unfold zeroCaps
    rw [List.getElem?_replicate, if_pos (by omega)]
   ·
    rw [if_neg (by omega)]
    unfold zeroCaps
    rw [List.getElem?_replicate, if_neg (by omega)]
  ·
   have h1' : ¬ NodeM.has ⟨b, r, zeroCaps⟩ t.2 := h1
   rw [if_neg h1', if_neg (by omega)]
 ·
  rw [if_neg ht, if_neg ht]
theorem addNode_wf (hw : S.Wf) (h0 : 0 ≤ id) (h1 : id < 64) (h2 : 1 ≤ r) (hr : r ≤ 4) : (S.addNode id b r).Wf := by
 intro o n hn
 rw [addNode_nget h] at hn
 split at hn
 ·
  next h => cases hn; subst h; exact ⟨⟨by simp [zeroCaps], h2, hr⟩, h0, h1⟩
 ·
  exact hw _ _ hn
end
theorem wf_new {S : StoreM} (hS : S.nodes = []) : S.Wf := by intro o n h; rw [hS] at h; cases h
end Go.Proofs.Ytdodfnjmkpgdbaa
end
section
set_option linter.unusedVariables false
set_option linter.unusedSimpArgs false
namespace Go.Proofs.Ytdodfnjmkpgdbaa
open Go.SL
abbrev slotCells (s : SlotM) : List Value := [.int .i64 s.1, .int .i64 s.2]
def slotsCells (l : List SlotM) : List Value := l.flatMap slotCells
theorem slotsCells_len (l : List SlotM) : (slotsCells l).length = l.length * 2 := by
 induction l with
 | nil => rfl
 | cons a l ih => simp [slotsCells] at ih ⊢; omega
theorem slotsCells_app (l m : List SlotM) : slotsCells (l ++ m) = slotsCells l ++ slotsCells m := by simp [slotsCells]
theorem slotsCells_flat (l : List SlotM) : slotsCells l = (l.map slotCells).flatten := by simp [slotsCells, List.flatMap_def]
theorem slots_reads {l : List SlotM} {i : Nat} {s : SlotM} (h : l[i]? = some s) : ((slotsCells l).drop (i * 2)).take 2 = slotCells s := by
 have hr := reads_flat (ls := l.map slotCells) (k := 2) (i := i) (x := slotCells s) (by rw [List.getElem?_map, h]; rfl) (by intro y hy; obtain ⟨q, _, rfl⟩ := List.mem_map.1 hy; rfl)
 rw [← slotsCells_flat] at hr
 rw [reads_iff] at hr
 have hlt := (List.getElem?_eq_some_iff.1 h).1
 have hl := slotsCells_len l
 apply List.ext_getElem?
 intro j
 rw [List.getElem?_take]
 by_cases hj : j < 2
 ·
  rw [if_pos hj, List.getElem?_drop]
  match j, hj with
  | 0, _ => rw [hr 0 _ rfl]; rfl
  | 1, _ => rw [hr 1 _ rfl]; rfl
 ·
  rw [if_neg hj, List.getElem?_eq_none (by simp; omega)]
def nodeFull (id : Nat) (caps : List CapM) : Nat → List SlotM
  | 0 => []
  | j + 1 => nodeFull id caps j ++ (if (caps[j]?.getD CapM.zero).kind ≠ 0 then [((id : Int), (j : Int))] else [])
def full1 (S : StoreM) (id : Nat) : List SlotM :=
  match nget (id : Int) S.nodes with
  | none => []
  | some n => nodeFull id n.caps 16
def fullUpto (S : StoreM) : Nat → List SlotM
  | 0 => []
  | k + 1 => fullUpto S k ++ full1 S k
def fullM (S : StoreM) : List SlotM := fullUpto S 64
theorem nodeFull_len (id : Nat) (caps : List CapM) : ∀ j, (nodeFull id caps j).length ≤ j
  | 0 => Nat.le_refl _
  | j + 1 => by
    have := nodeFull_len id caps j
    unfold nodeFull
    rw [List.length_append]
    split <;> simp <;> omega
theorem full1_len (S : StoreM) (id : Nat) : (full1 S id).length ≤ 16 := by
 unfold full1
 split
 ·
  simp
 ·
  exact nodeFull_len _ _ _
theorem fullUpto_len (S : StoreM) : ∀ k, (fullUpto S k).length ≤ 16 * k
  | 0 => Nat.le_refl _
  | k + 1 => by
    have h1 := fullUpto_len S k
    have h2 := full1_len S k
    unfold fullUpto
    rw [List.length_append]; omega
def nptr (S : StoreM) (id : Int) : Option Addr := (nget id S.nodes).map fun n => ⟨n.blk, 0, none⟩
theorem nptr_hm (S : StoreM) (id : Int) : (mget id (nodeKV S.nodes)).getD (.pointer none) = .pointer (nptr S id) := by
 rw [mget_nodeKV]; unfold nptr; cases nget id S.nodes <;> rfl
theorem nptr_some {S : StoreM} {id : Int} (h : (nptr S id).isSome = true) : ∃ n, nget id S.nodes = some n ∧ nptr S id = some ⟨n.blk, 0, none⟩ := by
 unfold nptr at h ⊢
 cases hn : nget id S.nodes with
 | none => rw [hn] at h; simp at h
 | some n => exact ⟨n, rfl, rfl⟩
theorem nptr_none {S : StoreM} {id : Int} (h : (nptr S id).isSome = false) : nget id S.nodes = none := by
 unfold nptr at h
 cases hn : nget id S.nodes with
 | none => rfl
 | some n => rw [hn] at h; simp at h
theorem NodeM.readsAll (n : NodeM) : Reads (.int .i64 n.radix :: capsCells n.caps) 1 (capsCells n.caps) := by
 have := @reads_split [.int .i64 n.radix] (capsCells n.caps) []
 simpa using this
theorem caps_reads {l : List CapM} {i : Nat} {c : CapM} (h : l[i]? = some c) : Reads (capsCells l) (i * 6) c.cells := by
 have := reads_flat (ls := l.map CapM.cells) (k := 6) (i := i) (x := c.cells) (by rw [List.getElem?_map, h]; rfl) (by intro y hy; obtain ⟨q, _, rfl⟩ := List.mem_map.1 hy; rfl)
 rwa [← List.flatMap_def] at this
theorem capsCells_nums (l : List CapM) : capsCells l = ((l.map CapM.nums).map (encK capK)).flatten := by
 rw [List.map_map, capsCells, List.flatMap_def]; rfl
theorem ev_caps (l : List CapM) : some (Value.agg (capsCells l).toArray) = some (.agg ((l.map CapM.nums).map (encK [.i64, .i64, .i64, .u64, .u64, .i64])).flatten.toArray) := by rw [capsCells_nums]; rfl
def ndel (id : Int) : List (Int × NodeM × Nat) → List (Int × NodeM × Nat)
  | [] => []
  | e :: l => if id = e.1 then l else e :: ndel id l
theorem mdel_nodeKV (id : Int) : ∀ l, mdel id (nodeKV l) = nodeKV (ndel id l)
  | [] => rfl
  | e :: l => by
    simp only [nodeKV, List.map_cons, mdel, ndel]
    split
    · rfl
    · have := mdel_nodeKV id l
      simp only [nodeKV] at this
      rw [this]; rfl
def StoreM.delNode (S : StoreM) (id : Int) : StoreM := { S with nodes := ndel id S.nodes }
theorem StoreM.del_perm {sb : Nat} {S : StoreM} {id : Int} {n : NodeM} {F : Hp} (h : nget id S.nodes = some n) :
    (storeMapU sb S (mapO encI (mdel id (nodeKV S.nodes)) S.clk) ++ F).Perm ((n.blk, n.o) :: (storeHp sb (S.delNode id) ++ F)) := by
  rw [mdel_nodeKV]
  have hp : ∀ l, nget id l = some n → (nodesHp l).Perm ((n.blk, n.o) :: nodesHp (ndel id l)) := by
    intro l
    induction l with
    | nil => intro h; cases h
    | cons e l ih =>
      intro h
      simp only [nget] at h
      simp only [ndel]
      split at h
      · rename_i he; cases h; rw [if_pos he]; exact List.Perm.refl _
      · rename_i he
        rw [if_neg he]
        exact ((ih h).cons _).trans (List.Perm.swap _ _ _)
  have h1 := hp _ h
  have e : storeHp sb (S.delNode id) = (sb, storeO S) :: (S.mb, mapO encI (nodeKV (ndel id S.nodes)) S.clk) :: nodesHp (ndel id S.nodes) := rfl
  rw [e]
  unfold storeMapU
  have h2 := (((h1.cons (S.mb, mapO encI (nodeKV (ndel id S.nodes)) S.clk)).cons (sb, storeO S))).append_right F
  refine h2.trans ?_
  simp only [List.cons_append]
  exact ((List.Perm.swap _ _ _).cons _).trans (List.Perm.swap _ _ _)
def StoreM.drop (S : StoreM) (id : Int) : Int × StoreM :=
  match nget id S.nodes with
  | none => (3, S)
  | some n => if n.caps ≠ zeroCaps then (8, S) else (0, S.delNode id)
theorem drop_full {S : StoreM} {id : Int} {n : NodeM} (h : nget id S.nodes = some n) (hc : n.caps ≠ zeroCaps) : S.drop id = (8, S) := by
 unfold StoreM.drop; rw [h]; exact if_pos hc
theorem drop_empty {S : StoreM} {id : Int} {n : NodeM} (h : nget id S.nodes = some n) (hc : n.caps = zeroCaps) : S.drop id = (0, S.delNode id) := by
 unfold StoreM.drop; rw [h]; exact if_neg (fun e => e hc)
theorem nums_caps {l m : List CapM} : l.map CapM.nums ≠ m.map CapM.nums ↔ l ≠ m := by
 refine not_congr ⟨fun h => ?_, fun h => by rw [h]⟩
 exact List.map_inj_right (f := CapM.nums) (fun a b e => CapM.ext_nums e) |>.1 h
def StoreM.Uniq (S : StoreM) : Prop := (S.nodes.map Prod.fst).Nodup
theorem nget_notin {id : Int} : ∀ {l : List (Int × NodeM × Nat)}, id ∉ l.map Prod.fst → nget id l = none
  | [], _ => rfl
  | e :: l, h => by
    simp only [List.map_cons, List.mem_cons, not_or] at h
    simp only [nget]
    rw [if_neg h.1]; exact nget_notin h.2
theorem nget_none_notin {id : Int} : ∀ {l : List (Int × NodeM × Nat)}, nget id l = none → id ∉ l.map Prod.fst
  | [], _ => by simp
  | e :: l, h => by
    simp only [nget] at h
    split at h
    · cases h
    · rename_i he
      simp only [List.map_cons, List.mem_cons, not_or]
      exact ⟨he, nget_none_notin h⟩
theorem nget_ndel {id : Int} : ∀ {l : List (Int × NodeM × Nat)}, (l.map Prod.fst).Nodup → ∀ o, nget o (ndel id l) = if o = id then none else nget o l
  | [], _, o => by simp [ndel, nget]
  | e :: l, h, o => by
    simp only [List.map_cons, List.nodup_cons] at h
    simp only [ndel]
    by_cases he : id = e.1
    · rw [if_pos he]
      by_cases ho : o = id
      · rw [if_pos ho, ho, he]; exact nget_notin h.1
      · rw [if_neg ho]; simp only [nget]; rw [if_neg (by rw [← he]; exact ho)]
    · rw [if_neg he]
      simp only [nget]
      rw [nget_ndel h.2 o]
      by_cases ho : o = id
      · subst ho; simp [he]
      · simp [ho]
theorem ndel_sub {id : Int} : ∀ {l : List (Int × NodeM × Nat)}, (ndel id l).Sublist l
  | [] => List.Sublist.refl _
  | e :: l => by
    simp only [ndel]
    split
    · exact List.sublist_cons_self _ _
    · exact ndel_sub.cons_cons _
theorem ndel_uniq {S : StoreM} {id : Int} (h : S.Uniq) : (S.delNode id).Uniq := (ndel_sub.map Prod.fst).nodup h
theorem addNode_uniq {S : StoreM} {id : Int} {b r : Nat} (h : S.Uniq) (hn : nget id S.nodes = none) : (S.addNode id b r).Uniq := by
 unfold StoreM.Uniq StoreM.addNode
 rw [List.map_append]
 exact List.nodup_append.2 ⟨h, by simp, by simp; intro a t x hx e; exact nget_none_notin hn (List.mem_map.2 ⟨_, hx, e⟩)⟩
theorem nset_keys {id : Int} {n' : NodeM} : ∀ l : List (Int × NodeM × Nat), (nset id n' l).map Prod.fst = l.map Prod.fst
  | [] => rfl
  | e :: l => by
    simp only [nset]
    split
    · rfl
    · simp [nset_keys l]
theorem setCap_uniq {S : StoreM} {s : SlotM} {c : CapM} (h : S.Uniq) : (S.setCap s c).Uniq := by
 unfold StoreM.setCap
 split
 ·
  exact h
 ·
  unfold StoreM.Uniq StoreM.setNode; rw [nset_keys]; exact h
theorem slots_neq {l1 l2 : List SlotM} {i : Nat} {s1 s2 : SlotM} (h1 : l1[i]? = some s1) (h2 : l2[i]? = some s2) (hn : s1 ≠ s2) : ¬ l1 = l2 := fun e => by rw [e, h2] at h1; exact hn (Option.some.inj h1).symm
theorem slots_same {l1 l2 : List SlotM} (hl : l1.length = l2.length) (h : ∀ j, j < l1.length → l1[j]? = l2[j]?) : l1 = l2 := by
 apply List.ext_getElem?
 intro j
 rcases Nat.lt_or_ge j l1.length with h1 | h1
 ·
  exact h j h1
 ·
  rw [List.getElem?_eq_none h1, List.getElem?_eq_none (by omega)]
end Go.Proofs.Ytdodfnjmkpgdbaa
end
section
set_option linter.unusedVariables false
set_option linter.unusedSimpArgs false
namespace Go.Proofs.Ytdodfnjmkpgdbaa
open Go.SL
def StoreM.Tidy (S : StoreM) : Prop := ∀ id n i c, nget id S.nodes = some n → n.caps[i]? = some c → c.kind ≠ 0 → i < 2 ^ n.radix ∧ checkM c = 0
theorem tidy_new {S : StoreM} (h : S.nodes = []) : S.Tidy := by intro id n i c hn; rw [h] at hn; cases hn
theorem tidy_add {S : StoreM} (hw : S.Tidy) {id : Int} (h : nget id S.nodes = none) (b r : Nat) : (S.addNode id b r).Tidy := by
 intro o n i c hn hc hk
 rw [addNode_nget h] at hn
 split at hn
 ·
  cases hn
  rw [List.eq_of_mem_replicate (List.mem_of_getElem? hc)] at hk
  exact absurd rfl hk
 ·
  exact hw o n i c hn hc hk
theorem mem_nodeFull {id : Nat} {caps : List CapM} : ∀ {j : Nat} {s : SlotM}, s ∈ nodeFull id caps j → ∃ i, i < j ∧ s = ((id : Int), (i : Int)) ∧ (caps[i]?.getD CapM.zero).kind ≠ 0
  | 0, s, h => by cases h
  | j + 1, s, h => by
    unfold nodeFull at h
    rcases List.mem_append.1 h with h | h
    · obtain ⟨i, hi, e⟩ := mem_nodeFull h
      exact ⟨i, by omega, e⟩
    · split at h
      · rename_i hk
        rw [List.mem_singleton] at h
        exact ⟨j, by omega, h, hk⟩
      · cases h
theorem mem_full {S : StoreM} : ∀ {k : Nat} {s : SlotM}, s ∈ fullUpto S k → ∃ id i n c, id < k ∧ s = (((id : Nat) : Int), ((i : Nat) : Int)) ∧ nget s.1 S.nodes = some n ∧ n.caps[i]? = some c ∧ c.kind ≠ 0
  | 0, s, h => by cases h
  | k + 1, s, h => by
    unfold fullUpto at h
    rcases List.mem_append.1 h with h | h
    · obtain ⟨id, i, n, c, h1, h2⟩ := mem_full h
      exact ⟨id, i, n, c, by omega, h2⟩
    · unfold full1 at h
      split at h
      · cases h
      · rename_i n hn
        obtain ⟨i, hi, rfl, hk⟩ := mem_nodeFull h
        cases hc : n.caps[i]? with
        | none => rw [hc] at hk; exact absurd rfl hk
        | some c => rw [hc] at hk; exact ⟨k, i, n, c, by omega, rfl, hn, hc, hk⟩
theorem full_cap {S : StoreM} (ht : S.Tidy) {s : SlotM} (h : s ∈ fullM S) : ∃ n c, nget s.1 S.nodes = some n ∧ n.caps[s.2.toNat]? = some c ∧ c.kind ≠ 0 ∧ checkM c = 0 ∧ S.addr s = some ⟨n.blk, 1 + s.2.toNat * 6, none⟩ ∧ S.get s = (c, 0) := by
 obtain ⟨id, i, n, c, _, rfl, hn, hc, hk⟩ := mem_full h
 obtain ⟨h1, h2⟩ := ht _ n i c hn hc hk
 have hh : n.has ((i : Nat) : Int) := ⟨by omega, by omega⟩
 refine ⟨n, c, hn, by simpa using hc, hk, h2, ?_, ?_⟩
 ·
  unfold StoreM.addr; rw [hn]; exact if_pos hh
 ·
  unfold StoreM.get StoreM.cap?; rw [hn]; dsimp only; rw [if_pos hh]; simp only [Int.toNat_natCast, hc]
def isKO (S : StoreM) (k o : Int) (s : SlotM) : Bool := decide ((S.get s).1.kind = k) && decide ((S.get s).1.object = o)
def cntUpto (S : StoreM) (k o : Int) (i : Nat) : Nat := ((fullM S).take i).countP (isKO S k o)
def countM (S : StoreM) (k o : Int) : Nat := (fullM S).countP (isKO S k o)
theorem cntUpto_succ {S : StoreM} {k o : Int} {i : Nat} {s : SlotM} (h : (fullM S)[i]? = some s) : cntUpto S k o (i + 1) = cntUpto S k o i + if isKO S k o s then 1 else 0 := by
 unfold cntUpto
 rw [List.take_add_one, h, List.countP_append]
 simp [List.countP_cons]
theorem cntUpto_zero (S : StoreM) (k o : Int) : cntUpto S k o 0 = 0 := by unfold cntUpto; simp
theorem cntUpto_all (S : StoreM) (k o : Int) : cntUpto S k o (fullM S).length = countM S k o := by unfold cntUpto countM; rw [List.take_length]
theorem cntUpto_le (S : StoreM) (k o : Int) (i : Nat) : cntUpto S k o i ≤ 1024 := by
 have h1 := List.countP_le_length (p := isKO S k o) (l := (fullM S).take i)
 have h2 := fullUpto_len S 64
 rw [List.length_take] at h1
 unfold cntUpto fullM at *
 omega
def lexlt (a b : SlotM) : Prop := a.1 < b.1 ∨ a.1 = b.1 ∧ a.2 < b.2
theorem nodeFull_sorted (id : Nat) (caps : List CapM) : ∀ j, (nodeFull id caps j).Pairwise lexlt
  | 0 => List.Pairwise.nil
  | j + 1 => by
    unfold nodeFull
    rw [List.pairwise_append]
    refine ⟨nodeFull_sorted id caps j, by split <;> simp, fun a ha b hb => ?_⟩
    obtain ⟨i, hi, rfl, _⟩ := mem_nodeFull ha
    split at hb
    · rw [List.mem_singleton] at hb; subst hb; exact .inr ⟨rfl, by dsimp only; omega⟩
    · cases hb
theorem full1_fst {S : StoreM} {id : Nat} {s : SlotM} (h : s ∈ full1 S id) : s.1 = (id : Int) := by
 unfold full1 at h
 split at h
 ·
  cases h
 ·
  obtain ⟨i, _, rfl, _⟩ := mem_nodeFull h; rfl
theorem fullUpto_sorted (S : StoreM) : ∀ k, (fullUpto S k).Pairwise lexlt
  | 0 => List.Pairwise.nil
  | k + 1 => by
    unfold fullUpto
    rw [List.pairwise_append]
    refine ⟨fullUpto_sorted S k, ?_, fun a ha b hb => ?_⟩
    · unfold full1; split
      · exact List.Pairwise.nil
      · exact nodeFull_sorted _ _ _
    · obtain ⟨id, i, n, c, hid, rfl, _⟩ := mem_full ha
      exact .inl (by rw [full1_fst hb]; dsimp only; omega)
theorem full_len (S : StoreM) : (fullM S).length ≤ 1024 := fullUpto_len S 64
attribute [irreducible] countM cntUpto
structure OpM where
  kind : Int
  slot : SlotM
  n : Int
  c : CapM
abbrev OpM.cells (o : OpM) : List Value := [.int .i64 o.kind, .int .i64 o.slot.1, .int .i64 o.slot.2, .int .i64 o.n, .int .i64 o.c.kind, .int .i64 o.c.object, .int .i64 o.c.rights, .int .u64 o.c.badge, .int .u64 o.c.guard, .int .i64 o.c.bits]
end Go.Proofs.Ytdodfnjmkpgdbaa
end
section
set_option linter.unusedVariables false
set_option linter.unusedSimpArgs false
namespace Go.Proofs.Ytdodfnjmkpgdbaa
open Go.SL
section maps
variable {κ : Type} [DecidableEq κ]
theorem mget_mput (k : κ) (v : Value) (t : Nat) : ∀ (l : List (κ × Value × Nat)) (o : κ), mget o (mput k v t l) = if o = k then some v else mget o l
  | [], o => by simp [mput, mget]
  | e :: l, o => by
    simp only [mput]
    by_cases hk : k = e.1
    · subst hk
      simp only [if_true, mget]
      by_cases ho : o = e.1
      · simp [ho]
      · simp [ho]
    · simp only [if_neg hk, mget]
      by_cases ho : o = e.1
      · have : o ≠ k := fun h => hk (h ▸ ho)
        simp [ho, Ne.symm hk]
      · simp only [if_neg ho, mget_mput k v t l o]
end maps
structure Four (S : StoreM) : Prop where
  wf : S.Wf
  tidy : S.Tidy
  rad : ∀ id : Int, S.radix id = if 0 ≤ id ∧ id < 4 then id + 1 else 0
end Go.Proofs.Ytdodfnjmkpgdbaa
end
section
set_option linter.unusedVariables false
set_option linter.unusedSimpArgs false
set_option linter.unusedSectionVars false
namespace Go.Proofs.Ytdodfnjmkpgdbaa
open Go.SL
structure InMap (S : StoreM) (M : List (SlotM × Value × Nat)) : Prop where
  nd : (M.map Prod.fst).Nodup
  zero : ∀ s, (S.get s).1.kind = 0 → (S.get s).1 = CapM.zero
  get : ∀ s, mget s M = if (S.get s).1.kind ≠ 0 then some (S.get s).1.v else none
theorem InMap.val {S : StoreM} {M : List (SlotM × Value × Nat)} (h : InMap S M) (s : SlotM) : (mget s M).getD CapM.zero.v = (S.get s).1.v := by
 rw [h.get]
 by_cases hk : (S.get s).1.kind ≠ 0
 ·
  rw [if_pos hk]; rfl
 ·
  rw [if_neg hk, h.zero s (by omega)]; rfl
theorem InMap.ok {S : StoreM} {M : List (SlotM × Value × Nat)} (h : InMap S M) (s : SlotM) : (mget s M).isSome = decide ((S.get s).1.kind ≠ 0) := by
 rw [h.get]
 by_cases hk : (S.get s).1.kind ≠ 0
 ·
  rw [if_pos hk, decide_eq_true hk]; rfl
 ·
  rw [if_neg hk, decide_eq_false hk]; rfl
theorem get_set {S : StoreM} {s : SlotM} {x : CapM} (h : S.cap? s = some x) (c : CapM) (t : SlotM) : (S.setCap s c).get t = if t = s then (c, 0) else S.get t := by
 unfold StoreM.get
 rw [setCap_cap h]
 by_cases ht : t = s
 ·
  rw [if_pos ht, if_pos ht]
 ·
  rw [if_neg ht, if_neg ht]
theorem Four.set {S : StoreM} (h : Four S) {s : SlotM} {x : CapM} (hx : S.cap? s = some x) {c : CapM} (hc : c.kind ≠ 0 → checkM c = 0) : Four (S.setCap s c) := by
 refine ⟨setCap_wf hx _ h.wf, ?_, fun id => by rw [setCap_radix hx]; exact h.rad id⟩
 intro o n i d hn hd hk
 obtain ⟨m, hm, hh, hmc, e⟩ := setCap_nget hx c o
 rw [e] at hn
 split at hn
 ·
  cases hn
  by_cases hi : i = s.2.toNat
  ·
   subst hi
   have hl := (List.getElem?_eq_some_iff.1 hmc).1
   simp only [NodeM.set, List.getElem?_set_self hl] at hd
   cases hd
   have := hh.1; have := hh.2
   exact ⟨by simp only [NodeM.set]; omega, hc hk⟩
  ·
   have : s.2.toNat ≠ i := fun e => hi e.symm
   simp only [NodeM.set, List.getElem?_set_ne this] at hd
   exact h.tidy _ m i d hm hd hk
 ·
  exact h.tidy o n i d hn hd hk
section take
variable {S : StoreM} {M : List (SlotM × Value × Nat)} (h : InMap S M) (hf : Four S) (s : SlotM)
include h hf
end take
section put
variable {S : StoreM} {M : List (SlotM × Value × Nat)} (h : InMap S M) (hf : Four S) (s : SlotM) (c : CapM)
include h hf
end put
end Go.Proofs.Ytdodfnjmkpgdbaa
end
section
set_option linter.unusedVariables false
set_option linter.unusedSimpArgs false
namespace Go.Proofs.Ytdodfnjmkpgdbaa
open Go.SL
def idxM : List Int → Int → Int
  | [], _ => -1
  | a :: l, x => if a = x then 0 else if idxM l x < 0 then -1 else idxM l x + 1
structure SV where
  a : Option Addr
  c : Nat
  l : List Int
abbrev SV.v (s : SV) : Value := .slice s.a s.l.length s.c
end Go.Proofs.Ytdodfnjmkpgdbaa
end
section
set_option linter.unusedVariables false
set_option linter.unusedSimpArgs false
namespace Go.Proofs.Ytdodfnjmkpgdbaa
open Go.SL
structure DN where
  id : Nat
  rad : Nat
  caps : List CapM
  cb : Nat
def dIds (l : List DN) : List Int := l.map fun d => (d.id : Int)
theorem dIds_len (l : List DN) : (dIds l).length = l.length := by simp [dIds]
abbrev DN.o (d : DN) : Obj := .cells (capsCells d.caps).toArray 24
def dfind (l : List DN) (id : Int) : Option DN := l.find? fun d => decide ((d.id : Int) = id)
theorem dfind_cons (a : DN) (l : List DN) (id : Int) : dfind (a :: l) id = if (a.id : Int) = id then some a else dfind l id := by
 unfold dfind; rw [List.find?_cons]
 by_cases h : (a.id : Int) = id
 ·
  simp [h]
 ·
  simp [h]
theorem dfind_app (l m : List DN) (id : Int) : dfind (l ++ m) id = (dfind l id).or (dfind m id) := by unfold dfind; rw [List.find?_append]
theorem dfind_some {id : Int} {d : DN} : ∀ {l : List DN}, dfind l id = some d → ∃ i : Nat, idxM (dIds l) id = i ∧ l[i]? = some d ∧ (d.id : Int) = id
  | [], h => by cases h
  | a :: l, h => by
    rw [dfind_cons] at h
    split at h
    · rename_i e; cases h; exact ⟨0, by simp [dIds, idxM, e], rfl, e⟩
    · rename_i e
      obtain ⟨i, h1, h2, h3⟩ := dfind_some h
      refine ⟨i + 1, ?_, by simpa using h2, h3⟩
      show (if (a.id : Int) = id then 0 else if idxM (dIds l) id < 0 then -1 else idxM (dIds l) id + 1) = _
      rw [if_neg e, h1, if_neg (by omega)]; push_cast; rfl
theorem dfind_mem {l : List DN} {id : Int} {d : DN} (h : dfind l id = some d) : d ∈ l := List.mem_of_find?_eq_some h
def dcap? (l : List DN) (s : SlotM) : Option CapM :=
  match dfind l s.1 with
  | none => none
  | some d => if 0 ≤ s.2 ∧ s.2 < d.caps.length then d.caps[s.2.toNat]? else none
def dget (l : List DN) (s : SlotM) : CapM × Int := match dcap? l s with | none => (CapM.zero, 6) | some x => (x, 0)
def dradix (l : List DN) (id : Int) : Int := match dfind l id with | none => 0 | some d => (d.rad : Int)
def dsetC (l : List DN) (s : SlotM) (c : CapM) : List DN := match dfind l s.1 with | none => l | some d => l.set (idxM (dIds l) s.1).toNat { d with caps := d.caps.set s.2.toNat c }
def dput (l : List DN) (s : SlotM) (c : CapM) : Int × List DN :=
  match dcap? l s with
  | none => (6, l)
  | some x => if checkM c ≠ 0 then (checkM c, l) else if c.kind = 0 then (3, l) else if x.kind ≠ 0 then (4, l) else (0, dsetC l s c)
def dtake (l : List DN) (s : SlotM) : CapM × Int × List DN :=
  match dcap? l s with
  | none => (CapM.zero, 6, l)
  | some x => if x.kind = 0 then (x, 3, l) else (x, 0, dsetC l s CapM.zero)
def dfull (l : List DN) : List SlotM := l.flatMap fun d => nodeFull d.id d.caps d.caps.length
def dcount (l : List DN) (k o : Int) : Nat := (dfull l).countP fun s => decide ((dget l s).1.kind = k) && decide ((dget l s).1.object = o)
def daddErr (l : List DN) (id r : Int) : Int := if id < 0 ∨ 64 ≤ id ∨ r < 1 ∨ 4 < r then 1 else if (dfind l id).isSome then 4 else 0
def dempty (d : DN) : Prop := ∀ c, c ∈ d.caps → c.kind = 0
def ddel (l : List DN) (id : Int) : List DN := l.eraseIdx (idxM (dIds l) id).toNat
theorem dcap_some {l : List DN} {s : SlotM} {c : CapM} (h : dcap? l s = some c) : ∃ d, dfind l s.1 = some d ∧ (0 ≤ s.2 ∧ s.2 < d.caps.length) ∧ d.caps[s.2.toNat]? = some c := by
 unfold dcap? at h
 split at h
 ·
  cases h
 ·
  rename_i d hd
  split at h
  ·
   rename_i hs; exact ⟨d, hd, hs, h⟩
  ·
   cases h
def i64R (x : Int) : Prop := -9223372036854775808 ≤ x ∧ x < 9223372036854775808
def u64R (x : Int) : Prop := 0 ≤ x ∧ x < 18446744073709551616
structure CapM.Rg (c : CapM) : Prop where
  rights : i64R c.rights
  badge : u64R c.badge
  guard : u64R c.guard
theorem mask7 (x : BitVec 64) : (x &&& ~~~7#64) = 0#64 ↔ x.toNat < 8 := by
 have e7 : (x &&& 7#64).toNat = x.toNat % 8 := by
  rw [BitVec.toNat_and, show (7#64).toNat = 2 ^ 3 - 1 by rfl, Nat.and_two_pow_sub_one_eq_mod]
 have es : x = (x &&& 7#64) ||| (x &&& ~~~7#64) := by
  apply BitVec.eq_of_getLsbD_eq
  intro i hi
  simp only [BitVec.getLsbD_or, BitVec.getLsbD_and, BitVec.getLsbD_not, hi, decide_true, Bool.true_and]
  cases x.getLsbD i <;> cases (7#64).getLsbD i <;> rfl
 constructor
 ·
  intro h
  rw [h, BitVec.or_zero] at es
  rw [es, e7]; omega
 ·
  intro h
  have : x = x &&& 7#64 := by
   apply BitVec.eq_of_toNat_eq
   rw [e7]; omega
  rw [this, BitVec.and_assoc]
  have z : (7#64 &&& ~~~7#64) = 0#64 := by decide
  rw [z, BitVec.and_zero]
theorem rights_iff {r : Int} (h : i64R r) : rightsOk r = true ↔ 0 ≤ r ∧ r ≤ 7 := by
 have hx : (BitVec.ofInt 64 r).toNat = (r % 18446744073709551616).toNat := by rw [BitVec.toNat_ofInt]; rfl
 have hb := (BitVec.ofInt 64 r &&& ~~~BitVec.ofInt 64 7).isLt
 have hw : ∀ m : Nat, m < 2 ^ 64 → (IntKind.i64.wrap (m : Int) = 0 ↔ m = 0) := by
  intro m hm
  simp [IntKind.wrap, IntKind.signed, IntKind.bits]; omega
 have e : bitsI .andNot .i64 r 7 = IntKind.i64.wrap ((BitVec.ofInt 64 r &&& ~~~BitVec.ofInt 64 7).toNat : Int) := rfl
 unfold rightsOk
 rw [decide_eq_true_iff, e, hw _ hb]
 have z : (BitVec.ofInt 64 r &&& ~~~BitVec.ofInt 64 7).toNat = 0 ↔ (BitVec.ofInt 64 r &&& ~~~7#64) = 0#64 :=
  ⟨fun h => BitVec.eq_of_toNat_eq h, fun h => congrArg BitVec.toNat h⟩
 rw [z, mask7, hx]
 unfold i64R at h
 omega
theorem d_lt {l : List DN} {i : Nat} {d : DN} (h : l[i]? = some d) : i < l.length := (List.getElem?_eq_some_iff.1 h).1
theorem dsetC_eq {l : List DN} {s : SlotM} {d : DN} {i : Nat} (h : dfind l s.1 = some d) (hi : idxM (dIds l) s.1 = i) (c : CapM) : dsetC l s c = l.set i { d with caps := d.caps.set s.2.toNat c } := by
 unfold dsetC; rw [h, hi]; rfl
def newN (m k cb : Nat) : DN := ⟨m, k, List.replicate (2 ^ k) CapM.zero, cb⟩
def dPlace (l : List DN) (id : Int) (n : Nat) : Prop := n ≤ l.length ∧ (∀ j d, j < n → l[j]? = some d → (d.id : Int) < id) ∧ ∀ d, l[n]? = some d → ¬ (d.id : Int) < id
end Go.Proofs.Ytdodfnjmkpgdbaa
end
section
set_option linter.unusedVariables false
set_option linter.unusedSimpArgs false
namespace Go.Proofs.Ytdodfnjmkpgdbaa
open Go.SL
def StoreM.Zero (S : StoreM) : Prop := ∀ (id : Int) (n : NodeM) (i : Nat) (c : CapM), nget id S.nodes = some n → n.caps[i]? = some c → c.kind = 0 → c = CapM.zero
def RelN (S : StoreM) (l : List DN) (id : Int) : Prop := (nget id S.nodes = none ∧ dfind l id = none) ∨ ∃ n d, nget id S.nodes = some n ∧ dfind l id = some d ∧ d.rad = n.radix ∧ d.caps = n.caps.take (2 ^ n.radix)
structure Rel (S : StoreM) (l : List DN) : Prop where
  wf : S.Wf
  tidy : S.Tidy
  uniq : S.Uniq
  zero : S.Zero
  srt : (dIds l).Pairwise (· < ·)
  lt : ∀ x, x ∈ dIds l → x < 64
  rel : ∀ id, RelN S l id
theorem rel_new {S : StoreM} (h : S.nodes = []) : Rel S [] :=
  ⟨wf_new h, tidy_new h, by unfold StoreM.Uniq; rw [h]; exact List.nodup_nil, (by intro id n i c hn; rw [h] at hn; cases hn), List.Pairwise.nil, by simp [dIds], fun id => .inl ⟨by rw [h]; rfl, rfl⟩⟩
theorem pow16 {r : Nat} (h : r ≤ 4) : 2 ^ r ≤ 16 := Nat.pow_le_pow_right (n := 2) (by omega) h
theorem dfind_self : ∀ {l : List DN}, (dIds l).Pairwise (· < ·) → ∀ {d : DN}, d ∈ l → dfind l d.id = some d
  | [], _, d, h => by cases h
  | a :: l, hs, d, h => by
    rw [dfind_cons]
    have hs' : (((a.id : Nat) : Int) :: dIds l).Pairwise (· < ·) := hs
    rw [List.pairwise_cons] at hs'
    rcases List.mem_cons.1 h with rfl | h
    · rw [if_pos rfl]
    · have := hs'.1 d.id (List.mem_map.2 ⟨d, h, rfl⟩)
      rw [if_neg (by omega)]
      exact dfind_self hs'.2 h
section
variable {S : StoreM} {l : List DN} (h : Rel S l)
include h
theorem rel_find {id : Int} {d : DN} (hd : dfind l id = some d) : ∃ n, nget id S.nodes = some n ∧ d.rad = n.radix ∧ d.caps = n.caps.take (2 ^ n.radix) ∧ d.caps.length = 2 ^ n.radix ∧ n.Wf := by
 rcases h.rel id with ⟨_, e⟩ | ⟨n, d', hn, e, hr, hc⟩
 ·
  rw [e] at hd; cases hd
 ·
  rw [e] at hd; cases hd
  have hw := (h.wf _ _ hn).1
  refine ⟨n, hn, hr, hc, ?_, hw⟩
  rw [hc, List.length_take, hw.len]
  have := pow16 hw.hi
  omega
theorem rel_cap (s : SlotM) : S.cap? s = dcap? l s := by
 unfold StoreM.cap? dcap?
 rcases h.rel s.1 with ⟨e1, e2⟩ | ⟨n, d, hn, e, hr, hc⟩
 ·
  rw [e1, e2]
 ·
  obtain ⟨n', hn', _, _, hl, hw⟩ := rel_find h e
  rw [hn] at hn'; cases hn'
  rw [hn, e]
  dsimp only
  by_cases hh : n.has s.2
  ·
   have hh2 := hh
   unfold NodeM.has at hh2
   rw [if_pos hh, if_pos (by rw [hl]; exact hh2), hc, List.getElem?_take, if_pos (by omega)]
  ·
   have hh2 := hh
   unfold NodeM.has at hh2
   rw [if_neg hh, if_neg (by rw [hl]; exact hh2)]
theorem rel_get (s : SlotM) : S.get s = dget l s := by unfold StoreM.get dget; rw [rel_cap h]; cases dcap? l s <;> rfl
theorem rel_radix (id : Int) : S.radix id = dradix l id := by
 unfold StoreM.radix dradix
 rcases h.rel id with ⟨e1, e2⟩ | ⟨n, d, hn, e, hr, hc⟩
 ·
  rw [e1, e2]
 ·
  rw [hn, e]; dsimp only; rw [hr]
end
theorem dIds_set {l : List DN} {i : Nat} {d d' : DN} (hd : l[i]? = some d) (he : d'.id = d.id) : dIds (l.set i d') = dIds l := by
 apply List.ext_getElem?
 intro j
 unfold dIds
 rw [List.getElem?_map, List.getElem?_map, List.getElem?_set]
 by_cases hij : i = j
 ·
  subst hij
  rw [if_pos rfl, if_pos (d_lt hd), hd]; simp [he]
 ·
  rw [if_neg hij]
theorem dfind_set {id : Int} {d d' : DN} (he : d'.id = d.id) (o : Int) : ∀ {l : List DN}, dfind l id = some d → dfind (l.set (idxM (dIds l) id).toNat d') o = if o = id then some d' else dfind l o
  | [], h => by cases h
  | a :: l, h => by
    have hcons : idxM (dIds (a :: l)) id = if (a.id : Int) = id then 0 else if idxM (dIds l) id < 0 then -1 else idxM (dIds l) id + 1 := rfl
    rw [dfind_cons] at h
    rw [hcons]
    by_cases e : (a.id : Int) = id
    · rw [if_pos e] at h ⊢
      cases h
      show dfind (d' :: l) o = _
      rw [dfind_cons, he, e, dfind_cons, e]
      by_cases ho : o = id
      · rw [if_pos ho.symm, if_pos ho]
      · rw [if_neg (Ne.symm ho), if_neg ho, if_neg (Ne.symm ho)]
    · rw [if_neg e] at h ⊢
      obtain ⟨i, hi, _, _⟩ := dfind_some h
      have ih := dfind_set he o h
      rw [hi] at ih ⊢
      rw [if_neg (by omega), show ((i : Int) + 1).toNat = i + 1 by omega, List.set_cons_succ, dfind_cons, dfind_cons, ← show (i : Int).toNat = i by omega, ih]
      by_cases ho : o = id
      · subst ho; simp [e]
      · simp [ho]
theorem rel_set {S : StoreM} {l : List DN} (h : Rel S l) {s : SlotM} {x : CapM} (hx : S.cap? s = some x) {c : CapM} (hc : c.kind ≠ 0 → checkM c = 0) (hz : c.kind = 0 → c = CapM.zero) : Rel (S.setCap s c) (dsetC l s c) := by
 have hx2 := hx
 rw [rel_cap h] at hx2
 obtain ⟨d, hd, hh, hxd⟩ := dcap_some hx2
 obtain ⟨i, hi, hid, hdid⟩ := dfind_some hd
 have hds := dsetC_eq hd hi c
 have hdi : dIds (dsetC l s c) = dIds l := by rw [hds]; exact dIds_set hid rfl
 obtain ⟨n, hn, hr, hcd, hl, hw⟩ := rel_find h hd
 have tz : ∀ o m i d, nget o (S.setCap s c).nodes = some m → m.caps[i]? = some d → (d.kind ≠ 0 → i < 2 ^ m.radix ∧ checkM d = 0) ∧ (d.kind = 0 → d = CapM.zero) := by
  intro o m i d hm hmd
  obtain ⟨m', hm', hh', hmc, e⟩ := setCap_nget hx c o
  rw [e] at hm
  split at hm
  ·
   cases hm
   by_cases hi : i = s.2.toNat
   ·
    subst hi
    have hl := (List.getElem?_eq_some_iff.1 hmc).1
    simp only [NodeM.set, List.getElem?_set_self hl] at hmd
    cases hmd
    have := hh'.1; have := hh'.2
    exact ⟨fun hk => ⟨by simp only [NodeM.set]; omega, hc hk⟩, hz⟩
   ·
    have : s.2.toNat ≠ i := fun e => hi e.symm
    simp only [NodeM.set, List.getElem?_set_ne this] at hmd
    exact ⟨fun hk => h.tidy _ m' i d hm' hmd hk, fun hk => h.zero _ m' i d hm' hmd hk⟩
  ·
   exact ⟨fun hk => h.tidy o m i d hm hmd hk, fun hk => h.zero o m i d hm hmd hk⟩
 refine ⟨setCap_wf hx _ h.wf, fun o m i d hm hmd hk => (tz o m i d hm hmd).1 hk, setCap_uniq h.uniq, fun o m i d hm hmd hk => (tz o m i d hm hmd).2 hk, by rw [hdi]; exact h.srt, by rw [hdi]; exact h.lt, fun o => ?_⟩
 obtain ⟨m, hm, _, _, e⟩ := setCap_nget hx c o
 rw [hn] at hm; cases hm
 have e2 : dfind (dsetC l s c) o = if o = s.1 then some { d with caps := d.caps.set s.2.toNat c } else dfind l o := by
  rw [hds, ← show (i : Int).toNat = i by omega, ← hi]; exact dfind_set (d := d) (d' := { d with caps := d.caps.set s.2.toNat c }) rfl o hd
 unfold RelN
 rw [e, e2]
 by_cases ho : o = s.1
 ·
  rw [if_pos ho, if_pos ho]
  refine .inr ⟨_, _, rfl, rfl, hr, ?_⟩
  show d.caps.set s.2.toNat c = (n.caps.set s.2.toNat c).take (2 ^ n.radix)
  rw [List.take_set, ← hcd]
 ·
  rw [if_neg ho, if_neg ho]; exact h.rel o
theorem rel_put {S : StoreM} {l : List DN} (h : Rel S l) (s : SlotM) (c : CapM) : (S.put s c).1 = (dput l s c).1 ∧ Rel (S.put s c).2 (dput l s c).2 := by
 unfold StoreM.put dput
 have e := rel_cap h s
 cases hx : S.cap? s with
 | none => rw [hx] at e; rw [← e]; exact ⟨rfl, h⟩
 | some x =>
  rw [hx] at e; rw [← e]
  dsimp only
  split
  ·
   exact ⟨rfl, h⟩
  ·
   rename_i h1
   split
   ·
    exact ⟨rfl, h⟩
   ·
    rename_i h2
    split
    ·
     exact ⟨rfl, h⟩
    ·
     exact ⟨rfl, rel_set h hx (fun _ => by omega) (fun hk => absurd hk h2)⟩
theorem rel_take {S : StoreM} {l : List DN} (h : Rel S l) (s : SlotM) : (S.take s).1 = (dtake l s).1 ∧ (S.take s).2.1 = (dtake l s).2.1 ∧ Rel (S.take s).2.2 (dtake l s).2.2 := by
 unfold StoreM.take dtake
 have e := rel_cap h s
 cases hx : S.cap? s with
 | none => rw [hx] at e; rw [← e]; exact ⟨rfl, rfl, h⟩
 | some x =>
  rw [hx] at e; rw [← e]
  dsimp only
  by_cases hk : x.kind = 0
  ·
   obtain ⟨n, hn, _, hc, _⟩ := S.cap_some hx
   rw [if_pos hk, if_pos hk]
   exact ⟨(h.zero _ n _ x hn hc hk).symm, rfl, h⟩
  ·
   rw [if_neg hk, if_neg hk]
   exact ⟨rfl, rfl, rel_set h hx (fun hk => absurd rfl hk) (fun _ => rfl)⟩
theorem addNode_zero {S : StoreM} (hz : S.Zero) {id : Int} (h : nget id S.nodes = none) (b r : Nat) : (S.addNode id b r).Zero := by
 intro o n i c hn hc hk
 rw [addNode_nget h] at hn
 split at hn
 ·
  cases hn; exact List.eq_of_mem_replicate (List.mem_of_getElem? hc)
 ·
  exact hz o n i c hn hc hk
theorem rel_addErr {S : StoreM} {l : List DN} (h : Rel S l) (id r : Int) : addErr S id r = daddErr l id r := by
 unfold addErr daddErr
 rcases h.rel id with ⟨e1, e2⟩ | ⟨n, d, hn, e, _, _⟩
 ·
  rw [e1, e2]; rfl
 ·
  rw [hn, e]; rfl
theorem rel_add {S : StoreM} {l : List DN} (h : Rel S l) {id r : Int} (he : addErr S id r = 0) {n : Nat} (hp : dPlace l id n) (b cb : Nat) : Rel (S.addNode id b r.toNat) (l.take n ++ newN id.toNat r.toNat cb :: l.drop n) := by
 unfold addErr at he
 split at he
 ·
  cases he
 rename_i hr
 have hn : nget id S.nodes = none := by
  cases e : nget id S.nodes with
  | none => rfl
  | some m => rw [e] at he; cases he
 have hd : dfind l id = none := by
  rcases h.rel id with ⟨_, e2⟩ | ⟨m, d, hm, _⟩
  ·
   exact e2
  ·
   rw [hn] at hm; cases hm
 obtain ⟨m, rfl⟩ : ∃ m : Nat, id = m := ⟨id.toNat, by omega⟩
 obtain ⟨k, rfl⟩ : ∃ k : Nat, r = k := ⟨r.toNat, by omega⟩
 rw [Int.toNat_natCast, Int.toNat_natCast]
 have hids : dIds (l.take n ++ newN m k cb :: l.drop n) = (dIds l).take n ++ (m : Int) :: (dIds l).drop n := by simp [dIds, newN, List.map_take, List.map_drop]
 have hne : ∀ d, d ∈ l → (d.id : Int) ≠ m := fun d hdm e => by
  have := dfind_self h.srt hdm
  rw [e, hd] at this; cases this
 have hlo : ∀ x, x ∈ (dIds l).take n → x < (m : Int) := by
  intro x hx
  obtain ⟨j, hj⟩ := List.getElem?_of_mem hx
  have hjn : j < n := by
   have := (List.getElem?_eq_some_iff.1 hj).1
   rw [List.length_take] at this; omega
  rw [List.getElem?_take, if_pos hjn] at hj
  unfold dIds at hj
  rw [List.getElem?_map] at hj
  obtain ⟨d, hdj, rfl⟩ := Option.map_eq_some_iff.1 hj
  exact hp.2.1 j d hjn hdj
 have hhi : ∀ x, x ∈ (dIds l).drop n → (m : Int) < x := by
  intro x hx
  rcases Nat.lt_or_ge n l.length with hlt | hge
  ·
   have hdn : l[n]? = some l[n] := List.getElem?_eq_getElem hlt
   have h1 := hp.2.2 _ hdn
   have h2 := hne _ (List.mem_of_getElem? hdn)
   have hs := h.srt.sublist (List.drop_sublist n (dIds l))
   have hc : (dIds l).drop n = (l[n].id : Int) :: (dIds l).drop (n + 1) := by
    rw [List.drop_eq_getElem_cons (by rw [dIds_len]; exact hlt)]; simp [dIds]
   rw [hc] at hs hx
   rw [List.pairwise_cons] at hs
   rcases List.mem_cons.1 hx with rfl | hx
   ·
    omega
   ·
    have := hs.1 x hx; omega
  ·
   rw [List.drop_of_length_le (by rw [dIds_len]; exact hge)] at hx; cases hx
 refine ⟨addNode_wf hn _ _ h.wf (by omega) (by omega) (by omega) (by omega), tidy_add h.tidy hn _ _, addNode_uniq h.uniq hn, addNode_zero h.zero hn _ _, ?_, ?_, fun o => ?_⟩
 ·
  rw [hids, List.pairwise_append, List.pairwise_cons]
  refine ⟨h.srt.sublist (List.take_sublist _ _), ⟨hhi, h.srt.sublist (List.drop_sublist _ _)⟩, fun a ha b hb => ?_⟩
  rcases List.mem_cons.1 hb with rfl | hb
  ·
   exact hlo a ha
  ·
   have := hlo a ha; have := hhi b hb; omega
 ·
  rw [hids]
  intro x hx
  rcases List.mem_append.1 hx with hx | hx
  ·
   exact h.lt x (List.mem_of_mem_take hx)
  ·
   rcases List.mem_cons.1 hx with rfl | hx
   ·
    omega
   ·
    exact h.lt x (List.mem_of_mem_drop hx)
 ·
  have ed : dfind (l.take n ++ newN m k cb :: l.drop n) o = if o = (m : Int) then some (newN m k cb) else dfind l o := by
   have e0 : dfind l o = (dfind (l.take n) o).or (dfind (l.drop n) o) := by rw [← dfind_app, List.take_append_drop]
   rw [dfind_app, dfind_cons]
   by_cases ho : o = (m : Int)
   ·
    subst ho
    have e1 : dfind (l.take n) (m : Int) = none := by
     rw [hd] at e0
     cases e : dfind (l.take n) (m : Int) with
     | none => rfl
     | some z => rw [e] at e0; cases e0
    rw [if_pos rfl, e1, if_pos (by simp [newN])]; rfl
   ·
    rw [if_neg ho, if_neg (by simp [newN]; omega), e0]
  unfold RelN
  rw [ed, addNode_nget hn]
  by_cases ho : o = (m : Int)
  ·
   rw [if_pos ho, if_pos ho]
   refine .inr ⟨_, _, rfl, rfl, rfl, ?_⟩
   show List.replicate (2 ^ k) CapM.zero = zeroCaps.take (2 ^ k)
   have := pow16 (r := k) (by omega)
   unfold zeroCaps
   rw [List.take_replicate, Nat.min_eq_left this]
  ·
   rw [if_neg ho, if_neg ho]; exact h.rel o
theorem dfind_del {id : Int} {d : DN} (o : Int) : ∀ {l : List DN}, (dIds l).Pairwise (· < ·) → dfind l id = some d → dfind (l.eraseIdx (idxM (dIds l) id).toNat) o = if o = id then none else dfind l o
  | [], _, h => by cases h
  | a :: l, hs, h => by
    have hcons : idxM (dIds (a :: l)) id = if (a.id : Int) = id then 0 else if idxM (dIds l) id < 0 then -1 else idxM (dIds l) id + 1 := rfl
    have hs' : (((a.id : Nat) : Int) :: dIds l).Pairwise (· < ·) := hs
    rw [List.pairwise_cons] at hs'
    rw [dfind_cons] at h
    rw [hcons]
    by_cases e : (a.id : Int) = id
    · rw [if_pos e] at h ⊢
      cases h
      show dfind l o = _
      rw [dfind_cons, e]
      by_cases ho : o = id
      · rw [if_pos ho, ho]
        cases hf : dfind l id with
        | none => rfl
        | some d =>
          obtain ⟨_, _, hi, hd⟩ := dfind_some hf
          have := hs'.1 d.id (List.mem_map.2 ⟨d, List.mem_of_getElem? hi, rfl⟩)
          omega
      · rw [if_neg ho, if_neg (Ne.symm ho)]
    · rw [if_neg e] at h ⊢
      obtain ⟨i, hi, _, _⟩ := dfind_some h
      have ih := dfind_del o hs'.2 h
      rw [hi] at ih ⊢
      rw [if_neg (by omega), show ((i : Int) + 1).toNat = i + 1 by omega, List.eraseIdx_cons_succ, dfind_cons, dfind_cons, ← show (i : Int).toNat = i by omega, ih]
      by_cases ho : o = id
      · subst ho; simp [e]
      · simp [ho]
theorem rel_del {S : StoreM} {l : List DN} (h : Rel S l) {id : Int} {d : DN} (hd : dfind l id = some d) : Rel (S.delNode id) (ddel l id) := by
 have hng : ∀ o, nget o (S.delNode id).nodes = if o = id then none else nget o S.nodes := nget_ndel h.uniq
 have hsome : ∀ {o n}, nget o (S.delNode id).nodes = some n → nget o S.nodes = some n := by
  intro o n hn
  rw [hng] at hn
  split at hn
  ·
   cases hn
  ·
   exact hn
 have hsub : (dIds (ddel l id)).Sublist (dIds l) := (List.eraseIdx_sublist _ _).map _
 refine ⟨fun o n hn => h.wf o n (hsome hn), fun o n i c hn => h.tidy o n i c (hsome hn), ndel_uniq h.uniq, fun o n i c hn => h.zero o n i c (hsome hn), h.srt.sublist hsub, fun x hx => h.lt x (hsub.subset hx), fun o => ?_⟩
 unfold RelN
 have e2 : dfind (ddel l id) o = if o = id then none else dfind l o := dfind_del o h.srt hd
 rw [hng, e2]
 by_cases ho : o = id
 ·
  rw [if_pos ho, if_pos ho]; exact .inl ⟨rfl, rfl⟩
 ·
  rw [if_neg ho, if_neg ho]; exact h.rel o
theorem rel_empty {S : StoreM} {l : List DN} (h : Rel S l) {id : Int} {d : DN} (hd : dfind l id = some d) : ∃ n, nget id S.nodes = some n ∧ (dempty d ↔ n.caps = zeroCaps) := by
 obtain ⟨n, hn, hr, hc, hl, hw⟩ := rel_find h hd
 refine ⟨n, hn, fun he => ?_, fun he c hcm => ?_⟩
 ·
  rw [zeroCaps, List.eq_replicate_iff]
  refine ⟨hw.len, fun c hcm => ?_⟩
  obtain ⟨j, hj⟩ := List.getElem?_of_mem hcm
  by_cases hk : c.kind = 0
  ·
   exact h.zero _ n j c hn hj hk
  ·
   have := (h.tidy _ n j c hn hj hk).1
   refine absurd (he c ?_) hk
   rw [hc]
   refine List.mem_of_getElem? (i := j) ?_
   rw [List.getElem?_take, if_pos this]; exact hj
 ·
  rw [hc, he] at hcm
  rw [List.eq_of_mem_replicate (List.mem_of_mem_take hcm)]
theorem rel_drop_none {S : StoreM} {l : List DN} (h : Rel S l) {id : Int} (hd : dfind l id = none) : S.drop id = (3, S) := by
 unfold StoreM.drop
 rcases h.rel id with ⟨e1, _⟩ | ⟨_, _, _, e, _⟩
 ·
  rw [e1]
 ·
  rw [hd] at e; cases e
theorem rel_drop_full {S : StoreM} {l : List DN} (h : Rel S l) {id : Int} {d : DN} (hd : dfind l id = some d) (he : ¬ dempty d) : S.drop id = (8, S) := by
 obtain ⟨n, hn, hi⟩ := rel_empty h hd
 exact drop_full hn (fun e => he (hi.2 e))
theorem rel_drop_empty {S : StoreM} {l : List DN} (h : Rel S l) {id : Int} {d : DN} (hd : dfind l id = some d) (he : dempty d) : S.drop id = (0, S.delNode id) := by
 obtain ⟨n, hn, hi⟩ := rel_empty h hd
 exact drop_empty hn (hi.1 he)
theorem nodeFull_take (id : Nat) (caps : List CapM) (m : Nat) : ∀ j, j ≤ m → nodeFull id (caps.take m) j = nodeFull id caps j
  | 0, _ => rfl
  | j + 1, h => by
    have e : (caps.take m)[j]? = caps[j]? := by rw [List.getElem?_take, if_pos (by omega)]
    unfold nodeFull
    rw [e, nodeFull_take id caps m j (by omega)]
theorem nodeFull_rest (id : Nat) (caps : List CapM) (m : Nat) (h : ∀ j, m ≤ j → (caps[j]?.getD CapM.zero).kind = 0) : ∀ k, nodeFull id caps (m + k) = nodeFull id caps m
  | 0 => rfl
  | k + 1 => by
    show nodeFull id caps (m + k) ++ _ = _
    rw [nodeFull_rest id caps m h k, if_neg (fun e => e (h (m + k) (by omega))), List.append_nil]
def dfull1 (l : List DN) (id : Nat) : List SlotM := match dfind l (id : Int) with | none => [] | some d => nodeFull d.id d.caps d.caps.length
theorem rel_full1 {S : StoreM} {l : List DN} (h : Rel S l) (id : Nat) : full1 S id = dfull1 l id := by
 unfold full1 dfull1
 rcases h.rel id with ⟨e1, e2⟩ | ⟨n, d, hn, e, hr, hc⟩
 ·
  rw [e1, e2]
 ·
  obtain ⟨n', hn', _, _, hl, hw⟩ := rel_find h e
  rw [hn] at hn'; cases hn'
  obtain ⟨_, _, _, hid⟩ := dfind_some e
  rw [hn, e]
  dsimp only
  have hid' : d.id = id := by omega
  have := pow16 hw.hi
  rw [hl, hc, hid', nodeFull_take _ _ _ _ (Nat.le_refl _)]
  obtain ⟨k, hk⟩ : ∃ k, 16 = 2 ^ n.radix + k := ⟨16 - 2 ^ n.radix, by omega⟩
  rw [hk]
  refine nodeFull_rest _ _ _ (fun j hj => ?_) k
  cases hcj : n.caps[j]? with
  | none => rfl
  | some c =>
   rw [Option.getD_some]
   by_cases hk : c.kind = 0
   ·
    exact hk
   ·
    have := (h.tidy _ n j c hn hcj hk).1; omega
theorem filter_succ {k : Nat} : ∀ {l : List DN}, (dIds l).Pairwise (· < ·) → l.filter (fun d => decide (d.id < k + 1)) = l.filter (fun d => decide (d.id < k)) ++ (dfind l (k : Int)).toList
  | [], _ => rfl
  | a :: l, hs => by
    have hs' : (((a.id : Nat) : Int) :: dIds l).Pairwise (· < ·) := hs
    rw [List.pairwise_cons] at hs'
    have ih := filter_succ (k := k) hs'.2
    have hall : ∀ d, d ∈ l → a.id < d.id := fun d hd => by have := hs'.1 d.id (List.mem_map.2 ⟨d, hd, rfl⟩); omega
    rw [dfind_cons]
    by_cases h1 : a.id < k
    · rw [List.filter_cons_of_pos (by simp; omega), List.filter_cons_of_pos (by simp; omega), ih, if_neg (by omega), List.cons_append]
    · have hn : l.filter (fun d => decide (d.id < k)) = [] := by rw [List.filter_eq_nil_iff]; intro d hd; have := hall d hd; simp; omega
      have hn2 : l.filter (fun d => decide (d.id < k + 1)) = [] := by rw [List.filter_eq_nil_iff]; intro d hd; have := hall d hd; simp; omega
      by_cases h2 : a.id = k
      · rw [List.filter_cons_of_pos (by simp; omega), List.filter_cons_of_neg (by simp; omega), hn, hn2, if_pos (by omega)]; rfl
      · have hf : dfind l (k : Int) = none := by
          cases e : dfind l (k : Int) with
          | none => rfl
          | some d =>
            obtain ⟨_, _, hi, hd⟩ := dfind_some e
            have := hall d (List.mem_of_getElem? hi); omega
        rw [List.filter_cons_of_neg (by simp; omega), List.filter_cons_of_neg (by simp; omega), hn, hn2, if_neg (by omega), hf]; rfl
theorem fullUpto_eq {S : StoreM} {l : List DN} (h : Rel S l) : ∀ k, fullUpto S k = dfull (l.filter fun d => decide (d.id < k))
  | 0 => by
    have : l.filter (fun d => decide (d.id < 0)) = [] := by rw [List.filter_eq_nil_iff]; intro d _; simp
    rw [this]; rfl
  | k + 1 => by
    unfold fullUpto
    rw [fullUpto_eq h k, filter_succ h.srt, rel_full1 h]
    unfold dfull dfull1
    rw [List.flatMap_append]
    congr 1
    cases dfind l (k : Int) with
    | none => rfl
    | some d => simp
theorem rel_full {S : StoreM} {l : List DN} (h : Rel S l) : fullM S = dfull l := by
 unfold fullM
 rw [fullUpto_eq h, List.filter_eq_self.2]
 intro d hd
 have := h.lt d.id (List.mem_map.2 ⟨d, hd, rfl⟩)
 simp; omega
theorem rel_count {S : StoreM} {l : List DN} (h : Rel S l) (k o : Int) : countM S k o = dcount l k o := by
 unfold countM dcount isKO
 rw [rel_full h]
 congr 1
 funext s
 rw [rel_get h]
theorem sorted_len : ∀ {l : List Int} {a b : Int}, l.Pairwise (· < ·) → (∀ x, x ∈ l → a ≤ x ∧ x < b) → a ≤ b → (l.length : Int) ≤ b - a
  | [], a, b, _, _, h => by simp; omega
  | x :: l, a, b, hs, hb, h => by
    rw [List.pairwise_cons] at hs
    have hx := hb x (List.mem_cons_self ..)
    have ih := sorted_len (a := x + 1) (b := b) hs.2 (fun y hy => ⟨by have := hs.1 y hy; omega, (hb y (List.mem_cons_of_mem _ hy)).2⟩) (by omega)
    rw [List.length_cons]; omega
theorem rel_len {S : StoreM} {l : List DN} (h : Rel S l) : l.length ≤ 64 := by
 have := sorted_len (a := 0) (b := 64) h.srt (fun x hx => ⟨by obtain ⟨d, _, rfl⟩ := List.mem_map.1 hx; omega, h.lt x hx⟩) (by omega)
 rw [dIds_len] at this; omega
end Go.Proofs.Ytdodfnjmkpgdbaa
end
section
set_option linter.unusedVariables false
set_option linter.unusedSimpArgs false
namespace Go.SL
def isC (L : Hp) (b : Nat) : Prop := ∃ c T, (b, Obj.cells c T (0, 0)) ∈ L
theorem isC.mono {L M : Hp} {b : Nat} (h : isC L b) (hm : ∀ p, p ∈ L → p ∈ M) : isC M b := by
 obtain ⟨c, T, h⟩ := h; exact ⟨c, T, hm _ h⟩
section ptrs
variable {P : Program} {n : Nat} {D : List Deferred} {E : Env} {L : Hp} {d : Option Tmp} {ty : TypeId} {pos : String} {aft : Array Edge} {g : Option (Nat × Bool)} {T : TypeId} {x y : Operand}
theorem run_eql_ptr {e k b1 b2 : Nat} {w : World} [h : TyD P T (.pointer e)] [hk : TyS P e k] (hk0 : k ≠ 0) (h1 : isC L b1) (h2 : isC L b2) (hh : Held L w) :
    (Op.equal T (.pointer (some ⟨b1, 0, none⟩)) (.pointer (some ⟨b2, 0, none⟩))).run P w = .ok (decide (b1 = b2)) w := by
  obtain ⟨c1, T1, h1⟩ := h1
  obtain ⟨c2, T2, h2⟩ := h2
  have e1 := hh _ h1
  have e2 := hh _ h2
  have key : ∀ d, (Op.equalIn (d + 1) T (.pointer (some ⟨b1, 0, none⟩)) (.pointer (some ⟨b2, 0, none⟩))).run P w = .ok (decide (b1 = b2)) w := fun d => by
    by_cases hb : b1 = b2
    · subst hb
      simp [Op.equalIn, TyD.run, TyS.run, hk0, run_sameAddr_same]
    · have hne : (⟨b1, 0, none⟩ : Addr) ≠ ⟨b2, 0, none⟩ := by intro e; cases e; exact hb rfl
      simp [Op.equalIn, TyD.run, TyS.run, hk0, run_sameAddr_other w hne e1 e2, hb]
  exact key 9999
theorem pv_eql_ptr {b1 b2 e k : Nat} {yt : TypeId} (hx : ev E x = some (.pointer (some ⟨b1, 0, none⟩))) (hy : ev E y = some (.pointer (some ⟨b2, 0, none⟩))) (h1 : isC L b1) (h2 : isC L b2) [h : TyD P T (.pointer e)] [hk : TyS P e k] (hk0 : k ≠ 0) :
    Pv P n D E L ⟨d, .binOp .eql T x y yt, ty, pos, aft, g⟩ (.bool (decide (b1 = b2))) := by
  unfold Pv
  intro a w hs hh
  simp [execOp, hs.ev hx, hs.ev hy, eqGuard, binOp, run_eql_ptr hk0 h1 h2 hh]
end ptrs
section nd
variable {P : Program} {W : World} {ops : Array Oper} {Q : Exit → Act → World → Prop} {n : Nat} {D : List Deferred} {E : Env} {L : Hp} {rest : List Oper}
theorem Ops.nd (h : (L.map Prod.fst).Nodup → Ops P W ops Q n D rest E L) : Ops P W ops Q n D rest E L := by
 unfold Ops at h ⊢
 exact fun a w hs ho => h ho.nd a w hs ho
theorem Wp.nd {c : Code} (h : (L.map Prod.fst).Nodup → Wp P W Q n D c E L) : Wp P W Q n D c E L := by
 unfold Wp at h ⊢
 exact fun a w hs ho => h ho.nd a w hs ho
theorem Ends.nd {e : Exit} (h : (L.map Prod.fst).Nodup → Ends W Q n D e E L) : Ends W Q n D e E L := by
 unfold Ends at h ⊢
 exact fun a w hs ho => h ho.nd a w hs ho
theorem Ops.ndD (M : Hp) [hd : Drop L M] (h : (M.map Prod.fst).Nodup → Ops P W ops Q n D rest E L) : Ops P W ops Q n D rest E L := by
 unfold Ops at h ⊢
 exact fun a w hs ho => h (hd.own ho).nd a w hs ho
end nd
def ptrE (b : Nat) : List Value := [.pointer (some ⟨b, 0, none⟩)]
instance : Enc ptrE 1 := ⟨fun _ => rfl, fun _ => rfl⟩
abbrev ptsC (l : List Nat) : List Value := cel ptrE l
theorem ptsC_app (l m : List Nat) : ptsC (l ++ m) = ptsC l ++ ptsC m := cel_app l m
theorem ptsC_one (l : List Nat) : (ptsC l).all Value.oneCell' = true := cel_one l
theorem pts_nth {cc : List Value} {o i : Nat} {l : List Nat} {x : Nat} (hr : Reads cc o (ptsC l)) (h : l[i]? = some x) : nth cc (o + i * 1) = some (.pointer (some ⟨x, 0, none⟩)) := (cel_reads (f := ptrE) hr h).1
structure SP where
  a : Option Addr
  c : Nat
  l : List Nat
abbrev SP.v (s : SP) : Value := .slice s.a s.l.length s.c
def catP (ss : List SP) : List Nat := ss.flatMap SP.l
def catPto (ss : List SP) (i : Nat) : List Nat := catP (ss.take i)
theorem catPto_succ {ss : List SP} {i : Nat} {s : SP} (h : ss[i]? = some s) : catPto ss (i + 1) = catPto ss i ++ s.l := by
 unfold catPto catP
 rw [List.take_add_one, h, List.flatMap_append]; simp
theorem catPto_all (ss : List SP) : catPto ss ss.length = catP ss := by unfold catPto; rw [List.take_length]
theorem catPto_len (ss : List SP) : ∀ i, (catPto ss i).length ≤ (catP ss).length := fun i => by
 unfold catPto catP
 have : ss.flatMap SP.l = (ss.take i).flatMap SP.l ++ (ss.drop i).flatMap SP.l := by rw [← List.flatMap_append, List.take_append_drop]
 rw [this, List.length_append]; omega
theorem sp_nth {ss : List SP} {i : Nat} {s : SP} (h : ss[i]? = some s) : nth (ss.map SP.v) (0 + i * 1) = some s.v := by
 rw [nth_eq, Nat.zero_add, Nat.mul_one, List.getElem?_map, h]; rfl
def idxN : List Nat → Nat → Int
  | [], _ => -1
  | a :: l, x => if a = x then 0 else if idxN l x < 0 then -1 else idxN l x + 1
theorem idxN_hit : ∀ {l : List Nat} {i : Nat} {x : Nat}, l[i]? = some x → (∀ j, j < i → l[j]? ≠ some x) → idxN l x = i
  | [], i, x, h, _ => by simp at h
  | a :: l, 0, x, h, _ => by simp at h; simp [idxN, h]
  | a :: l, i + 1, x, h, hn => by
    have h0 : a ≠ x := fun e => hn 0 (by omega) (by simp [e])
    have ih := idxN_hit (l := l) (i := i) (x := x) (by simpa using h) (fun j hj => by have := hn (j + 1) (by omega); simpa using this)
    simp only [idxN, if_neg h0, ih]
    rw [if_neg (by omega)]; push_cast; rfl
theorem idxN_miss : ∀ {l : List Nat} {x : Nat}, (∀ j, j < l.length → l[j]? ≠ some x) → idxN l x = -1
  | [], _, _ => rfl
  | a :: l, x, hn => by
    have h0 : a ≠ x := fun e => hn 0 (by simp) (by simp [e])
    have ih := idxN_miss (l := l) (x := x) (fun j hj => by have := hn (j + 1) (by simpa using hj); simpa using this)
    simp only [idxN, if_neg h0, ih]; rfl
theorem idxN_map (f : Nat → Nat) : ∀ {l : List Nat} {x : Nat}, (∀ a, a ∈ l → f a = f x → a = x) → idxN (l.map f) (f x) = idxN l x
  | [], _, _ => rfl
  | a :: l, x, h => by
    have ih := idxN_map f (l := l) (x := x) (fun b hb => h b (List.mem_cons_of_mem _ hb))
    simp only [List.map_cons, idxN, ih]
    by_cases e : a = x
    · rw [if_pos e, if_pos (by rw [e])]
    · rw [if_neg e, if_neg (fun e2 => e (h a (List.mem_cons_self ..) e2))]
end Go.SL
end
section
set_option linter.unusedVariables false
set_option linter.unusedSimpArgs false
set_option linter.unusedSectionVars false
namespace Go.Proofs.Ytdodfnjmkpgdbaa
inductive Fo (α : Type) where
  | nil : Fo α
  | cons (i : α) (c r : Fo α) : Fo α
namespace Fo
section
variable {α : Type}
def app : (Fo α) → (Fo α) → (Fo α)
  | .nil, g => g
  | .cons i c r, g => .cons i c (app r g)
def all : (Fo α) → List α
  | .nil => []
  | .cons i c r => i :: (all c ++ all r)
def roots : (Fo α) → List α
  | .nil => []
  | .cons i _ r => i :: roots r
def OkK (kids : α → List α) : (Fo α) → Prop
  | .nil => True
  | .cons i c r => kids i = roots c ∧ OkK kids c ∧ OkK kids r
def OkP (par : α → Option α) : (Fo α) → Option α → Prop
  | .nil, _ => True
  | .cons i c r, p => par i = p ∧ OkP par c (some i) ∧ OkP par r p
def one (y : α) : (Fo α) := .cons y .nil .nil
end
variable {α : Type} [DecidableEq α]
def sub (x : α) : (Fo α) → (Fo α)
  | .nil => .nil
  | .cons i c r => if i = x then c else if x ∈ all c then sub x c else sub x r
def parO (x : α) : (Fo α) → Option α → Option α
  | .nil, _ => none
  | .cons i c r, p => if i = x then p else if x ∈ all c then parO x c (some i) else parO x r p
def drop (x : α) : (Fo α) → (Fo α)
  | .nil => .nil
  | .cons i c r => if i = x then app c r else .cons i (drop x c) (drop x r)
def addc (x y : α) : (Fo α) → (Fo α)
  | .nil => .nil
  | .cons i c r => if i = x then .cons i (app c (.cons y .nil .nil)) r else .cons i (addc x y c) (addc x y r)
theorem all_app : ∀ f g : (Fo α), all (app f g) = all f ++ all g
  | .nil, g => rfl
  | .cons i c r, g => by simp [app, all, all_app r g]
theorem roots_app : ∀ f g : (Fo α), roots (app f g) = roots f ++ roots g
  | .nil, g => rfl
  | .cons i c r, g => by simp [app, roots, roots_app r g]
theorem roots_sub_all : ∀ (f : (Fo α)) (x : α), x ∈ roots f → x ∈ all f
  | .nil, _, h => by cases h
  | .cons i c r, x, h => by
    simp only [roots, List.mem_cons, all, List.mem_append] at h ⊢
    rcases h with h | h
    · exact .inl h
    · exact .inr (.inr (roots_sub_all r x h))
theorem sub_all : ∀ (f : (Fo α)) (x z : α), z ∈ all (sub x f) → z ∈ all f
  | .nil, _, _, h => h
  | .cons i c r, x, z, h => by
    simp only [sub] at h
    simp only [all, List.mem_cons, List.mem_append]
    split at h
    · exact .inr (.inl h)
    · split at h
      · exact .inr (.inl (sub_all c x z h))
      · exact .inr (.inr (sub_all r x z h))
theorem sub_no : ∀ (f : (Fo α)) (x : α), x ∉ all f → sub x f = .nil
  | .nil, _, _ => rfl
  | .cons i c r, x, h => by
    simp only [all, List.mem_cons, List.mem_append, not_or] at h
    simp only [sub]
    rw [if_neg (Ne.symm h.1), if_neg h.2.1, sub_no r x h.2.2]
theorem drop_no : ∀ (f : (Fo α)) (x : α), x ∉ all f → drop x f = f
  | .nil, _, _ => rfl
  | .cons i c r, x, h => by
    simp only [all, List.mem_cons, List.mem_append, not_or] at h
    simp only [drop]
    rw [if_neg (Ne.symm h.1), drop_no c x h.2.1, drop_no r x h.2.2]
theorem addc_no (y : α) : ∀ (f : (Fo α)) (x : α), x ∉ all f → addc x y f = f
  | .nil, _, _ => rfl
  | .cons i c r, x, h => by
    simp only [all, List.mem_cons, List.mem_append, not_or] at h
    simp only [addc]
    rw [if_neg (Ne.symm h.1), addc_no y c x h.2.1, addc_no y r x h.2.2]
def Nd {α : Type} (f : (Fo α)) : Prop := (all f).Nodup
theorem nd_cons {i : α} {c r : (Fo α)} (h : Nd (.cons i c r)) : i ∉ all c ∧ i ∉ all r ∧ Nd c ∧ Nd r ∧ ∀ z, z ∈ all c → z ∉ all r := by
 unfold Nd at h
 simp only [all, List.nodup_cons, List.mem_append, not_or, List.nodup_append] at h
 exact ⟨h.1.1, h.1.2, h.2.1, h.2.2.1, fun z h1 h2 => h.2.2.2 z h1 z h2 rfl⟩
theorem OkK.sub {kids : α → List α} : ∀ {f : (Fo α)} {x : α}, OkK kids f → x ∈ all f → kids x = roots (sub x f) ∧ OkK kids (sub x f)
  | .nil, _, _, h => by cases h
  | .cons i c r, x, ⟨h1, h2, h3⟩, h => by
    simp only [all, List.mem_cons, List.mem_append] at h
    simp only [Fo.sub]
    by_cases e : i = x
    · rw [if_pos e]; exact ⟨e ▸ h1, h2⟩
    · rw [if_neg e]
      by_cases e2 : x ∈ all c
      · rw [if_pos e2]; exact OkK.sub h2 e2
      · rw [if_neg e2]
        exact OkK.sub h3 (by rcases h with h | h | h; exact absurd h.symm e; exact absurd h e2; exact h)
theorem OkP.at {par : α → Option α} : ∀ {f : (Fo α)} {p : Option α} {x : α}, OkP par f p → x ∈ all f → par x = parO x f p
  | .nil, _, _, _, h => by cases h
  | .cons i c r, p, x, ⟨h1, h2, h3⟩, h => by
    simp only [all, List.mem_cons, List.mem_append] at h
    simp only [parO]
    by_cases e : i = x
    · rw [if_pos e]; exact e ▸ h1
    · rw [if_neg e]
      by_cases e2 : x ∈ all c
      · rw [if_pos e2]; exact OkP.at h2 e2
      · rw [if_neg e2]
        exact OkP.at h3 (by rcases h with h | h | h; exact absurd h.symm e; exact absurd h e2; exact h)
theorem OkK.congr {k k' : α → List α} : ∀ {f : (Fo α)}, (∀ z, z ∈ all f → k z = k' z) → OkK k f → OkK k' f
  | .nil, _, _ => trivial
  | .cons i c r, h, ⟨h1, h2, h3⟩ => ⟨by rw [← h i (by simp [all])]; exact h1, OkK.congr (fun z hz => h z (by simp [all, hz])) h2, OkK.congr (fun z hz => h z (by simp [all, hz])) h3⟩
theorem OkP.congr {k k' : α → Option α} : ∀ {f : (Fo α)} {p : Option α}, (∀ z, z ∈ all f → k z = k' z) → OkP k f p → OkP k' f p
  | .nil, _, _, _ => trivial
  | .cons i c r, p, h, ⟨h1, h2, h3⟩ => ⟨by rw [← h i (by simp [all])]; exact h1, OkP.congr (fun z hz => h z (by simp [all, hz])) h2, OkP.congr (fun z hz => h z (by simp [all, hz])) h3⟩
theorem OkK.app {k : α → List α} : ∀ {f g : (Fo α)}, OkK k f → OkK k g → OkK k (Fo.app f g)
  | .nil, _, _, h => h
  | .cons i c r, g, ⟨h1, h2, h3⟩, h => ⟨h1, h2, OkK.app h3 h⟩
theorem OkP.app {k : α → Option α} : ∀ {f g : (Fo α)} {p : Option α}, OkP k f p → OkP k g p → OkP k (Fo.app f g) p
  | .nil, _, _, _, h => h
  | .cons i c r, g, p, ⟨h1, h2, h3⟩, h => ⟨h1, h2, OkP.app h3 h⟩
theorem roots_addc {x y : α} : ∀ f : (Fo α), roots (addc x y f) = roots f
  | .nil => rfl
  | .cons i c r => by
    simp only [addc]
    split
    · rfl
    · simp [roots, roots_addc r]
theorem OkK.addc {k k' : α → List α} {x y : α} (hx : k' x = k x ++ [y]) (hy : k' y = []) : ∀ {f : (Fo α)}, Nd f → y ∉ all f → (∀ z, z ∈ all f → z ≠ x → k' z = k z) → OkK k f → OkK k' (Fo.addc x y f)
  | .nil, _, _, _, _ => trivial
  | .cons i c r, hn, hyf, h, ⟨h1, h2, h3⟩ => by
    obtain ⟨n1, n2, n3, n4, n5⟩ := nd_cons hn
    simp only [all, List.mem_cons, List.mem_append, not_or] at hyf
    simp only [Fo.addc]
    by_cases e : i = x
    · rw [if_pos e]
      subst e
      refine ⟨by rw [hx, h1, roots_app]; rfl, OkK.app (OkK.congr (fun z hz => (h z (by simp [all, hz]) (fun e => n1 (e ▸ hz))).symm) h2) ⟨hy, trivial, trivial⟩, OkK.congr (fun z hz => (h z (by simp [all, hz]) (fun e => n2 (e ▸ hz))).symm) h3⟩
    · rw [if_neg e]
      refine ⟨by rw [roots_addc, h i (by simp [all]) e, h1], OkK.addc hx hy n3 hyf.2.1 (fun z hz => h z (by simp [all, hz])) h2, OkK.addc hx hy n4 hyf.2.2 (fun z hz => h z (by simp [all, hz])) h3⟩
theorem OkP.addc {k : α → Option α} {x y : α} (hy : k y = some x) : ∀ {f : (Fo α)} {p : Option α}, OkP k f p → OkP k (Fo.addc x y f) p
  | .nil, _, _ => trivial
  | .cons i c r, p, ⟨h1, h2, h3⟩ => by
    simp only [Fo.addc]
    by_cases e : i = x
    · rw [if_pos e]
      exact ⟨h1, OkP.app h2 ⟨by rw [hy, e], trivial, trivial⟩, h3⟩
    · rw [if_neg e]
      exact ⟨h1, OkP.addc hy h2, OkP.addc hy h3⟩
def repl (x : α) (l : List α) : List α → List α
  | [] => []
  | a :: m => if a = x then l ++ m else a :: repl x l m
theorem repl_no {x : α} {l : List α} : ∀ {m : List α}, x ∉ m → repl x l m = m
  | [], _ => rfl
  | a :: m, h => by
    simp only [List.mem_cons, not_or] at h
    simp only [repl]; rw [if_neg (Ne.symm h.1), repl_no h.2]
theorem roots_drop {x : α} : ∀ {f : (Fo α)}, Nd f → roots (drop x f) = repl x (roots (sub x f)) (roots f)
  | .nil, _ => rfl
  | .cons i c r, hn => by
    obtain ⟨n1, n2, n3, n4, n5⟩ := nd_cons hn
    simp only [drop, sub, roots, repl]
    by_cases e : i = x
    · rw [if_pos e, if_pos e, if_pos e, roots_app]
    · rw [if_neg e, if_neg e, if_neg e]
      by_cases e2 : x ∈ all c
      · have h3 := n5 x e2
        rw [roots, drop_no r x h3, repl_no (fun hx => h3 (roots_sub_all r x hx))]
      · rw [if_neg e2, roots, roots_drop n4]
theorem parO_root : ∀ {f : (Fo α)} {x : α} {p : Option α}, Nd f → x ∈ roots f → parO x f p = p
  | .nil, _, _, _, h => by cases h
  | .cons i c r, x, p, hn, h => by
    obtain ⟨n1, n2, n3, n4, n5⟩ := nd_cons hn
    simp only [parO]
    by_cases e : i = x
    · rw [if_pos e]
    · rw [if_neg e]
      have hr : x ∈ roots r := by
        simp only [roots, List.mem_cons] at h
        rcases h with h | h
        · exact absurd h.symm e
        · exact h
      rw [if_neg (fun h2 => n5 x h2 (roots_sub_all r x hr)), parO_root n4 hr]
theorem parO_in : ∀ {f : (Fo α)} {x : α} {p : Option α}, Nd f → x ∈ all f → x ∉ roots f → ∃ j, parO x f p = some j ∧ j ∈ all f
  | .nil, _, _, _, h, _ => by cases h
  | .cons i c r, x, p, hn, h, hr => by
    obtain ⟨n1, n2, n3, n4, n5⟩ := nd_cons hn
    simp only [all, List.mem_cons, List.mem_append] at h
    simp only [roots, List.mem_cons, not_or] at hr
    simp only [parO]
    rw [if_neg (Ne.symm hr.1)]
    by_cases e2 : x ∈ all c
    · rw [if_pos e2]
      by_cases e3 : x ∈ roots c
      · exact ⟨i, parO_root n3 e3, by simp [all]⟩
      · obtain ⟨j, h1, h2⟩ := parO_in (p := some i) n3 e2 e3
        exact ⟨j, h1, by simp [all, h2]⟩
    · rw [if_neg e2]
      obtain ⟨j, h1, h2⟩ := parO_in (f := r) (p := p) n4 (by rcases h with h | h | h; exact absurd h hr.1; exact absurd h e2; exact h) hr.2
      exact ⟨j, h1, by simp [all, h2]⟩
theorem parO_mem {f : (Fo α)} {x : α} {p : Option α} {j : α} (hn : Nd f) (hx : x ∈ all f) (h : parO x f p = some j) : p = some j ∨ j ∈ all f := by
 by_cases hr : x ∈ roots f
 ·
  rw [parO_root hn hr] at h; exact .inl h
 ·
  obtain ⟨k, h1, h2⟩ := parO_in (p := p) hn hx hr
  rw [h1] at h; cases h; exact .inr h2
theorem all_drop {x : α} : ∀ {f : (Fo α)} {z : α}, Nd f → (z ∈ all (drop x f) ↔ z ∈ all f ∧ z ≠ x)
  | .nil, _, _ => by simp [drop, all]
  | .cons i c r, z, hn => by
    obtain ⟨n1, n2, n3, n4, n5⟩ := nd_cons hn
    simp only [drop]
    by_cases e : i = x
    · rw [if_pos e, all_app, List.mem_append]
      subst e
      simp only [all, List.mem_cons, List.mem_append]
      constructor
      · rintro (h | h)
        · exact ⟨.inr (.inl h), fun e => n1 (e ▸ h)⟩
        · exact ⟨.inr (.inr h), fun e => n2 (e ▸ h)⟩
      · rintro ⟨h | h | h, h2⟩
        · exact absurd h h2
        · exact .inl h
        · exact .inr h
    · rw [if_neg e]
      simp only [all, List.mem_cons, List.mem_append, all_drop n3, all_drop n4]
      constructor
      · rintro (h | h | h)
        · exact ⟨.inl h, fun e2 => e (h ▸ e2)⟩
        · exact ⟨.inr (.inl h.1), h.2⟩
        · exact ⟨.inr (.inr h.1), h.2⟩
      · rintro ⟨h | h | h, h2⟩
        · exact .inl h
        · exact .inr (.inl ⟨h, h2⟩)
        · exact .inr (.inr ⟨h, h2⟩)
theorem OkP.at_root {k k' : α → Option α} : ∀ {f : (Fo α)} {p q : Option α}, Nd f → (∀ z, z ∈ all f → k' z = if z ∈ roots f then q else k z) → OkP k f p → OkP k' f q
  | .nil, _, _, _, _, _ => trivial
  | .cons i c r, p, q, hn, h, ⟨h1, h2, h3⟩ => by
    obtain ⟨n1, n2, n3, n4, n5⟩ := nd_cons hn
    refine ⟨by rw [h i (by simp [all]), if_pos (by simp [roots])], OkP.congr (fun z hz => ?_) h2, OkP.at_root (k := k) (p := p) n4 (fun z hz => ?_) h3⟩
    · rw [h z (by simp [all, hz]), if_neg]
      simp only [roots, List.mem_cons, not_or]
      exact ⟨fun e => n1 (e ▸ hz), fun hr => n5 z hz (roots_sub_all r z hr)⟩
    · rw [h z (by simp [all, hz])]
      simp only [roots, List.mem_cons]
      have : z ≠ i := fun e => n2 (e ▸ hz)
      simp [this]
theorem OkP.drop {k k' : α → Option α} {x : α} : ∀ {f : (Fo α)} {p : Option α}, Nd f → x ∈ all f → (∀ z, z ∈ all f → z ≠ x → k' z = if z ∈ roots (Fo.sub x f) then parO x f p else k z) → OkP k f p → OkP k' (Fo.drop x f) p
  | .nil, _, _, hx, _, _ => by cases hx
  | .cons i c r, p, hn, hx, h, ⟨h1, h2, h3⟩ => by
    obtain ⟨n1, n2, n3, n4, n5⟩ := nd_cons hn
    simp only [Fo.drop]
    simp only [Fo.sub, parO] at h
    by_cases e : i = x
    · rw [if_pos e]
      subst e
      simp only [if_true] at h
      refine OkP.app (OkP.at_root (k := k) (p := some i) n3 (fun z hz => ?_) h2) (OkP.congr (fun z hz => ?_) h3)
      · exact h z (by simp [all, hz]) (fun e => n1 (e ▸ hz))
      · rw [h z (by simp [all, hz]) (fun e => n2 (e ▸ hz)), if_neg (fun hr => n5 z (roots_sub_all c z hr) hz)]
    · rw [if_neg e]
      simp only [if_neg e] at h
      by_cases e2 : x ∈ all c
      · simp only [if_pos e2] at h
        have hsub : ∀ z, z ∈ roots (Fo.sub x c) → z ∈ all c := fun z hz => sub_all c x z (roots_sub_all _ z hz)
        refine ⟨?_, OkP.drop n3 e2 (fun z hz hzx => h z (by simp [all, hz]) hzx) h2, ?_⟩
        · rw [h i (by simp [all]) e, if_neg (fun hz => n1 (hsub _ hz)), h1]
        · rw [drop_no r x (n5 x e2)]
          refine OkP.congr (fun z hz => ?_) h3
          rw [h z (by simp [all, hz]) (fun e => n5 x e2 (e ▸ hz)), if_neg (fun hr => n5 z (hsub z hr) hz)]
      · simp only [if_neg e2] at h
        have hxr : x ∈ all r := by
          simp only [all, List.mem_cons, List.mem_append] at hx
          rcases hx with hx | hx | hx
          · exact absurd hx.symm e
          · exact absurd hx e2
          · exact hx
        have hsub : ∀ z, z ∈ roots (Fo.sub x r) → z ∈ all r := fun z hz => sub_all r x z (roots_sub_all _ z hz)
        refine ⟨?_, ?_, OkP.drop n4 hxr (fun z hz hzx => h z (by simp [all, hz]) hzx) h3⟩
        · rw [h i (by simp [all]) e, if_neg (fun hz => n2 (hsub _ hz)), h1]
        · rw [drop_no c x e2]
          refine OkP.congr (fun z hz => ?_) h2
          rw [h z (by simp [all, hz]) (fun e => e2 (e ▸ hz)), if_neg (fun hr => n5 z hz (hsub z hr))]
theorem OkK.drop {k k' : α → List α} {x : α} : ∀ {f : (Fo α)} {p : Option α}, Nd f → (∀ j, p = some j → j ∉ all f) → x ∈ all f → (∀ z, z ∈ all f → z ≠ x → k' z = if parO x f p = some z then repl x (roots (Fo.sub x f)) (k z) else k z) → OkK k f → OkK k' (Fo.drop x f)
  | .nil, _, _, _, hx, _, _ => by cases hx
  | .cons i c r, p, hn, hp, hx, h, ⟨h1, h2, h3⟩ => by
    obtain ⟨n1, n2, n3, n4, n5⟩ := nd_cons hn
    have hp2 : ∀ j, p = some j → j ≠ i ∧ j ∉ all c ∧ j ∉ all r := fun j hj => by
      have := hp j hj
      simpa [all] using this
    simp only [Fo.drop]
    simp only [Fo.sub, parO] at h
    by_cases e : i = x
    · rw [if_pos e]
      subst e
      simp only [if_true] at h
      refine OkK.app (OkK.congr (fun z hz => ?_) h2) (OkK.congr (fun z hz => ?_) h3)
      · rw [h z (by simp [all, hz]) (fun e => n1 (e ▸ hz)), if_neg (fun hj => (hp2 z hj).2.1 hz)]
      · rw [h z (by simp [all, hz]) (fun e => n2 (e ▸ hz)), if_neg (fun hj => (hp2 z hj).2.2 hz)]
    · rw [if_neg e]
      simp only [if_neg e] at h
      by_cases e2 : x ∈ all c
      · simp only [if_pos e2] at h
        refine ⟨?_, OkK.drop (p := some i) n3 (fun j hj => by cases hj; exact n1) e2 (fun z hz hzx => h z (by simp [all, hz]) hzx) h2, ?_⟩
        · rw [h i (by simp [all]) e, roots_drop n3, h1]
          by_cases e3 : x ∈ roots c
          · rw [parO_root n3 e3, if_pos rfl]
          · rw [repl_no e3, if_neg]
            obtain ⟨j, hj, hjc⟩ := parO_in (p := some i) n3 e2 e3
            rw [hj]; intro e; cases e; exact n1 hjc
        · rw [drop_no r x (n5 x e2)]
          refine OkK.congr (fun z hz => ?_) h3
          rw [h z (by simp [all, hz]) (fun e => n5 x e2 (e ▸ hz)), if_neg]
          intro hj
          rcases parO_mem n3 e2 hj with hj | hj
          · cases hj; exact n2 hz
          · exact n5 z hj hz
      · simp only [if_neg e2] at h
        have hxr : x ∈ all r := by
          simp only [all, List.mem_cons, List.mem_append] at hx
          rcases hx with hx | hx | hx
          · exact absurd hx.symm e
          · exact absurd hx e2
          · exact hx
        refine ⟨?_, ?_, OkK.drop (p := p) n4 (fun j hj => (hp2 j hj).2.2) hxr (fun z hz hzx => h z (by simp [all, hz]) hzx) h3⟩
        · rw [h i (by simp [all]) e, drop_no c x e2, if_neg, h1]
          intro hj
          rcases parO_mem n4 hxr hj with hj | hj
          · exact (hp2 i hj).1 rfl
          · exact n2 hj
        · rw [drop_no c x e2]
          refine OkK.congr (fun z hz => ?_) h2
          rw [h z (by simp [all, hz]) (fun e => e2 (e ▸ hz)), if_neg]
          intro hj
          rcases parO_mem n4 hxr hj with hj | hj
          · exact (hp2 z hj).2.1 hz
          · exact n5 z hz hj
theorem all_addc {x y : α} : ∀ {f : (Fo α)} {z : α}, (z ∈ all (addc x y f) ↔ z ∈ all f ∨ (z = y ∧ x ∈ all f))
  | .nil, z => by simp [addc, all]
  | .cons i c r, z => by
    simp only [addc]
    by_cases e : i = x
    · rw [if_pos e]
      subst e
      simp only [all, all_app, List.mem_cons, List.mem_append, List.not_mem_nil, or_false, true_or, and_true, List.append_nil]
      constructor
      · rintro (h | (h | h) | h)
        · exact .inl (.inl h)
        · exact .inl (.inr (.inl h))
        · exact .inr h
        · exact .inl (.inr (.inr h))
      · rintro ((h | h | h) | h)
        · exact .inl h
        · exact .inr (.inl (.inl h))
        · exact .inr (.inr h)
        · exact .inr (.inl (.inr h))
    · rw [if_neg e]
      simp only [all, List.mem_cons, List.mem_append, all_addc (f := c), all_addc (f := r)]
      constructor
      · rintro (h | (h | h) | (h | h))
        · exact .inl (.inl h)
        · exact .inl (.inr (.inl h))
        · exact .inr ⟨h.1, .inr (.inl h.2)⟩
        · exact .inl (.inr (.inr h))
        · exact .inr ⟨h.1, .inr (.inr h.2)⟩
      · rintro ((h | h | h) | ⟨h, h2 | h2 | h2⟩)
        · exact .inl h
        · exact .inr (.inl (.inl h))
        · exact .inr (.inr (.inl h))
        · exact absurd h2.symm e
        · exact .inr (.inl (.inr ⟨h, h2⟩))
        · exact .inr (.inr (.inr ⟨h, h2⟩))
theorem nd_app {f g : (Fo α)} (h1 : Nd f) (h2 : Nd g) (h : ∀ z, z ∈ all f → z ∉ all g) : Nd (app f g) := by
 unfold Nd at *
 rw [all_app, List.nodup_append]
 exact ⟨h1, h2, fun a ha b hb e => h a ha (e ▸ hb)⟩
theorem nd_mk {i : α} {c r : (Fo α)} (h1 : i ∉ all c) (h2 : i ∉ all r) (h3 : Nd c) (h4 : Nd r) (h5 : ∀ z, z ∈ all c → z ∉ all r) : Nd (.cons i c r) := by
 unfold Nd at *
 simp only [all, List.nodup_cons, List.mem_append, not_or, List.nodup_append]
 exact ⟨⟨h1, h2⟩, h3, h4, fun a ha b hb e => h5 a ha (e ▸ hb)⟩
theorem nd_one (y : α) : Nd (one y) := by unfold Nd one; simp [all]
theorem nd_addc {x y : α} : ∀ {f : (Fo α)}, Nd f → y ∉ all f → Nd (addc x y f)
  | .nil, h, _ => h
  | .cons i c r, hn, hy => by
    obtain ⟨n1, n2, n3, n4, n5⟩ := nd_cons hn
    simp only [all, List.mem_cons, List.mem_append, not_or] at hy
    simp only [addc]
    by_cases e : i = x
    · rw [if_pos e]
      refine nd_mk ?_ n2 (nd_app n3 (nd_one y) ?_) n4 ?_
      · rw [all_app]; simp [all]; exact ⟨n1, Ne.symm hy.1⟩
      · intro z hz h; simp [one, all] at h; exact hy.2.1 (h ▸ hz)
      · intro z hz; rw [all_app] at hz; simp [all] at hz
        rcases hz with hz | hz
        · exact n5 z hz
        · exact hz ▸ hy.2.2
    · rw [if_neg e]
      refine nd_mk ?_ ?_ (nd_addc n3 hy.2.1) (nd_addc n4 hy.2.2) ?_
      · rw [all_addc]; rintro (h | h); exact n1 h; exact hy.1 h.1.symm
      · rw [all_addc]; rintro (h | h); exact n2 h; exact hy.1 h.1.symm
      · intro z hz hr
        rw [all_addc] at hz hr
        rcases hz with hz | hz <;> rcases hr with hr | hr
        · exact n5 z hz hr
        · exact hy.2.1 (hr.1 ▸ hz)
        · exact hy.2.2 (hz.1 ▸ hr)
        · exact n5 x hz.2 hr.2
theorem drop_sublist {x : α} : ∀ f : (Fo α), (all (drop x f)).Sublist (all f)
  | .nil => List.Sublist.refl _
  | .cons i c r => by
    simp only [drop]
    split
    · rw [all_app]; exact List.sublist_cons_self _ _
    · simp only [all]; exact ((drop_sublist c).append (drop_sublist r)).cons_cons _
theorem nd_drop {x : α} {f : (Fo α)} (h : Nd f) : Nd (drop x f) := (drop_sublist f).nodup h
theorem drop_len {x : α} : ∀ {f : (Fo α)}, Nd f → x ∈ all f → (all (drop x f)).length + 1 = (all f).length
  | .nil, _, h => by cases h
  | .cons i c r, hn, h => by
    obtain ⟨n1, n2, n3, n4, n5⟩ := nd_cons hn
    simp only [drop]
    by_cases e : i = x
    · rw [if_pos e, all_app]; simp [all]
    · rw [if_neg e]
      simp only [all, List.length_cons, List.length_append]
      by_cases e2 : x ∈ all c
      · have := drop_len n3 e2
        rw [drop_no r x (n5 x e2)]; omega
      · have hxr : x ∈ all r := by
          simp only [all, List.mem_cons, List.mem_append] at h
          rcases h with h | h | h
          · exact absurd h.symm e
          · exact absurd h e2
          · exact h
        have := drop_len n4 hxr
        rw [drop_no c x e2]; omega
theorem addc_len {x y : α} : ∀ {f : (Fo α)}, Nd f → x ∈ all f → (all (addc x y f)).length = (all f).length + 1
  | .nil, _, h => by cases h
  | .cons i c r, hn, h => by
    obtain ⟨n1, n2, n3, n4, n5⟩ := nd_cons hn
    simp only [addc]
    by_cases e : i = x
    · rw [if_pos e]; simp [all, all_app]; omega
    · rw [if_neg e]
      simp only [all, List.length_cons, List.length_append]
      by_cases e2 : x ∈ all c
      · have := addc_len (y := y) n3 e2
        rw [addc_no y r x (n5 x e2)]; omega
      · have hxr : x ∈ all r := by
          simp only [all, List.mem_cons, List.mem_append] at h
          rcases h with h | h | h
          · exact absurd h.symm e
          · exact absurd h e2
          · exact h
        have := addc_len (y := y) n4 hxr
        rw [addc_no y c x e2]; omega
theorem sub_self : ∀ {f : (Fo α)} {x : α}, Nd f → x ∉ all (sub x f)
  | .nil, _, _ => by simp [sub, all]
  | .cons i c r, x, hn => by
    obtain ⟨n1, n2, n3, n4, n5⟩ := nd_cons hn
    simp only [sub]
    by_cases e : i = x
    · rw [if_pos e]; exact e ▸ n1
    · rw [if_neg e]
      split
      · exact sub_self n3
      · exact sub_self n4
theorem parO_kid : ∀ {f : (Fo α)} {x j : α} {p : Option α}, Nd f → x ∈ all f → parO x f p = some j → (p = some j ∧ x ∈ roots f) ∨ (j ∈ all f ∧ x ∈ roots (sub j f))
  | .nil, _, _, _, _, h, _ => by cases h
  | .cons i c r, x, j, p, hn, h, hp => by
    obtain ⟨n1, n2, n3, n4, n5⟩ := nd_cons hn
    simp only [parO] at hp
    by_cases e : i = x
    · rw [if_pos e] at hp; exact .inl ⟨hp, by simp [roots, e]⟩
    · rw [if_neg e] at hp
      by_cases e2 : x ∈ all c
      · rw [if_pos e2] at hp
        rcases parO_kid n3 e2 hp with ⟨h1, h2⟩ | ⟨h1, h2⟩
        · cases h1; exact .inr ⟨by simp [all], by simp [sub, h2]⟩
        · refine .inr ⟨by simp [all, h1], ?_⟩
          have : i ≠ j := fun e => n1 (e ▸ h1)
          simp [sub, this, h1, h2]
      · rw [if_neg e2] at hp
        have hxr : x ∈ all r := by
          simp only [all, List.mem_cons, List.mem_append] at h
          rcases h with h | h | h
          · exact absurd h.symm e
          · exact absurd h e2
          · exact h
        rcases parO_kid n4 hxr hp with ⟨h1, h2⟩ | ⟨h1, h2⟩
        · exact .inl ⟨h1, by simp [roots, h2]⟩
        · refine .inr ⟨by simp [all, h1], ?_⟩
          have h3 : i ≠ j := fun e => n2 (e ▸ h1)
          have h4 : j ∉ all c := fun h => n5 j h h1
          simp [sub, h3, h4, h2]
end Fo
end Go.Proofs.Ytdodfnjmkpgdbaa
end
section
set_option linter.unusedVariables false
set_option linter.unusedSimpArgs false
namespace Go.Proofs.Ytdodfnjmkpgdbaa
open Go.SL
structure TreeM where
  n : Nat
  sl : Nat → SlotM
  par : Nat → Option Nat
  kids : Nat → List Nat
  M : List (SlotM × Nat × Nat)
def tget (s : SlotM) : List (SlotM × Nat × Nat) → Option Nat
  | [] => none
  | e :: l => if s = e.1 then some e.2.1 else tget s l
def tdel (s : SlotM) : List (SlotM × Nat × Nat) → List (SlotM × Nat × Nat)
  | [] => []
  | e :: l => if s = e.1 then l else e :: tdel s l
theorem tget_app {s : SlotM} : ∀ {l m : List (SlotM × Nat × Nat)}, tget s (l ++ m) = (tget s l).or (tget s m)
  | [], m => rfl
  | e :: l, m => by
    simp only [List.cons_append, tget]
    split
    · rfl
    · exact tget_app
theorem tget_notin {s : SlotM} : ∀ {l : List (SlotM × Nat × Nat)}, s ∉ l.map Prod.fst → tget s l = none
  | [], _ => rfl
  | e :: l, h => by
    simp only [List.map_cons, List.mem_cons, not_or] at h
    simp only [tget]; rw [if_neg h.1]; exact tget_notin h.2
theorem tget_none {s : SlotM} : ∀ {l : List (SlotM × Nat × Nat)}, tget s l = none → s ∉ l.map Prod.fst
  | [], _ => by simp
  | e :: l, h => by
    simp only [tget] at h
    split at h
    · cases h
    · rename_i he
      simp only [List.map_cons, List.mem_cons, not_or]
      exact ⟨he, tget_none h⟩
theorem tget_del {s : SlotM} : ∀ {l : List (SlotM × Nat × Nat)}, (l.map Prod.fst).Nodup → ∀ o, tget o (tdel s l) = if o = s then none else tget o l
  | [], _, o => by simp [tdel, tget]
  | e :: l, h, o => by
    simp only [List.map_cons, List.nodup_cons] at h
    simp only [tdel]
    by_cases he : s = e.1
    · rw [if_pos he]
      by_cases ho : o = s
      · rw [if_pos ho, ho, he]; exact tget_notin h.1
      · rw [if_neg ho]; simp only [tget]; rw [if_neg (by rw [← he]; exact ho)]
    · rw [if_neg he]
      simp only [tget]
      rw [tget_del h.2 o]
      by_cases ho : o = s
      · subst ho; simp [he]
      · simp [ho]
theorem tdel_sub {s : SlotM} : ∀ {l : List (SlotM × Nat × Nat)}, (tdel s l).Sublist l
  | [] => List.Sublist.refl _
  | e :: l => by
    simp only [tdel]
    split
    · exact List.sublist_cons_self _ _
    · exact tdel_sub.cons_cons _
theorem tdel_len {s : SlotM} {i : Nat} : ∀ {l : List (SlotM × Nat × Nat)}, tget s l = some i → (tdel s l).length + 1 = l.length
  | [], h => by cases h
  | e :: l, h => by
    simp only [tget] at h
    simp only [tdel]
    split at h
    · rename_i he; rw [if_pos he]; rfl
    · rename_i he; rw [if_neg he, List.length_cons, List.length_cons, tdel_len h]
def ptrO (blk : Nat → Nat) : Option Nat → Value
  | none => .pointer none
  | some j => .pointer (some ⟨blk j, 0, none⟩)
abbrev knC (blk : Nat → Nat) (T : TreeM) (kv : Nat → Value) (i : Nat) : List Value := [.int .i64 (T.sl i).1, .int .i64 (T.sl i).2, ptrO blk (T.par i), kv i]
abbrev knO (blk : Nat → Nat) (T : TreeM) (kv : Nat → Value) (i : Nat) : Obj := .cells (knC blk T kv i).toArray 113
def knS (blk : Nat → Nat) (T : TreeM) (kv : Nat → Value) (kH : Nat → Hp) (i : Nat) : Hp := (blk i, knO blk T kv i) :: kH i
def kvT (blk : Nat → Nat) (M : List (SlotM × Nat × Nat)) : List (SlotM × Value × Nat) := M.map fun e => (e.1, .pointer (some ⟨blk e.2.1, 0, none⟩), e.2.2)
def kidsOk (blk : Nat → Nat) (T : TreeM) (kv : Nat → Value) (kH : Nat → Hp) : Prop := ∀ i, i < T.n → Slc 109 1 (kv i) (T.kids i).length (ptsC ((T.kids i).map blk)) (kH i)
abbrev trBlk (tb mb : Nat) : Nat × Obj := (tb, .cells [.map (some mb)].toArray 107)
abbrev mpBlk (mb : Nat) (blk : Nat → Nat) (M : List (SlotM × Nat × Nat)) (clk : Nat) : Nat × Obj := (mb, mapO encS (kvT blk M) clk)
def TrH (T : TreeM) (tb : Nat) (L : Hp) : Prop := ∃ mb clk blk kv kH, kidsOk blk T kv kH ∧ L = trBlk tb mb :: mpBlk mb blk T.M clk :: segs (knS blk T kv kH) T.n
def tptr (blk : Nat → Nat) (M : List (SlotM × Nat × Nat)) (s : SlotM) : Option Addr := (tget s M).map fun i => ⟨blk i, 0, none⟩
theorem mget_kvT (blk : Nat → Nat) (s : SlotM) : ∀ M, mget s (kvT blk M) = (tget s M).map fun i => .pointer (some ⟨blk i, 0, none⟩)
  | [] => rfl
  | e :: l => by
    simp only [kvT, List.map_cons, mget, tget]
    split
    · rfl
    · exact mget_kvT blk s l
theorem tptr_hm (blk : Nat → Nat) (M : List (SlotM × Nat × Nat)) (s : SlotM) : (mget s (kvT blk M)).getD (.pointer none) = .pointer (tptr blk M s) := by
 rw [mget_kvT]; unfold tptr; cases tget s M <;> rfl
theorem tptr_is {blk : Nat → Nat} {M : List (SlotM × Nat × Nat)} {s : SlotM} : (tptr blk M s).isSome = (tget s M).isSome := by unfold tptr; cases tget s M <;> rfl
theorem tptr_some {blk : Nat → Nat} {M : List (SlotM × Nat × Nat)} {s : SlotM} {i : Nat} (h : tget s M = some i) : tptr blk M s = some ⟨blk i, 0, none⟩ := by unfold tptr; rw [h]; rfl
theorem tptr_no {blk : Nat → Nat} {M : List (SlotM × Nat × Nat)} {s : SlotM} (h : tget s M = none) : tptr blk M s = none := by unfold tptr; rw [h]; rfl
theorem kn_blk {blk : Nat → Nat} {T : TreeM} {kv : Nat → Value} {kH : Nat → Hp} {i n : Nat} (h : i < n) : Blk (segs (knS blk T kv kH) n) (blk i) (.cells [.int .i64 (T.sl i).1, .int .i64 (T.sl i).2, ptrO blk (T.par i), kv i].toArray 113 (0, 0)) := ⟨segs_mem h (List.mem_cons_self ..)⟩
theorem kn_view {blk : Nat → Nat} {T : TreeM} {kv : Nat → Value} {kH : Nat → Hp} {i : Nat} (hk : kidsOk blk T kv kH) (h : i < T.n) : View (segs (knS blk T kv kH) T.n) 1 (kv i) (T.kids i).length (ptsC ((T.kids i).map blk)) :=
  (hk i h).view.mono fun p hp => segs_mem h (List.mem_cons_of_mem _ hp)
theorem kn_isC {blk : Nat → Nat} {T : TreeM} {kv : Nat → Value} {kH : Nat → Hp} {i n : Nat} (h : i < n) : isC (segs (knS blk T kv kH) n) (blk i) := ⟨_, _, segs_mem h (List.mem_cons_self ..)⟩
theorem segs_split {h : Nat → Hp} {i : Nat} : ∀ {n : Nat}, i < n → ∃ A B, ∀ H, segs (fset h i H) n = A ++ (H ++ B)
  | 0, hi => by omega
  | n + 1, hi => by
    by_cases e : i = n
    · subst e
      refine ⟨segs h i, [], fun H => ?_⟩
      rw [segs_succ, fset_same, segs_congr (h := fset h i H) (k := h) (fun j hj => fset_ne (by omega)), List.append_nil]
    · obtain ⟨A, B, hAB⟩ := segs_split (h := h) (i := i) (n := n) (by omega)
      refine ⟨A, B ++ h n, fun H => ?_⟩
      rw [segs_succ, fset_ne (show n ≠ i by omega), hAB, List.append_assoc, List.append_assoc]
theorem fset_selfT {α : Type} {f : Nat → α} {i : Nat} : fset f i (f i) = f := by
 funext j; unfold fset; split
 ·
  rename_i h; rw [h]
 ·
  rfl
theorem segs_upd {h : Nat → Hp} {i n b : Nat} {o o' : Obj} {H : Hp} (hi : i < n) (hh : h i = (b, o) :: H) : Upd (segs h n) b o' (segs (fset h i ((b, o') :: H)) n) := by
 obtain ⟨A, B, hAB⟩ := segs_split (h := h) hi
 have e := hAB (h i)
 rw [fset_selfT] at e
 refine ⟨A, H ++ B, o, ?_, ?_⟩
 ·
  rw [e, hh]; rfl
 ·
  rw [hAB]; rfl
def TreeM.more (T : TreeM) (s : SlotM) (p : Option Nat) (t : Nat) : TreeM :=
  { n := T.n + 1, sl := fset T.sl T.n s, par := fset T.par T.n p,
    kids := match p with | none => fset T.kids T.n [] | some j => fset (fset T.kids T.n []) j (T.kids j ++ [T.n]),
    M := T.M ++ [(s, T.n, t)] }
theorem tput_new {s : SlotM} {v : Value} {t : Nat} {blk : Nat → Nat} : ∀ {M : List (SlotM × Nat × Nat)}, tget s M = none → mput s v t (kvT blk M) = kvT blk M ++ [(s, v, t)]
  | [], _ => rfl
  | e :: l, h => by
    simp only [tget] at h
    split at h
    · cases h
    · rename_i hid
      have := tput_new (v := v) (t := t) (blk := blk) h
      simp only [kvT, List.map_cons, mput, hid, if_false, List.cons_append] at this ⊢
      rw [this]
theorem tclk_new {s : SlotM} {cl : Nat} {blk : Nat → Nat} {M : List (SlotM × Nat × Nat)} (h : tget s M = none) : mclk s (kvT blk M) cl = cl + 1 := by
 simp [mclk, mget_kvT, h]
theorem tdel_kvT {s : SlotM} {blk : Nat → Nat} : ∀ M : List (SlotM × Nat × Nat), mdel s (kvT blk M) = kvT blk (tdel s M)
  | [] => rfl
  | e :: l => by
    simp only [kvT, List.map_cons, mdel, tdel]
    split
    · rfl
    · have := tdel_kvT (s := s) (blk := blk) l
      simp only [kvT] at this
      rw [this]; rfl
theorem kvT_congr {blk blk' : Nat → Nat} {M : List (SlotM × Nat × Nat)} (h : ∀ e, e ∈ M → blk' e.2.1 = blk e.2.1) : kvT blk' M = kvT blk M := List.map_congr_left fun e he => by rw [h e he]
theorem tget_mem {s : SlotM} {i : Nat} : ∀ {M : List (SlotM × Nat × Nat)}, tget s M = some i → ∃ t, (s, i, t) ∈ M
  | [], h => by cases h
  | e :: l, h => by
    simp only [tget] at h
    split at h
    · rename_i he; cases h; obtain ⟨a, b, c⟩ := e; dsimp only at he; subst he; exact ⟨c, List.mem_cons_self ..⟩
    · obtain ⟨t, ht⟩ := tget_mem h; exact ⟨t, List.mem_cons_of_mem _ ht⟩
structure TreeM.Ix (T : TreeM) : Prop where
  par : ∀ i j, i < T.n → T.par i = some j → j < T.n
  kids : ∀ i j, i < T.n → j ∈ T.kids i → j < T.n
  map : ∀ e, e ∈ T.M → e.2.1 < T.n
  small : ∀ i, i < T.n → (T.kids i).length ≤ T.n
theorem TreeM.Ix.get {T : TreeM} (h : T.Ix) {s : SlotM} {i : Nat} (hi : tget s T.M = some i) : i < T.n := by
 obtain ⟨t, ht⟩ := tget_mem hi; exact h.map _ ht
def tkin (T : TreeM) (F : (Fo Nat)) (s : SlotM) : List SlotM := match tget s T.M with | none => [] | some i => (Fo.sub i F).all.map T.sl
structure TOk (T : TreeM) (F : (Fo Nat)) : Prop where
  nd : Fo.Nd F
  lt : ∀ i, i ∈ F.all → i < T.n
  par : Fo.OkP T.par F none
  kids : Fo.OkK T.kids F
  map : ∀ s i, tget s T.M = some i ↔ i ∈ F.all ∧ T.sl i = s
  uniq : (T.M.map Prod.fst).Nodup
  len : T.M.length = F.all.length
  ix : T.Ix
theorem TOk.mem {T : TreeM} {F : (Fo Nat)} (h : TOk T F) {s : SlotM} {i : Nat} (hi : tget s T.M = some i) : i ∈ F.all := ((h.map s i).1 hi).1
theorem TOk.sl {T : TreeM} {F : (Fo Nat)} (h : TOk T F) {s : SlotM} {i : Nat} (hi : tget s T.M = some i) : T.sl i = s := ((h.map s i).1 hi).2
theorem TOk.get {T : TreeM} {F : (Fo Nat)} (h : TOk T F) {i : Nat} (hi : i ∈ F.all) : tget (T.sl i) T.M = some i := (h.map _ i).2 ⟨hi, rfl⟩
theorem TOk.inj {T : TreeM} {F : (Fo Nat)} (h : TOk T F) {i j : Nat} (hi : i ∈ F.all) (hj : j ∈ F.all) (e : T.sl i = T.sl j) : i = j := by
 have h1 := h.get hi
 rw [e, h.get hj] at h1; exact (Option.some.inj h1).symm
theorem nodup_len : ∀ {n : Nat} {l : List Nat}, l.Nodup → (∀ x, x ∈ l → x < n) → l.length ≤ n
  | 0, l, _, hl => by cases l with
    | nil => exact Nat.le_refl _
    | cons a l => exact absurd (hl a (List.mem_cons_self ..)) (Nat.not_lt_zero a)
  | n + 1, l, hn, hl => by
    have h1 := nodup_len (n := n) (l := l.erase n) (hn.erase n) (fun x hx => by
      have h2 := (hn.mem_erase_iff.1 hx)
      have := hl x h2.2
      have := h2.1; omega)
    have h2 := List.length_erase (a := n) (l := l)
    split at h2 <;> omega
theorem TOk.all_len {T : TreeM} {F : (Fo Nat)} (h : TOk T F) : F.all.length ≤ T.n := nodup_len h.nd h.lt
theorem sub_len : ∀ (f : (Fo Nat)) (x : Nat), (Fo.sub x f).all.length ≤ f.all.length
  | .nil, _ => Nat.le_refl _
  | .cons i c r, x => by
    simp only [Fo.sub, Fo.all, List.length_cons, List.length_append]
    split
    · omega
    · split
      · have := sub_len c x; omega
      · have := sub_len r x; omega
theorem roots_len : ∀ f : (Fo Nat), f.roots.length ≤ f.all.length
  | .nil => Nat.le_refl _
  | .cons i c r => by
    have := roots_len r
    simp only [Fo.roots, Fo.all, List.length_cons, List.length_append]; omega
theorem kn_view2 {blk : Nat → Nat} {T : TreeM} {kv : Nat → Value} {kH : Nat → Hp} {i : Nat} (hk : kidsOk blk T kv kH) (h : i < T.n) : View (segs (knS blk T kv kH) T.n) 1 (kv i) ((T.kids i).map blk).length (ptsC ((T.kids i).map blk)) := by
 rw [List.length_map]; exact kn_view hk h
theorem kn_form {blk : Nat → Nat} {T : TreeM} {kv : Nat → Value} {kH : Nat → Hp} {i : Nat} (hk : kidsOk blk T kv kH) (h : i < T.n) : ∃ a c, kv i = .slice a ((T.kids i).map blk).length c := by
 rw [List.length_map]; exact (hk i h).form
theorem fo_cons {g : (Fo Nat)} {blk : Nat → Nat} (h : ((g.roots.map blk).length : Int) > 0) : ∃ q c r, g = .cons q c r := by
 cases g with
 | nil => simp [Fo.roots] at h
 | cons q c r => exact ⟨q, c, r, rfl⟩
theorem fo_nil {g : (Fo Nat)} {blk : Nat → Nat} (h : ¬ ((g.roots.map blk).length : Int) > 0) : g = .nil := by
 cases g with
 | nil => rfl
 | cons q c r => simp [Fo.roots] at h
theorem ptrO_congr {blk blk' : Nat → Nat} {p : Option Nat} (h : ∀ j, p = some j → blk' j = blk j) : ptrO blk' p = ptrO blk p := by
 cases p with
 | none => rfl
 | some j => simp only [ptrO, h j rfl]
section more
variable {T : TreeM} (hx : T.Ix) {blk : Nat → Nat} {kv : Nat → Value} {kH : Nat → Hp} {s : SlotM} {b t clk : Nat}
include hx
theorem more_kvT : kvT (fset blk T.n b) (T.M ++ [(s, T.n, t)]) = kvT blk T.M ++ [(s, .pointer (some ⟨b, 0, none⟩), t)] := by
 have e : kvT (fset blk T.n b) T.M = kvT blk T.M := kvT_congr fun e he => fset_ne (by have := hx.map e he; omega)
 have e2 : kvT (fset blk T.n b) (T.M ++ [(s, T.n, t)]) = kvT (fset blk T.n b) T.M ++ [(s, .pointer (some ⟨fset blk T.n b T.n, 0, none⟩), t)] := by simp [kvT]
 rw [e2, e, fset_same]
theorem more_kids {i : Nat} (hi : i < T.n) : (T.kids i).map (fset blk T.n b) = (T.kids i).map blk := List.map_congr_left fun j hj => fset_ne (by have := hx.kids i j hi hj; omega)
theorem more_root : segs (knS (fset blk T.n b) (T.more s none t) (fset kv T.n (.slice none 0 0)) (fset kH T.n [])) (T.n + 1) = segs (knS blk T kv kH) T.n ++ [(b, .cells [.int .i64 s.1, .int .i64 s.2, .pointer none, .slice none 0 0].toArray 113)] := by
 rw [segs_succ]
 congr 1
 ·
  refine segs_congr fun i hi => ?_
  have h1 : i ≠ T.n := by omega
  have h2 : ptrO (fset blk T.n b) (T.par i) = ptrO blk (T.par i) := ptrO_congr fun j hj => fset_ne (by have := hx.par i j hi hj; omega)
  simp only [knS, knO, knC, TreeM.more, fset_ne h1, h2]
 ·
  simp only [knS, knO, knC, TreeM.more, fset_same, ptrO]
theorem more_child {j : Nat} {v1 : Value} {H1 : Hp} (hj : j < T.n) : segs (knS (fset blk T.n b) (T.more s (some j) t) (fset (fset kv T.n (.slice none 0 0)) j v1) (fset (fset kH T.n []) j H1)) (T.n + 1) =
    segs (fset (knS blk T kv kH) j ((blk j, .cells [.int .i64 (T.sl j).1, .int .i64 (T.sl j).2, ptrO blk (T.par j), v1].toArray 113) :: H1)) T.n ++ [(b, .cells [.int .i64 s.1, .int .i64 s.2, .pointer (some ⟨blk j, 0, none⟩), .slice none 0 0].toArray 113)] := by
  have hjn : j ≠ T.n := by omega
  rw [segs_succ]
  congr 1
  · refine segs_congr fun i hi => ?_
    have h1 : i ≠ T.n := by omega
    have h2 : ptrO (fset blk T.n b) (T.par i) = ptrO blk (T.par i) := ptrO_congr fun j hj => fset_ne (by have := hx.par i j hi hj; omega)
    by_cases e : i = j
    · subst e
      simp only [knS, knO, knC, TreeM.more, fset_ne h1, h2, fset_same]
    · rw [fset_ne e]
      simp only [knS, knO, knC, TreeM.more, fset_ne h1, h2, fset_ne e]
  · simp only [knS, knO, knC, TreeM.more, fset_same, ptrO, fset_ne (Ne.symm hjn), fset_ne hjn]
theorem more_root_ok (hk : kidsOk blk T kv kH) : kidsOk (fset blk T.n b) (T.more s none t) (fset kv T.n (.slice none 0 0)) (fset kH T.n []) := by
 intro i hi
 simp only [TreeM.more] at hi ⊢
 by_cases e : i = T.n
 ·
  subst e; rw [fset_same, fset_same, fset_same]; exact Slc.nil _ _
 ·
  rw [fset_ne e, fset_ne e, fset_ne e, more_kids hx (by omega)]; exact hk i (by omega)
theorem more_child_ok (hk : kidsOk blk T kv kH) {j : Nat} {v1 : Value} {H1 : Hp} (hj : j < T.n) (hs : Slc 109 1 v1 ((T.kids j).length + 1) (ptsC ((T.kids j).map blk) ++ [.pointer (some ⟨b, 0, none⟩)]) H1) :
    kidsOk (fset blk T.n b) (T.more s (some j) t) (fset (fset kv T.n (.slice none 0 0)) j v1) (fset (fset kH T.n []) j H1) := by
  intro i hi
  simp only [TreeM.more] at hi ⊢
  by_cases e2 : i = j
  · subst e2
    rw [fset_same, fset_same, fset_same, List.map_append, more_kids hx hj, List.length_append, ptsC_app, List.map_singleton, fset_same]
    exact hs
  · rw [fset_ne e2, fset_ne e2, fset_ne e2]
    by_cases e : i = T.n
    · subst e; rw [fset_same, fset_same, fset_same]; exact Slc.nil _ _
    · rw [fset_ne e, fset_ne e, fset_ne e, more_kids hx (by omega)]; exact hk i (by omega)
end more
def TAdd (T : TreeM) (s : SlotM) (p : Option Nat) (e : Int) (T' : TreeM) : Prop := (∃ i, tget s T.M = some i ∧ e = 4 ∧ T' = T) ∨ (tget s T.M = none ∧ e = 0 ∧ ∃ t, T' = T.more s p t)
def TChild (T : TreeM) (o s : SlotM) (e : Int) (T' : TreeM) : Prop := (tget o T.M = none ∧ e = 3 ∧ T' = T) ∨ ∃ j, tget o T.M = some j ∧ TAdd T s (some j) e T'
def TreeM.moved (T : TreeM) (f s : SlotM) (i t : Nat) : TreeM := { T with sl := fset T.sl i s, M := tdel f T.M ++ [(s, i, t)] }
def TMove (T : TreeM) (f s : SlotM) (e : Int) (T' : TreeM) : Prop :=
  (tget f T.M = none ∧ e = 3 ∧ T' = T) ∨ ∃ i, tget f T.M = some i ∧ ((∃ j, tget s T.M = some j ∧ e = 4 ∧ T' = T) ∨ (tget s T.M = none ∧ e = 0 ∧ ∃ t, T' = T.moved f s i t))
theorem moved_segs {T : TreeM} {blk : Nat → Nat} {kv : Nat → Value} {kH : Nat → Hp} {f s : SlotM} {i t : Nat} :
    segs (fset (knS blk T kv kH) i ((blk i, .cells [.int .i64 s.1, .int .i64 s.2, ptrO blk (T.par i), kv i].toArray 113) :: kH i)) T.n = segs (knS blk (T.moved f s i t) kv kH) T.n := by
  refine segs_congr fun z hz => ?_
  by_cases e : z = i
  · subst e; rw [fset_same]; simp only [knS, knO, knC, TreeM.moved, fset_same]
  · rw [fset_ne e]; simp only [knS, knO, knC, TreeM.moved, fset_ne e]
theorem tdel_none {s f : SlotM} : ∀ {M : List (SlotM × Nat × Nat)}, tget s M = none → tget s (tdel f M) = none
  | [], _ => rfl
  | e :: l, h => by
    simp only [tget] at h
    split at h
    · cases h
    · rename_i he
      simp only [tdel]
      split
      · exact h
      · simp only [tget]; rw [if_neg he]; exact tdel_none h
def TreeM.dropK (T : TreeM) (x k : Nat) : TreeM := { T with par := fun z => if z ∈ (T.kids x).take k then T.par x else T.par z }
def TreeM.gone (T : TreeM) (s : SlotM) (x : Nat) : TreeM :=
  { T with par := fun z => if z ∈ T.kids x then T.par x else T.par z, kids := match T.par x with | none => T.kids | some j => fset T.kids j (Fo.repl x (T.kids x) (T.kids j)), M := tdel s T.M }
def TDrop (T : TreeM) (s : SlotM) (e : Int) (T' : TreeM) : Prop := (tget s T.M = none ∧ e = 3 ∧ T' = T) ∨ ∃ i, tget s T.M = some i ∧ e = 0 ∧ T' = T.gone s i
section drop
variable {T : TreeM} {blk : Nat → Nat} {kv : Nat → Value} {kH : Nat → Hp}
theorem dropK_zero (x : Nat) : T.dropK x 0 = T := by
 unfold TreeM.dropK; rw [List.take_zero]; simp
theorem dropK_par {x k : Nat} (h : x ∉ T.kids x) : (T.dropK x k).par x = T.par x := if_neg fun e => h (List.mem_of_mem_take e)
theorem dropK_succ {x k q : Nat} (hq : (T.kids x)[k]? = some q) :
    segs (fset (knS blk (T.dropK x k) kv kH) q ((blk q, .cells [.int .i64 (T.sl q).1, .int .i64 (T.sl q).2, ptrO blk (T.par x), kv q].toArray 113) :: kH q)) T.n = segs (knS blk (T.dropK x (k + 1)) kv kH) T.n := by
  have hm : ∀ z, z ∈ (T.kids x).take (k + 1) ↔ z ∈ (T.kids x).take k ∨ z = q := by
    intro z; rw [List.take_add_one, hq]; simp
  refine segs_congr fun z hz => ?_
  by_cases e : z = q
  · subst e
    rw [fset_same]
    have : (T.dropK x (k + 1)).par z = T.par x := if_pos ((hm z).2 (.inr rfl))
    simp only [knS, knO, knC, this]; rfl
  · rw [fset_ne e]
    have : (T.dropK x (k + 1)).par z = (T.dropK x k).par z := by
      unfold TreeM.dropK
      dsimp only
      by_cases h : z ∈ (T.kids x).take k
      · rw [if_pos h, if_pos ((hm z).2 (.inl h))]
      · rw [if_neg h, if_neg (fun h2 => by rcases (hm z).1 h2 with h2 | h2; exact h h2; exact e h2)]
    simp only [knS, knO, knC, this]; rfl
theorem gone_none {s : SlotM} {x : Nat} (hp : T.par x = none) : segs (knS blk (T.dropK x (T.kids x).length) kv kH) T.n = segs (knS blk (T.gone s x) kv kH) T.n := by
 refine segs_congr fun z hz => ?_
 simp only [knS, knO, knC, TreeM.dropK, TreeM.gone, List.take_length]
theorem gone_some {s : SlotM} {x j : Nat} (hp : T.par x = some j) {v1 : Value} {H1 : Hp} :
    segs (fset (knS blk (T.dropK x (T.kids x).length) kv kH) j ((blk j, .cells [.int .i64 (T.sl j).1, .int .i64 (T.sl j).2, ptrO blk ((T.dropK x (T.kids x).length).par j), v1].toArray 113) :: H1)) T.n = segs (knS blk (T.gone s x) (fset kv j v1) (fset kH j H1)) T.n := by
  refine segs_congr fun z hz => ?_
  by_cases e : z = j
  · subst e; rw [fset_same]; simp only [knS, knO, knC, TreeM.dropK, TreeM.gone, List.take_length, fset_same]
  · rw [fset_ne e]; simp only [knS, knO, knC, TreeM.dropK, TreeM.gone, List.take_length, fset_ne e]
theorem gone_none_ok {s : SlotM} {x : Nat} (hp : T.par x = none) (hk : kidsOk blk T kv kH) : kidsOk blk (T.gone s x) kv kH := by
 intro i hi; simp only [TreeM.gone, hp]; exact hk i hi
theorem gone_some_ok {s : SlotM} {x j : Nat} (hp : T.par x = some j) (hk : kidsOk blk T kv kH) {v1 : Value} {H1 : Hp} (hs : Slc 109 1 v1 (Fo.repl x (T.kids x) (T.kids j)).length (ptsC ((Fo.repl x (T.kids x) (T.kids j)).map blk)) H1) :
    kidsOk blk (T.gone s x) (fset kv j v1) (fset kH j H1) := by
  intro i hi
  simp only [TreeM.gone, hp]
  by_cases e : i = j
  · subst e; rw [fset_same, fset_same, fset_same]; exact hs
  · rw [fset_ne e, fset_ne e, fset_ne e]; exact hk i hi
end drop
theorem repl_at {x : Nat} {l : List Nat} : ∀ {m : List Nat}, x ∈ m → ∃ p : Nat, idxN m x = p ∧ m[p]? = some x ∧ Fo.repl x l m = m.take p ++ l ++ m.drop (p + 1)
  | [], h => by cases h
  | a :: m, h => by
    by_cases e : a = x
    · refine ⟨0, by simp [idxN, e], by simp [e], ?_⟩
      simp [Fo.repl, e]
    · have hm : x ∈ m := by
        rcases List.mem_cons.1 h with h | h
        · exact absurd h.symm e
        · exact h
      obtain ⟨p, h1, h2, h3⟩ := repl_at (l := l) hm
      refine ⟨p + 1, ?_, by simpa using h2, ?_⟩
      · simp only [idxN, if_neg e, h1]; rw [if_neg (by omega)]; push_cast; rfl
      · simp only [Fo.repl, if_neg e, h3]; simp
theorem segs_inj {h : Nat → Hp} {b : Nat → Nat} {o : Nat → Obj} {H : Nat → Hp} (hh : ∀ i, h i = (b i, o i) :: H i) : ∀ {n : Nat}, ((segs h n).map Prod.fst).Nodup → ∀ i j, i < n → j < n → b i = b j → i = j
  | 0, _, i, _, hi, _, _ => absurd hi (Nat.not_lt_zero i)
  | n + 1, hnd, i, j, hi, hj, e => by
    rw [segs_succ, List.map_append, List.nodup_append] at hnd
    have hlast : b n ∈ (h n).map Prod.fst := by rw [hh]; simp
    have hin : ∀ k, k < n → b k ∈ (segs h n).map Prod.fst := fun k hk => List.mem_map.2 ⟨(b k, o k), segs_mem hk (by rw [hh]; exact List.mem_cons_self ..), rfl⟩
    by_cases h1 : i = n
    · by_cases h2 : j = n
      · omega
      · subst h1; exact absurd e.symm (hnd.2.2 _ (hin j (by omega)) _ hlast)
    · by_cases h2 : j = n
      · subst h2; exact absurd e (hnd.2.2 _ (hin i (by omega)) _ hlast)
      · exact segs_inj hh hnd.1 i j (by omega) (by omega) e
theorem Own.swapSeg {W w : World} {h : Nat → Hp} {j n b : Nat} {o : Obj} {K0 K R : Hp} (hj : j < n) (ho : Own W w (K ++ (segs (fset h j ((b, o) :: K0)) n ++ R))) : Own W w (segs (fset h j ((b, o) :: K)) n ++ R) := by
 have e1 := segs_take (h := fset h j ((b, o) :: K0)) hj
 have e2 := segs_take (h := fset h j ((b, o) :: K)) hj
 rw [fset_same, fset_fset] at e1 e2
 have h1 := ho.perm (List.Perm.append_left K (e1.append_right R))
 have h1' : Own W w ((b, o) :: (K0 ++ (K ++ (segs (fset h j []) n ++ R)))) := by
  refine h1.perm ?_
  simp only [List.cons_append]
  refine List.perm_middle.trans (List.Perm.cons _ ?_)
  rw [List.append_assoc]
  exact List.perm_append_comm_assoc ..
 have h2 : Own W w ((b, o) :: (K ++ (segs (fset h j []) n ++ R))) := h1'.sublist ((List.sublist_append_right K0 _).cons_cons _)
 refine h2.perm ?_
 have := e2.symm.append_right R
 simp only [List.cons_append, List.append_assoc] at this
 exact this
end Go.Proofs.Ytdodfnjmkpgdbaa
end
section
set_option linter.unusedVariables false
set_option linter.unusedSimpArgs false
set_option linter.unusedSectionVars false
namespace Go.Proofs.Ytdodfnjmkpgdbaa
open Go.SL
theorem tok_new : TOk ⟨0, fun _ => (0, 0), fun _ => none, fun _ => [], []⟩ .nil where
  nd := List.nodup_nil
  lt := fun i h => by cases h
  par := trivial
  kids := trivial
  map := fun s i => by simp [tget, Fo.all]
  uniq := List.nodup_nil
  len := rfl
  ix := ⟨fun i j h => absurd h (Nat.not_lt_zero i), fun i j h => absurd h (Nat.not_lt_zero i), (fun e h => by cases h), fun i h => absurd h (Nat.not_lt_zero i)⟩
section
variable {T : TreeM} {F : (Fo Nat)} (h : TOk T F)
include h
theorem TOk.fresh : T.n ∉ F.all := fun e => absurd (h.lt _ e) (Nat.lt_irrefl _)
theorem TOk.kidsR {x : Nat} (hx : x ∈ F.all) : T.kids x = (Fo.sub x F).roots := (Fo.OkK.sub h.kids hx).1
theorem TOk.parO {x : Nat} (hx : x ∈ F.all) : T.par x = Fo.parO x F none := Fo.OkP.at h.par hx
theorem TOk.xk {s : SlotM} {x : Nat} (hx : tget s T.M = some x) : x ∉ T.kids x := by
 rw [h.kidsR (h.mem hx)]
 exact fun e => Fo.sub_self h.nd (Fo.roots_sub_all _ _ e)
theorem TOk.xj {s : SlotM} {x j : Nat} (hx : tget s T.M = some x) (hp : T.par x = some j) : x ∈ T.kids j ∧ j ∈ F.all := by
 rw [h.parO (h.mem hx)] at hp
 rcases Fo.parO_kid h.nd (h.mem hx) hp with ⟨e, _⟩ | ⟨e1, e2⟩
 ·
  cases e
 ·
  exact ⟨by rw [h.kidsR e1]; exact e2, e1⟩
theorem more_tget {s : SlotM} {p : Option Nat} {t : Nat} (hs : tget s T.M = none) (o : SlotM) : tget o (T.more s p t).M = if o = s then some T.n else tget o T.M := by
 show tget o (T.M ++ [(s, T.n, t)]) = _
 rw [tget_app]
 by_cases e : o = s
 ·
  rw [if_pos e, e, hs]; simp [tget]
 ·
  rw [if_neg e]
  have : tget o [(s, T.n, t)] = none := by simp [tget, e]
  rw [this]; cases tget o T.M <;> rfl
theorem more_map {s : SlotM} {p : Option Nat} {t : Nat} {F' : (Fo Nat)} (hs : tget s T.M = none) (hF : ∀ z, z ∈ F'.all ↔ z ∈ F.all ∨ z = T.n) (o : SlotM) (i : Nat) : tget o (T.more s p t).M = some i ↔ i ∈ F'.all ∧ (T.more s p t).sl i = o := by
 rw [more_tget h hs, hF]
 show _ ↔ _ ∧ fset T.sl T.n s i = o
 by_cases hi : i = T.n
 ·
  subst hi
  rw [fset_same]
  constructor
  ·
   intro e
   by_cases eo : o = s
   ·
    exact ⟨.inr rfl, eo.symm⟩
   ·
    rw [if_neg eo] at e; exact absurd (h.mem e) h.fresh
  ·
   rintro ⟨_, rfl⟩; rw [if_pos rfl]
 ·
  rw [fset_ne hi]
  constructor
  ·
   intro e
   by_cases eo : o = s
   ·
    rw [if_pos eo] at e; exact absurd (Option.some.inj e).symm hi
   ·
    rw [if_neg eo] at e; exact ⟨.inl (h.mem e), h.sl e⟩
  ·
   rintro ⟨hm, e⟩
   have hm' := hm.resolve_right hi
   have h1 := h.get hm'
   rw [e] at h1
   have : o ≠ s := fun eo => by rw [eo, hs] at h1; cases h1
   rw [if_neg this, h1]
theorem more_uniq {s : SlotM} {p : Option Nat} {t : Nat} (hs : tget s T.M = none) : ((T.more s p t).M.map Prod.fst).Nodup := by
 show ((T.M ++ [(s, T.n, t)]).map Prod.fst).Nodup
 rw [List.map_append]
 exact List.nodup_append.2 ⟨h.uniq, by simp, fun a ha b hb e => by simp at hb; subst hb; exact tget_none hs (e ▸ ha)⟩
theorem tok_root {s : SlotM} {t : Nat} (hs : tget s T.M = none) : TOk (T.more s none t) (F.app (.one T.n)) where
  nd := Fo.nd_app h.nd (Fo.nd_one _) fun z hz e => by simp [Fo.one, Fo.all] at e; exact h.fresh (e ▸ hz)
  lt := fun i hi => by
    rw [Fo.all_app] at hi; simp [Fo.one, Fo.all] at hi
    show i < T.n + 1
    rcases hi with hi | hi
    · have := h.lt i hi; omega
    · omega
  par := Fo.OkP.app (Fo.OkP.congr (fun z hz => (fset_ne (f := T.par) (i := T.n) (j := z) (a := none) (fun e => h.fresh (e ▸ hz))).symm) h.par) ⟨fset_same .., trivial, trivial⟩
  kids := Fo.OkK.app (Fo.OkK.congr (fun z hz => (fset_ne (f := T.kids) (i := T.n) (j := z) (a := []) (fun e => h.fresh (e ▸ hz))).symm) h.kids) ⟨fset_same .., trivial, trivial⟩
  map := more_map h hs (fun z => by rw [Fo.all_app]; simp [Fo.one, Fo.all])
  uniq := more_uniq h hs
  len := by
    show (T.M ++ [(s, T.n, t)]).length = _
    rw [Fo.all_app, List.length_append, List.length_append, h.len]; rfl
  ix := by
    refine ⟨fun i j hi hj => ?_, fun i j hi hj => ?_, fun e he => ?_, fun i hi => ?_⟩
    · change i < T.n + 1 at hi; change fset T.par T.n none i = some j at hj; show j < T.n + 1
      by_cases e : i = T.n
      · subst e; rw [fset_same] at hj; cases hj
      · rw [fset_ne e] at hj; have := h.ix.par i j (by omega) hj; omega
    · change i < T.n + 1 at hi; change j ∈ fset T.kids T.n [] i at hj; show j < T.n + 1
      by_cases e : i = T.n
      · subst e; rw [fset_same] at hj; cases hj
      · rw [fset_ne e] at hj; have := h.ix.kids i j (by omega) hj; omega
    · show e.2.1 < T.n + 1
      rcases List.mem_append.1 he with he | he
      · have := h.ix.map e he; omega
      · rw [List.mem_singleton] at he; subst he; exact Nat.lt_succ_self _
    · change i < T.n + 1 at hi; show (fset T.kids T.n [] i).length ≤ T.n + 1
      by_cases e : i = T.n
      · subst e; rw [fset_same]; exact Nat.zero_le _
      · rw [fset_ne e]; have := h.ix.small i (by omega); omega
theorem tok_child {s : SlotM} {t j : Nat} (hs : tget s T.M = none) (hj : j ∈ F.all) : TOk (T.more s (some j) t) (F.addc j T.n) where
  nd := Fo.nd_addc h.nd h.fresh
  lt := fun i hi => by
    rw [Fo.all_addc] at hi
    show i < T.n + 1
    rcases hi with hi | hi
    · have := h.lt i hi; omega
    · omega
  par := Fo.OkP.addc (fset_same ..) (Fo.OkP.congr (fun z hz => (fset_ne (f := T.par) (i := T.n) (j := z) (a := some j) (fun e => h.fresh (e ▸ hz))).symm) h.par)
  kids := by
    have hjn : j ≠ T.n := fun e => h.fresh (e ▸ hj)
    refine Fo.OkK.addc (k := T.kids) ?_ ?_ h.nd h.fresh (fun z hz hzj => ?_) h.kids
    · show fset (fset T.kids T.n []) j (T.kids j ++ [T.n]) j = _
      rw [fset_same]
    · show fset (fset T.kids T.n []) j (T.kids j ++ [T.n]) T.n = _
      rw [fset_ne (Ne.symm hjn), fset_same]
    · show fset (fset T.kids T.n []) j (T.kids j ++ [T.n]) z = _
      rw [fset_ne hzj, fset_ne (i := T.n) (j := z) (fun e => h.fresh (e ▸ hz))]
  map := more_map h hs (fun z => by rw [Fo.all_addc]; simp [hj])
  uniq := more_uniq h hs
  len := by
    show (T.M ++ [(s, T.n, t)]).length = _
    rw [Fo.addc_len h.nd hj, List.length_append, h.len]; rfl
  ix := by
    have hjn := h.lt j hj
    have hjne : j ≠ T.n := by omega
    refine ⟨fun i k hi hk => ?_, fun i k hi hk => ?_, fun e he => ?_, fun i hi => ?_⟩
    · change i < T.n + 1 at hi; change fset T.par T.n (some j) i = some k at hk; show k < T.n + 1
      by_cases e : i = T.n
      · subst e; rw [fset_same] at hk; cases hk; omega
      · rw [fset_ne e] at hk; have := h.ix.par i k (by omega) hk; omega
    · change i < T.n + 1 at hi; change k ∈ fset (fset T.kids T.n []) j (T.kids j ++ [T.n]) i at hk; show k < T.n + 1
      by_cases e2 : i = j
      · subst e2; rw [fset_same] at hk
        rcases List.mem_append.1 hk with hk | hk
        · have := h.ix.kids i k hjn hk; omega
        · rw [List.mem_singleton] at hk; omega
      · rw [fset_ne e2] at hk
        by_cases e : i = T.n
        · subst e; rw [fset_same] at hk; cases hk
        · rw [fset_ne e] at hk; have := h.ix.kids i k (by omega) hk; omega
    · show e.2.1 < T.n + 1
      rcases List.mem_append.1 he with he | he
      · have := h.ix.map e he; omega
      · rw [List.mem_singleton] at he; subst he; exact Nat.lt_succ_self _
    · change i < T.n + 1 at hi; show (fset (fset T.kids T.n []) j (T.kids j ++ [T.n]) i).length ≤ T.n + 1
      by_cases e2 : i = j
      · subst e2; rw [fset_same, List.length_append]; have := h.ix.small i hjn; simp; omega
      · rw [fset_ne e2]
        by_cases e : i = T.n
        · subst e; rw [fset_same]; exact Nat.zero_le _
        · rw [fset_ne e]; have := h.ix.small i (by omega); omega
theorem gone_parF {s : SlotM} {x : Nat} (hx : tget s T.M = some x) : Fo.OkP (T.gone s x).par (Fo.drop x F) none := by
 refine Fo.OkP.drop (k := T.par) h.nd (h.mem hx) (fun z hz hzx => ?_) h.par
 show (if z ∈ T.kids x then T.par x else T.par z) = _
 rw [h.kidsR (h.mem hx), h.parO (h.mem hx)]
theorem gone_kidsF {s : SlotM} {x : Nat} (hx : tget s T.M = some x) : Fo.OkK (T.gone s x).kids (Fo.drop x F) := by
 have hm := h.mem hx
 refine Fo.OkK.drop (k := T.kids) (p := none) h.nd (fun j hj => by cases hj) hm (fun z hz hzx => ?_) h.kids
 rw [← h.parO hm, ← h.kidsR hm]
 show (match T.par x with | none => T.kids | some j => fset T.kids j (Fo.repl x (T.kids x) (T.kids j))) z = _
 cases hp : T.par x with
 | none => simp
 | some j =>
  dsimp only
  by_cases e : z = j
  ·
   subst e; rw [fset_same, if_pos rfl]
  ·
   rw [fset_ne e, if_neg (fun e2 => e (Option.some.inj e2).symm)]
theorem tok_drop {s : SlotM} {x : Nat} (hx : tget s T.M = some x) : TOk (T.gone s x) (F.drop x) where
  nd := Fo.nd_drop h.nd
  lt := fun i hi => h.lt i ((Fo.all_drop h.nd).1 hi).1
  par := gone_parF h hx
  kids := gone_kidsF h hx
  map := fun o i => by
    show tget o (tdel s T.M) = some i ↔ i ∈ (F.drop x).all ∧ T.sl i = o
    rw [tget_del h.uniq, Fo.all_drop h.nd]
    by_cases e : o = s
    · rw [if_pos e]
      constructor
      · intro h2; cases h2
      · rintro ⟨⟨h1, h2⟩, h3⟩
        have := h.get h1
        rw [h3, e, hx] at this; exact absurd (Option.some.inj this).symm h2
    · rw [if_neg e, h.map]
      constructor
      · rintro ⟨h1, h2⟩
        refine ⟨⟨h1, fun e2 => e ?_⟩, h2⟩
        rw [← h2, e2, h.sl hx]
      · rintro ⟨⟨h1, _⟩, h2⟩; exact ⟨h1, h2⟩
  uniq := (tdel_sub.map Prod.fst).nodup h.uniq
  len := by
    have h1 := tdel_len hx
    have h2 := Fo.drop_len h.nd (h.mem hx)
    have h3 := h.len
    show (tdel s T.M).length = _
    omega
  ix := by
    have hxn := h.ix.get hx
    refine ⟨fun i j hi hj => ?_, fun i k hi hk => ?_, fun e he => h.ix.map e (tdel_sub.subset he), fun i hi => ?_⟩
    · change (if i ∈ T.kids x then T.par x else T.par i) = some j at hj
      split at hj
      · exact h.ix.par x j hxn hj
      · exact h.ix.par i j hi hj
    · change k ∈ (match T.par x with | none => T.kids | some j => fset T.kids j (Fo.repl x (T.kids x) (T.kids j))) i at hk
      cases hp : T.par x with
      | none => rw [hp] at hk; exact h.ix.kids i k hi hk
      | some j =>
        rw [hp] at hk
        dsimp only at hk
        by_cases e : i = j
        · subst e
          rw [fset_same] at hk
          obtain ⟨p, _, _, hr⟩ := repl_at (l := T.kids x) (h.xj hx hp).1
          rw [hr] at hk
          rcases List.mem_append.1 hk with hk | hk
          · rcases List.mem_append.1 hk with hk | hk
            · exact h.ix.kids i k hi (List.mem_of_mem_take hk)
            · exact h.ix.kids x k hxn hk
          · exact h.ix.kids i k hi (List.mem_of_mem_drop hk)
        · rw [fset_ne e] at hk; exact h.ix.kids i k hi hk
    · cases hp : T.par x with
      | none => simp only [TreeM.gone, hp]; exact h.ix.small i hi
      | some j =>
        by_cases e : i = j
        · subst e
          have hj := (h.xj hx hp).2
          have hne : i ≠ x := fun e => h.xk hx (e ▸ (h.xj hx hp).1)
          have hj2 : i ∈ (F.drop x).all := (Fo.all_drop h.nd).2 ⟨hj, hne⟩
          have := (Fo.OkK.sub (gone_kidsF h hx) hj2).1
          rw [this]
          have h1 := roots_len (Fo.sub i (F.drop x))
          have h2 := sub_len (F.drop x) i
          have h3 := (Fo.drop_sublist (x := x) F).length_le
          have h4 := h.all_len
          show _ ≤ T.n
          omega
        · simp only [TreeM.gone, hp]; rw [fset_ne e]; exact h.ix.small i hi
theorem moved_tget {o s : SlotM} {i t : Nat} (hs : tget s T.M = none) (q : SlotM) : tget q (T.moved o s i t).M = if q = s then some i else if q = o then none else tget q T.M := by
 show tget q (tdel o T.M ++ [(s, i, t)]) = _
 rw [tget_app, tget_del h.uniq]
 by_cases e : q = s
 ·
  rw [if_pos e, e, hs, ite_self]; simp [tget]
 ·
  rw [if_neg e]
  have : tget q [(s, i, t)] = none := by simp [tget, e]
  rw [this]
  split
  ·
   rfl
  ·
   cases tget q T.M <;> rfl
theorem tok_move {o s : SlotM} {i t : Nat} (ho : tget o T.M = some i) (hs : tget s T.M = none) : TOk (T.moved o s i t) F where
  nd := h.nd
  lt := h.lt
  par := h.par
  kids := h.kids
  map := fun q k => by
    rw [moved_tget h hs]
    show _ ↔ k ∈ F.all ∧ fset T.sl i s k = q
    by_cases e : k = i
    · subst e
      rw [fset_same]
      constructor
      · intro h2
        refine ⟨h.mem ho, ?_⟩
        by_cases eq : q = s
        · exact eq.symm
        · rw [if_neg eq] at h2
          split at h2
          · cases h2
          · rename_i hq
            exact absurd ((h.sl h2).symm.trans (h.sl ho)) hq
      · rintro ⟨_, rfl⟩; rw [if_pos rfl]
    · rw [fset_ne e]
      constructor
      · intro h2
        by_cases eq : q = s
        · rw [if_pos eq] at h2; exact absurd (Option.some.inj h2).symm e
        · rw [if_neg eq] at h2
          split at h2
          · cases h2
          · exact ⟨h.mem h2, h.sl h2⟩
      · rintro ⟨h1, h2⟩
        have h3 := h.get h1
        rw [h2] at h3
        have e1 : q ≠ s := fun eq => by rw [eq, hs] at h3; cases h3
        have e2 : q ≠ o := fun eq => by rw [eq, ho] at h3; exact e (Option.some.inj h3).symm
        rw [if_neg e1, if_neg e2, h3]
  uniq := by
    show ((tdel o T.M ++ [(s, i, t)]).map Prod.fst).Nodup
    rw [List.map_append]
    refine List.nodup_append.2 ⟨(tdel_sub.map Prod.fst).nodup h.uniq, by simp, fun a ha b hb e => ?_⟩
    simp at hb; subst hb
    exact tget_none hs (e ▸ (tdel_sub.map Prod.fst).subset ha)
  len := by
    have h1 := tdel_len ho
    have h3 := h.len
    show (tdel o T.M ++ [(s, i, t)]).length = _
    rw [List.length_append]; simp; omega
  ix := ⟨h.ix.par, h.ix.kids, fun e he => by
    rcases List.mem_append.1 he with he | he
    · exact h.ix.map e (tdel_sub.subset he)
    · rw [List.mem_singleton] at he; subst he; exact h.ix.get ho, h.ix.small⟩
end
end Go.Proofs.Ytdodfnjmkpgdbaa
end
section
set_option linter.unusedVariables false
set_option linter.unusedSimpArgs false
set_option linter.unusedSectionVars false
namespace Go.Proofs.Ytdodfnjmkpgdbaa
open Go.SL
namespace Fo
section
variable {α β : Type}
def map (g : α → β) : Fo α → Fo β
  | .nil => .nil
  | .cons i c r => .cons (g i) (map g c) (map g r)
theorem all_map (g : α → β) : ∀ f : Fo α, all (map g f) = (all f).map g
  | .nil => rfl
  | .cons i c r => by simp [map, all, all_map g c, all_map g r]
theorem map_app (g : α → β) : ∀ a b : Fo α, map g (app a b) = app (map g a) (map g b)
  | .nil, _ => rfl
  | .cons i c r, b => by simp [map, app, map_app g r b]
theorem map_congr {g h : α → β} : ∀ {f : Fo α}, (∀ z, z ∈ all f → g z = h z) → map g f = map h f
  | .nil, _ => rfl
  | .cons i c r, e => by
    simp only [map]
    rw [e i (by simp [all]), map_congr (f := c) (fun z hz => e z (by simp [all, hz])), map_congr (f := r) (fun z hz => e z (by simp [all, hz]))]
theorem map_map {γ : Type} (g : α → β) (h : β → γ) : ∀ f : Fo α, map h (map g f) = map (fun x => h (g x)) f
  | .nil => rfl
  | .cons i c r => by simp [map, map_map g h c, map_map g h r]
end
section
variable {α β : Type} [DecidableEq α] [DecidableEq β]
def Inj1 (g : α → β) (x : α) (f : Fo α) : Prop := ∀ z, z ∈ all f → g z = g x → z = x
theorem inj_c {g : α → β} {x i : α} {c r : Fo α} (h : Inj1 g x (.cons i c r)) : Inj1 g x c := fun z hz => h z (by simp [all, hz])
theorem inj_r {g : α → β} {x i : α} {c r : Fo α} (h : Inj1 g x (.cons i c r)) : Inj1 g x r := fun z hz => h z (by simp [all, hz])
theorem inj_i {g : α → β} {x i : α} {c r : Fo α} (h : Inj1 g x (.cons i c r)) : g i = g x ↔ i = x := ⟨h i (by simp [all]), fun e => by rw [e]⟩
theorem inj_mem {g : α → β} {x : α} {f : Fo α} (h : Inj1 g x f) : g x ∈ all (map g f) ↔ x ∈ all f := by
 rw [all_map, List.mem_map]
 exact ⟨fun ⟨z, hz, e⟩ => h z hz e ▸ hz, fun hx => ⟨x, hx, rfl⟩⟩
theorem sub_map {g : α → β} {x : α} : ∀ {f : Fo α}, Inj1 g x f → sub (g x) (map g f) = map g (sub x f)
  | .nil, _ => rfl
  | .cons i c r, h => by
    simp only [map, sub, inj_i h, inj_mem (inj_c h), sub_map (inj_c h), sub_map (inj_r h)]
    split
    · rfl
    · split <;> rfl
theorem drop_map {g : α → β} {x : α} : ∀ {f : Fo α}, Inj1 g x f → drop (g x) (map g f) = map g (drop x f)
  | .nil, _ => rfl
  | .cons i c r, h => by
    simp only [map, drop, inj_i h, drop_map (inj_c h), drop_map (inj_r h)]
    split
    · rw [map_app]
    · rfl
theorem addc_map {g : α → β} {x y : α} : ∀ {f : Fo α}, Inj1 g x f → addc (g x) (g y) (map g f) = map g (addc x y f)
  | .nil, _ => rfl
  | .cons i c r, h => by
    simp only [map, addc, inj_i h, addc_map (inj_c h), addc_map (inj_r h)]
    split
    · simp [map, map_app]
    · rfl
omit [DecidableEq α] [DecidableEq β] in
theorem nodup_map_on {g : α → β} : ∀ {l : List α}, l.Nodup → (∀ a b, a ∈ l → b ∈ l → g a = g b → a = b) → (l.map g).Nodup
  | [], _, _ => List.nodup_nil
  | a :: l, h, hi => by
    rw [List.nodup_cons] at h
    rw [List.map_cons, List.nodup_cons]
    refine ⟨fun hm => ?_, nodup_map_on h.2 fun x y hx hy => hi x y (List.mem_cons_of_mem _ hx) (List.mem_cons_of_mem _ hy)⟩
    obtain ⟨z, hz, e⟩ := List.mem_map.1 hm
    exact h.1 (hi z a (List.mem_cons_of_mem _ hz) (List.mem_cons_self ..) e ▸ hz)
theorem nd_map {g : α → β} {f : Fo α} (h : Nd f) (hi : ∀ a b, a ∈ all f → b ∈ all f → g a = g b → a = b) : Nd (map g f) := by
 unfold Nd at *
 rw [all_map]
 exact nodup_map_on h hi
end
end Fo
abbrev FoS := Fo SlotM
def ftRoot (F : FoS) (s : SlotM) : Int × FoS := if s ∈ F.all then (4, F) else (0, F.app (.one s))
def ftChild (F : FoS) (o s : SlotM) : Int × FoS := if o ∈ F.all then (if s ∈ F.all then (4, F) else (0, F.addc o s)) else (3, F)
def ftDrop (F : FoS) (s : SlotM) : Int × FoS := if s ∈ F.all then (0, F.drop s) else (3, F)
def ren (o s : SlotM) (z : SlotM) : SlotM := if z = o then s else z
def ftMove (F : FoS) (o s : SlotM) : Int × FoS := if o ∈ F.all then (if s ∈ F.all then (4, F) else (0, F.map (ren o s))) else (3, F)
def ftKin (F : FoS) (s : SlotM) : List SlotM := (F.sub s).all
def TrF (n : Nat) (F : FoS) (tb : Nat) (L : Hp) : Prop := ∃ T G, TOk T G ∧ TrH T tb L ∧ T.n ≤ n ∧ F = G.map T.sl
section
variable {T : TreeM} {G : Fo Nat} (h : TOk T G)
include h
theorem TOk.inj1 {x : Nat} (hx : x ∈ G.all) : Fo.Inj1 T.sl x G := fun z hz e => h.inj hz hx e
theorem TOk.in_all {s : SlotM} : s ∈ (G.map T.sl).all ↔ ∃ i, tget s T.M = some i := by
 rw [Fo.all_map, List.mem_map]
 constructor
 ·
  rintro ⟨i, hi, rfl⟩; exact ⟨i, h.get hi⟩
 ·
  rintro ⟨i, hi⟩; exact ⟨i, h.mem hi, h.sl hi⟩
theorem TOk.out_all {s : SlotM} : tget s T.M = none ↔ s ∉ (G.map T.sl).all := by
 rw [h.in_all]; cases tget s T.M <;> simp
theorem TOk.ndS : Fo.Nd (G.map T.sl) := Fo.nd_map h.nd fun a b ha hb e => h.inj ha hb e
theorem TOk.kinS (s : SlotM) : tkin T G s = ftKin (G.map T.sl) s := by
 unfold tkin ftKin
 cases e : tget s T.M with
 | none => rw [Fo.sub_no _ _ (h.out_all.1 e)]; rfl
 | some i =>
  have := Fo.sub_map (g := T.sl) (h.inj1 (h.mem e))
  rw [h.sl e] at this
  rw [this, Fo.all_map]
theorem more_mapS {s : SlotM} {p : Option Nat} {t : Nat} : G.map (T.more s p t).sl = G.map T.sl := Fo.map_congr fun z hz => fset_ne fun e => h.fresh (e ▸ hz)
theorem more_rootS {s : SlotM} {t : Nat} : (G.app (.one T.n)).map (T.more s none t).sl = (G.map T.sl).app (.one s) := by
 rw [Fo.map_app, more_mapS h]
 have : (T.more s none t).sl T.n = s := fset_same ..
 simp [Fo.one, Fo.map, this]
theorem more_childS {o s : SlotM} {j t : Nat} (hj : tget o T.M = some j) : (G.addc j T.n).map (T.more s (some j) t).sl = (G.map T.sl).addc o s := by
 have e1 : (T.more s (some j) t).sl T.n = s := fset_same ..
 have hjn : j ≠ T.n := fun e => h.fresh (e ▸ h.mem hj)
 have e2 : (T.more s (some j) t).sl j = o := (fset_ne (f := T.sl) (a := s) hjn).trans (h.sl hj)
 have hi : Fo.Inj1 (T.more s (some j) t).sl j G := fun z hz e => by
  have h1 : (T.more s (some j) t).sl z = T.sl z := fset_ne fun e => h.fresh (e ▸ hz)
  rw [h1, e2, ← h.sl hj] at e
  exact h.inj hz (h.mem hj) e
 have := Fo.addc_map (g := (T.more s (some j) t).sl) (y := T.n) hi
 rw [← this, e1, e2, more_mapS h]
theorem gone_S {s : SlotM} {i : Nat} (hi : tget s T.M = some i) : (G.drop i).map (T.gone s i).sl = (G.map T.sl).drop s := by
 have := Fo.drop_map (g := T.sl) (h.inj1 (h.mem hi))
 rw [h.sl hi] at this
 exact this.symm
theorem moved_S {o s : SlotM} {i t : Nat} (hi : tget o T.M = some i) : G.map (T.moved o s i t).sl = (G.map T.sl).map (ren o s) := by
 rw [Fo.map_map]
 refine Fo.map_congr fun z hz => ?_
 show fset T.sl i s z = _
 unfold ren
 by_cases e : z = i
 ·
  subst e; rw [fset_same, if_pos (h.sl hi)]
 ·
  rw [fset_ne e, if_neg]
  intro e2; exact e (h.inj hz (h.mem hi) (e2.trans (h.sl hi).symm))
end
theorem ftRoot_nd {F : FoS} {s : SlotM} (h : Fo.Nd F) : Fo.Nd (ftRoot F s).2 := by
 unfold ftRoot; split
 ·
  exact h
 ·
  rename_i hs; exact Fo.nd_app h (Fo.nd_one _) fun z hz e => by simp [Fo.one, Fo.all] at e; exact hs (e ▸ hz)
theorem ftChild_nd {F : FoS} {o s : SlotM} (h : Fo.Nd F) : Fo.Nd (ftChild F o s).2 := by
 unfold ftChild; split
 ·
  split
  ·
   exact h
  ·
   exact Fo.nd_addc h (by assumption)
 ·
  exact h
theorem ren_inj {o s : SlotM} {F : FoS} (hs : s ∉ F.all) : ∀ a b, a ∈ F.all → b ∈ F.all → ren o s a = ren o s b → a = b := by
 intro a b ha hb e
 unfold ren at e
 by_cases h1 : a = o <;> by_cases h2 : b = o
 ·
  rw [h1, h2]
 ·
  rw [if_pos h1, if_neg h2] at e; exact absurd (e ▸ hb) hs
 ·
  rw [if_neg h1, if_pos h2] at e; exact absurd (e ▸ ha) hs
 ·
  rw [if_neg h1, if_neg h2] at e; exact e
theorem ftMove_nd {F : FoS} {o s : SlotM} (h : Fo.Nd F) : Fo.Nd (ftMove F o s).2 := by
 unfold ftMove; split
 ·
  split
  ·
   exact h
  ·
   exact Fo.nd_map h (ren_inj (by assumption))
 ·
  exact h
end Go.Proofs.Ytdodfnjmkpgdbaa
end
section
set_option linter.unusedVariables false
set_option linter.unusedSimpArgs false
set_option linter.unusedSectionVars false
namespace Go.Proofs.Ytdodfnjmkpgdbaa
open Go.SL
def insAt (l : List DN) (id : Int) : Nat := (l.takeWhile fun d => decide ((d.id : Int) < id)).length
def dadd (l : List DN) (id r : Int) : Int × List DN := (daddErr l id r, if daddErr l id r = 0 then l.take (insAt l id) ++ newN id.toNat r.toNat 0 :: l.drop (insAt l id) else l)
def ddrop (l : List DN) (id : Int) : Int × List DN :=
  match dfind l id with
  | none => (3, l)
  | some d => if d.caps.all (fun c => decide (c.kind = 0)) then (0, ddel l id) else (8, l)
theorem insAt_place {id : Int} : ∀ l : List DN, dPlace l id (insAt l id)
  | [] => ⟨Nat.le_refl _, fun j d hj => absurd hj (Nat.not_lt_zero j), fun d hd => by cases hd⟩
  | a :: l => by
    obtain ⟨h1, h2, h3⟩ := insAt_place (id := id) l
    by_cases e : (a.id : Int) < id
    · have he : insAt (a :: l) id = insAt l id + 1 := by unfold insAt; rw [List.takeWhile_cons_of_pos (by simpa using e), List.length_cons]
      rw [he]
      refine ⟨by simpa using h1, fun j d hj hd => ?_, fun d hd => h3 d (by simpa using hd)⟩
      cases j with
      | zero => simp at hd; subst hd; exact e
      | succ j => exact h2 j d (by omega) (by simpa using hd)
    · have he : insAt (a :: l) id = 0 := by unfold insAt; rw [List.takeWhile_cons_of_neg (by simpa using e)]; rfl
      rw [he]
      exact ⟨Nat.zero_le _, fun j d hj => absurd hj (Nat.not_lt_zero j), fun d hd => by simp at hd; subst hd; exact e⟩
theorem dempty_all {d : DN} : dempty d ↔ d.caps.all (fun c => decide (c.kind = 0)) = true := by
 unfold dempty; rw [List.all_eq_true]
 exact ⟨fun h c hc => decide_eq_true (h c hc), fun h c hc => of_decide_eq_true (h c hc)⟩
def StF (l : List DN) (sb : Nat) (L : Hp) : Prop := ∃ S, Rel S l ∧ L = storeHp sb S
def maskM (a b : Int) : Int := if rightsOk a = true ∧ rightsOk b = true then bitsI .and .i64 a b else 0
def derive (c : CapM) (r badge g n : Int) : CapM × Int :=
  if checkM c ≠ 0 then (CapM.zero, checkM c)
  else if c.kind = 0 then (CapM.zero, 3)
  else if c.kind = 1 ∨ c.kind = 10 ∨ c.kind = 11 then (CapM.zero, 2)
  else if rightsOk r = false then (CapM.zero, 5)
  else if c.kind = 6 then ({ c with rights := maskM c.rights r }, 0)
  else if c.kind = 2 then (if fitsM g n = false then (CapM.zero, 10) else ({ c with guard := g, bits := n }, 0))
  else if c.kind = 4 ∨ c.kind = 5 then
    (if badge ≠ 0 ∧ c.badge ≠ 0 then (CapM.zero, 8)
     else if (if badge ≠ 0 then badge else c.badge).fdiv (2 ^ 28) ≠ 0 then (CapM.zero, 10)
     else ({ c with rights := maskM c.rights r, badge := if badge ≠ 0 then badge else c.badge }, 0))
  else (c, 0)
structure PS where
  l : List DN
  F : FoS
def mSource (p : PS) (s : SlotM) : CapM × Int := if (dget p.l s).2 = 0 ∧ (dget p.l s).1.kind = 0 then ((dget p.l s).1, 3) else dget p.l s
def mPlace (p : PS) (s : SlotM) : Int := if (dget p.l s).2 = 0 ∧ (dget p.l s).1.kind ≠ 0 then 4 else (dget p.l s).2
def mBoth (p : PS) (s d : SlotM) : CapM × Int := ((mSource p s).1, if (mSource p s).2 = 0 then mPlace p d else (mSource p s).2)
def mNode (p : PS) (id r : Int) : Int × PS := ((dadd p.l id r).1, ⟨(dadd p.l id r).2, p.F⟩)
def mClear (p : PS) (id : Int) : Int × PS := ((ddrop p.l id).1, ⟨(ddrop p.l id).2, p.F⟩)
def mPlant (p : PS) (s : SlotM) (c : CapM) : Int × PS := ((dput p.l s c).1, ⟨(dput p.l s c).2, if (dput p.l s c).1 = 0 then (ftRoot p.F s).2 else p.F⟩)
def mChild (p : PS) (o s : SlotM) (c : CapM) : Int × PS :=
  if (mBoth p o s).2 ≠ 0 then ((mBoth p o s).2, p) else ((dput p.l s c).1, ⟨(dput p.l s c).2, if (dput p.l s c).1 = 0 then (ftChild p.F o s).2 else p.F⟩)
def mMint (p : PS) (s d : SlotM) (r b g n : Int) : Int × PS :=
  if (mBoth p s d).2 ≠ 0 then ((mBoth p s d).2, p) else if (derive (mBoth p s d).1 r b g n).2 ≠ 0 then ((derive (mBoth p s d).1 r b g n).2, p) else mChild p s d (derive (mBoth p s d).1 r b g n).1
def mCopy (p : PS) (s d : SlotM) (r : Int) : Int × PS := mMint p s d r 0 (dget p.l s).1.guard (dget p.l s).1.bits
def mCarry (p : PS) (s d : SlotM) (c : CapM) : PS := ⟨(dput (dtake p.l s).2.2 d c).2, (ftMove p.F s d).2⟩
def mMove (p : PS) (s d : SlotM) : Int × PS := ((mBoth p s d).2, if (mBoth p s d).2 = 0 then mCarry p s d (mBoth p s d).1 else p)
def mTake (p : PS) (s : SlotM) : CapM × Int × PS := ((dtake p.l s).1, (dtake p.l s).2.1, ⟨(dtake p.l s).2.2, if (dtake p.l s).2.1 = 0 then (ftDrop p.F s).2 else p.F⟩)
abbrev cBlk (cb sb tb : Nat) : Nat × Obj := (cb, .cells [.pointer (some ⟨sb, 0, none⟩), .pointer (some ⟨tb, 0, none⟩)].toArray 35)
def CapsH (n : Nat) (p : PS) (cb : Nat) (L : Hp) : Prop := ∃ sb tb Ls Lt, StF p.l sb Ls ∧ TrF n p.F tb Lt ∧ L = cBlk cb sb tb :: (Ls ++ Lt)
def PS.new : PS := ⟨[], .nil⟩
end Go.Proofs.Ytdodfnjmkpgdbaa
end
section
set_option linter.unusedVariables false
set_option linter.unusedSimpArgs false
set_option linter.unusedSectionVars false
namespace Go.Proofs.Ytdodfnjmkpgdbaa
open Go.SL
theorem sub_lenS : ∀ (f : FoS) (x : SlotM), (Fo.sub x f).all.length ≤ f.all.length
  | .nil, _ => Nat.le_refl _
  | .cons i c r, x => by
    simp only [Fo.sub, Fo.all, List.length_cons, List.length_append]
    split
    · omega
    · split
      · have := sub_lenS c x; omega
      · have := sub_lenS r x; omega
theorem dput_no {l : List DN} {s : SlotM} {c : CapM} (h : (dput l s c).1 ≠ 0) : (dput l s c).2 = l := by
 unfold dput at h ⊢
 split
 ·
  rfl
 ·
  rename_i hx
  rw [hx] at h
  dsimp only at h
  split
  ·
   rfl
  ·
   rename_i h1
   rw [if_neg h1] at h
   split
   ·
    rfl
   ·
    rename_i h2
    rw [if_neg h2] at h
    split
    ·
     rfl
    ·
     rename_i h3
     rw [if_neg h3] at h
     exact absurd rfl h
theorem mPlant_no {p : PS} {s : SlotM} {c : CapM} (h : (mPlant p s c).1 ≠ 0) : (mPlant p s c).2 = p := by
 unfold mPlant at h ⊢
 dsimp only at h ⊢
 rw [if_neg h, dput_no h]
theorem mChild_no {p : PS} {o s : SlotM} {c : CapM} (h : (mChild p o s c).1 ≠ 0) : (mChild p o s c).2 = p := by
 unfold mChild at h ⊢
 split
 ·
  rfl
 ·
  rename_i hb
  rw [if_neg hb] at h
  dsimp only at h ⊢
  rw [if_neg h, dput_no h]
theorem TrF.kin_len {n : Nat} {F : FoS} {tb : Nat} {L : Hp} (h : TrF n F tb L) (s : SlotM) (hn : n ≤ 2 ^ 20) : (ftKin F s).length ≤ 2 ^ 40 := by
 obtain ⟨T, G, hT, _, h2, rfl⟩ := h
 have h1 := hT.all_len
 have h3 : (ftKin (G.map T.sl) s).length ≤ (G.map T.sl).all.length := sub_lenS _ _
 rw [Fo.all_map, List.length_map] at h3
 omega
structure OpC where
  kind : Int
  a : SlotM
  b : SlotM
  d : SlotM
  c : CapM
  n : Int
  rights : Int
  badge : Int
  guard : Int
  bits : Int
abbrev OpC.cells (o : OpC) : List Value := [.int .i64 o.kind, .int .i64 o.a.1, .int .i64 o.a.2, .int .i64 o.b.1, .int .i64 o.b.2, .int .i64 o.d.1, .int .i64 o.d.2, .int .i64 o.c.kind, .int .i64 o.c.object, .int .i64 o.c.rights, .int .u64 o.c.badge, .int .u64 o.c.guard, .int .i64 o.c.bits, .int .i64 o.n, .int .i64 o.rights, .int .u64 o.badge, .int .u64 o.guard, .int .i64 o.bits]
end Go.Proofs.Ytdodfnjmkpgdbaa
end
section
set_option linter.unusedVariables false
set_option linter.unusedSimpArgs false
namespace Go.Proofs.Ytdodfnjmkpgdbaa
open Go.SL
structure OpT where
  kind : Int
  a : SlotM
  b : SlotM
abbrev OpT.cells (o : OpT) : List Value := [.int .i64 o.kind, .int .i64 o.a.1, .int .i64 o.a.2, .int .i64 o.b.1, .int .i64 o.b.2]
theorem sub_len' {α : Type} [DecidableEq α] : ∀ (f : Fo α) (x : α), (Fo.sub x f).all.length ≤ f.all.length
  | .nil, _ => Nat.le_refl _
  | .cons i c r, x => by
    simp only [Fo.sub, Fo.all, List.length_cons, List.length_append]
    split
    · omega
    · split
      · have := sub_len' c x; omega
      · have := sub_len' r x; omega
theorem ftKin_len (F : FoS) (s : SlotM) : (ftKin F s).length ≤ F.all.length := sub_len' F s
end Go.Proofs.Ytdodfnjmkpgdbaa
end
section
set_option linter.unusedVariables false
set_option linter.unusedSimpArgs false
set_option linter.unusedSectionVars false
namespace Go.Proofs.Ytdodfnjmkpgdbaa
open Go.SL
namespace Fo
section
variable {α : Type} [DecidableEq α]
theorem all_addc_perm {x y : α} : ∀ {f : Fo α}, Nd f → x ∈ all f → (all (addc x y f)).Perm (all f ++ [y])
  | .nil, _, h => by cases h
  | .cons i c r, hn, h => by
    obtain ⟨n1, n2, n3, n4, n5⟩ := nd_cons hn
    simp only [addc]
    by_cases e : i = x
    · rw [if_pos e]
      simp only [all, all_app, List.cons_append, List.append_nil]
      refine List.Perm.cons _ ?_
      rw [List.append_assoc, List.append_assoc]
      exact List.Perm.append_left _ List.perm_append_comm
    · rw [if_neg e]
      simp only [all, List.cons_append]
      refine List.Perm.cons _ ?_
      by_cases e2 : x ∈ all c
      · rw [addc_no y r x (n5 x e2)]
        refine ((all_addc_perm (y := y) n3 e2).append_right _).trans ?_
        rw [List.append_assoc, List.append_assoc]
        exact List.Perm.append_left _ List.perm_append_comm
      · have hxr : x ∈ all r := by
          simp only [all, List.mem_cons, List.mem_append] at h
          rcases h with h | h | h
          · exact absurd h.symm e
          · exact absurd h e2
          · exact h
        rw [addc_no y c x e2, List.append_assoc]
        exact List.Perm.append_left _ (all_addc_perm n4 hxr)
theorem sub_app {x : α} : ∀ {a b : Fo α}, sub x (app a b) = if x ∈ all a then sub x a else sub x b
  | .nil, b => by simp [app, all]
  | .cons i c r, b => by
    simp only [app, sub, sub_app (a := r), all, List.mem_cons, List.mem_append]
    by_cases e : i = x
    · simp [e]
    · by_cases e2 : x ∈ all c
      · simp [e, e2]
      · have : ¬ x = i := fun h => e h.symm
        simp [e, e2, this]
theorem sub_drop {x s : α} (hxs : x ≠ s) : ∀ {f : Fo α}, Nd f → sub x (drop s f) = drop s (sub x f)
  | .nil, _ => rfl
  | .cons i c r, hn => by
    obtain ⟨n1, n2, n3, n4, n5⟩ := nd_cons hn
    simp only [drop]
    by_cases e : i = s
    · rw [if_pos e, sub_app]
      have e1 : i ≠ x := fun h => hxs (h.symm.trans e)
      simp only [sub]; rw [if_neg e1]
      split
      · rw [drop_no]; exact fun h => n1 (e ▸ sub_all c x s h)
      · rw [drop_no]; exact fun h => n2 (e ▸ sub_all r x s h)
    · rw [if_neg e]
      simp only [sub]
      by_cases e1 : i = x
      · rw [if_pos e1, if_pos e1]
      · rw [if_neg e1, if_neg e1, sub_drop hxs n3, sub_drop hxs n4]
        by_cases e2 : x ∈ all c
        · rw [if_pos e2, if_pos ((all_drop n3).2 ⟨e2, hxs⟩)]
        · rw [if_neg e2, if_neg (fun h => e2 ((all_drop n3).1 h).1)]
theorem all_drop_eq {s : α} : ∀ {f : Fo α}, Nd f → all (drop s f) = (all f).filter fun z => decide (z ≠ s)
  | .nil, _ => rfl
  | .cons i c r, hn => by
    obtain ⟨n1, n2, n3, n4, n5⟩ := nd_cons hn
    have hid : ∀ g : Fo α, s ∉ all g → (all g).filter (fun z => decide (z ≠ s)) = all g := fun g hg => List.filter_eq_self.2 fun z hz => decide_eq_true fun e => hg (e ▸ hz)
    simp only [drop]
    by_cases e : i = s
    · rw [if_pos e, all_app]
      simp only [all, List.filter_cons, List.filter_append]
      rw [hid c (e ▸ n1), hid r (e ▸ n2), if_neg (by simp [e])]
    · rw [if_neg e]
      simp only [all, List.filter_cons, List.filter_append, all_drop_eq n3, all_drop_eq n4]
      rw [if_pos (by simp [e])]
theorem nd_sub {x : α} : ∀ {f : Fo α}, Nd f → Nd (sub x f)
  | .nil, h => h
  | .cons i c r, hn => by
    obtain ⟨n1, n2, n3, n4, n5⟩ := nd_cons hn
    simp only [sub]
    split
    · exact n3
    · split
      · exact nd_sub n3
      · exact nd_sub n4
theorem kin_drop {x s : α} {f : Fo α} (hn : Nd f) (hxs : x ≠ s) : all (sub x (drop s f)) = (all (sub x f)).filter fun z => decide (z ≠ s) := by
 rw [sub_drop hxs hn, all_drop_eq (nd_sub hn)]
end
end Fo
def KinMap (F : FoS) (ins : List SlotM) (M : List (SlotM × Value × Nat)) (H : Hp) (i : Nat) : Prop := ∀ j z, j < i → ins[j]? = some z → ∃ v, mget z M = some v ∧ View H 2 v (ftKin F z).length (slotsCells (ftKin F z))
theorem KinMap.step {F : FoS} {ins : List SlotM} {M : List (SlotM × Value × Nat)} {H C : Hp} {i t : Nat} {z : SlotM} {v : Value} (h : KinMap F ins M H i) (hz : ins[i]? = some z) (hv : View C 2 v (ftKin F z).length (slotsCells (ftKin F z))) : KinMap F ins (mput z v t M) (C ++ H) (i + 1) := by
 intro j y hj hy
 rw [mget_mput]
 by_cases e : y = z
 ·
  subst e; rw [if_pos rfl]
  exact ⟨v, rfl, hv.mono fun p hp => List.mem_append_left _ hp⟩
 ·
  rw [if_neg e]
  have hji : j ≠ i := fun e2 => by subst e2; rw [hz] at hy; exact e (Option.some.inj hy).symm
  obtain ⟨u, h1, h2⟩ := h j y (by omega) hy
  exact ⟨u, h1, h2.mono fun p hp => List.mem_append_right _ hp⟩
theorem KinMap.mono {F : FoS} {ins : List SlotM} {M : List (SlotM × Value × Nat)} {H : Hp} {i j : Nat} (h : KinMap F ins M H i) (hj : j ≤ i) : KinMap F ins M H j := fun k z hk => h k z (by omega)
end Go.Proofs.Ytdodfnjmkpgdbaa
end
section
set_option linter.unusedVariables false
set_option linter.unusedSimpArgs false
namespace Go.Proofs.Ytdodfnjmkpgdbaa
open Go.SL
def mask4 (a b : Nat) : Nat → Nat
  | 0 => 0
  | k + 1 => mask4 a b k + (if a / 2 ^ k % 2 = 1 ∧ b / 2 ^ k % 2 = 1 then 2 ^ k else 0)
def withinM (a b : Int) : Prop := (0 ≤ a ∧ a ≤ 7) ∧ (0 ≤ b ∧ b ≤ 7) ∧ (mask4 a.toNat b.toNat 3 : Int) = a
def weakM (a b : CapM) : Prop := checkM a = 0 ∧ checkM b = 0 ∧ a.kind = b.kind ∧ a.object = b.object ∧ withinM a.rights b.rights ∧ (b.badge = 0 ∨ a.badge = b.badge)
def d8 (P : Nat → Nat → Nat → Bool) : Bool := (List.range 8).all fun a => (List.range 8).all fun b => (List.range 8).all fun c => P a b c
theorem d8_at {P : Nat → Nat → Nat → Bool} (h : d8 P = true) {a b c : Nat} (ha : a < 8) (hb : b < 8) (hc : c < 8) : P a b c = true := by
 unfold d8 at h
 rw [List.all_eq_true] at h
 have h1 := h a (List.mem_range.2 ha)
 rw [List.all_eq_true] at h1
 have h2 := h1 b (List.mem_range.2 hb)
 rw [List.all_eq_true] at h2
 exact h2 c (List.mem_range.2 hc)
theorem mask_trans : d8 (fun a b c => !decide (mask4 a b 3 = a) || !decide (mask4 b c 3 = b) || decide (mask4 a c 3 = a)) = true := by decide
theorem mask_self : d8 (fun a _ _ => decide (mask4 a a 3 = a)) = true := by decide
theorem mask_in : d8 (fun a b _ => decide (mask4 (mask4 a b 3) a 3 = mask4 a b 3) && decide (mask4 a b 3 < 8)) = true := by decide
theorem withinM.trans {a b c : Int} (h : withinM a b) (k : withinM b c) : withinM a c := by
 obtain ⟨h1, h2, h3⟩ := h
 obtain ⟨k1, k2, k3⟩ := k
 refine ⟨h1, k2, ?_⟩
 have := d8_at mask_trans (a := a.toNat) (b := b.toNat) (c := c.toNat) (by omega) (by omega) (by omega)
 simp only [Bool.or_eq_true, Bool.not_eq_true', decide_eq_false_iff_not, decide_eq_true_iff] at this
 omega
theorem withinM.self {a : Int} (h : 0 ≤ a ∧ a ≤ 7) : withinM a a := by
 refine ⟨h, h, ?_⟩
 have := d8_at mask_self (a := a.toNat) (b := 0) (c := 0) (by omega) (by omega) (by omega)
 simp only [decide_eq_true_iff] at this
 omega
theorem weakM.trans {a b c : CapM} (h : weakM a b) (k : weakM b c) : weakM a c := by
 obtain ⟨h1, h2, h3, h4, h5, h6⟩ := h
 obtain ⟨k1, k2, k3, k4, k5, k6⟩ := k
 refine ⟨h1, k2, h3.trans k3, h4.trans k4, h5.trans k5, ?_⟩
 rcases k6 with k6 | k6
 ·
  exact .inl k6
 ·
  rcases h6 with h6 | h6
  ·
   exact .inl (k6 ▸ h6)
  ·
   exact .inr (h6.trans k6)
end Go.Proofs.Ytdodfnjmkpgdbaa
end
section
set_option linter.unusedVariables false
set_option linter.unusedSimpArgs false
set_option linter.unusedSectionVars false
namespace Go.Proofs.Ytdodfnjmkpgdbaa
open Go.SL
abbrev HasS (l : List DN) : Prop := ∃ S, Rel S l
theorem dget_le {l : List DN} {s : SlotM} (h : (dget l s).1.kind ≠ 0) : (dget l s).2 = 0 := by
 unfold dget at h ⊢
 cases e : dcap? l s with
 | none => rw [e] at h; exact absurd rfl h
 | some x => rfl
theorem dget_cap {l : List DN} {s : SlotM} {x : CapM} (h : dget l s = (x, 0)) : dcap? l s = some x := by
 unfold dget at h
 cases e : dcap? l s with
 | none => rw [e] at h; have := congrArg Prod.snd h; simp at this
 | some y => rw [e] at h; exact congrArg some (congrArg Prod.fst h)
section
variable {l : List DN} (h : HasS l)
include h
theorem HasS.zero {s : SlotM} (hk : (dget l s).1.kind = 0) : (dget l s).1 = CapM.zero := by
 obtain ⟨S, hR⟩ := h
 unfold dget at hk ⊢
 cases e : dcap? l s with
 | none => rfl
 | some x =>
  rw [e] at hk
  rw [← rel_cap hR] at e
  obtain ⟨n, hn, _, hc, _⟩ := StoreM.cap_some e
  exact hR.zero _ n _ x hn hc hk
theorem HasS.check {s : SlotM} (hk : (dget l s).1.kind ≠ 0) : checkM (dget l s).1 = 0 := by
 obtain ⟨S, hR⟩ := h
 unfold dget at hk ⊢
 cases e : dcap? l s with
 | none => rw [e] at hk; exact absurd rfl hk
 | some x =>
  rw [e] at hk
  rw [← rel_cap hR] at e
  obtain ⟨n, hn, _, hc, _⟩ := StoreM.cap_some e
  exact (hR.tidy _ n _ x hn hc hk).2
theorem HasS.put (s : SlotM) (c : CapM) : HasS (dput l s c).2 := by
 obtain ⟨S, hR⟩ := h
 exact ⟨_, (rel_put hR s c).2⟩
theorem HasS.take (s : SlotM) : HasS (dtake l s).2.2 := by
 obtain ⟨S, hR⟩ := h
 exact ⟨_, (rel_take hR s).2.2⟩
theorem put_iff {s : SlotM} {c : CapM} : (dput l s c).1 = 0 ↔ (dget l s).2 = 0 ∧ (dget l s).1.kind = 0 ∧ checkM c = 0 ∧ c.kind ≠ 0 := by
 unfold dput dget
 cases e : dcap? l s with
 | none => simp
 | some x =>
  dsimp only
  by_cases h1 : checkM c = 0
  ·
   by_cases h2 : c.kind = 0
   ·
    simp [h1, h2]
   ·
    by_cases h3 : x.kind = 0
    ·
     simp [h1, h2, h3]
    ·
     simp [h1, h2, h3]
  ·
   simp [h1]
theorem put_get {s : SlotM} {c : CapM} (h0 : (dput l s c).1 = 0) (t : SlotM) : dget (dput l s c).2 t = if t = s then (c, 0) else dget l t := by
 obtain ⟨S, hR⟩ := h
 obtain ⟨h1, h2, h3, h4⟩ := (put_iff ⟨S, hR⟩).1 h0
 obtain ⟨e, hR2⟩ := rel_put hR s c
 rw [← rel_get hR2, ← rel_get hR]
 have hx : S.cap? s = some (dget l s).1 := by
  rw [rel_cap hR]
  refine dget_cap ?_
  rw [← h1]
 have : (S.put s c).2 = S.setCap s c := by
  unfold StoreM.put; rw [hx]; dsimp only
  rw [if_neg (by simp [h3]), if_neg h4, if_neg (by simp [h2])]
 rw [this, get_set hx]
theorem take_iff {s : SlotM} : (dtake l s).2.1 = 0 ↔ (dget l s).1.kind ≠ 0 := by
 unfold dtake dget
 cases e : dcap? l s with
 | none => simp
 | some x =>
  dsimp only
  by_cases h3 : x.kind = 0
  ·
   simp [h3]
  ·
   simp [h3]
theorem take_fst {s : SlotM} : (dtake l s).1 = (dget l s).1 := by
 unfold dtake dget
 cases e : dcap? l s with
 | none => rfl
 | some x =>
  dsimp only
  split <;> rfl
theorem take_get {s : SlotM} (h0 : (dget l s).1.kind ≠ 0) (t : SlotM) : dget (dtake l s).2.2 t = if t = s then (CapM.zero, 0) else dget l t := by
 obtain ⟨S, hR⟩ := h
 obtain ⟨e, e2, hR2⟩ := rel_take hR s
 rw [← rel_get hR2, ← rel_get hR]
 have hx : S.cap? s = some (dget l s).1 := by
  rw [rel_cap hR]
  refine dget_cap ?_
  rw [← dget_le h0]
 have : (S.take s).2.2 = S.setCap s CapM.zero := by
  unfold StoreM.take; rw [hx]; dsimp only
  rw [if_neg h0]
 rw [this, get_set hx]
theorem take_no {s : SlotM} (h0 : (dtake l s).2.1 ≠ 0) : (dtake l s).2.2 = l := by
 unfold dtake at h0 ⊢
 cases e : dcap? l s with
 | none => rfl
 | some x =>
  rw [e] at h0
  dsimp only at h0 ⊢
  split
  ·
   rfl
  ·
   rename_i hk; rw [if_neg hk] at h0; exact absurd rfl h0
theorem mem_dfull {s : SlotM} : s ∈ dfull l ↔ (dget l s).1.kind ≠ 0 := by
 obtain ⟨S, hR⟩ := h
 rw [← rel_full hR, ← rel_get hR]
 constructor
 ·
  intro hm
  obtain ⟨n, c, _, _, hk, _, _, hg⟩ := full_cap hR.tidy hm
  rw [hg]; exact hk
 ·
  intro hk
  unfold StoreM.get at hk
  cases e : S.cap? s with
  | none => rw [e] at hk; exact absurd rfl hk
  | some c =>
   rw [e] at hk
   obtain ⟨n, hn, hh, hc, _⟩ := StoreM.cap_some e
   have hw := hR.wf _ _ hn
   have hmem : ∀ k j : Nat, j < k → s ∈ full1 S j → s ∈ fullUpto S k := by
    intro k
    induction k with
    | zero => intro j hj; exact absurd hj (Nat.not_lt_zero j)
    | succ k ih =>
     intro j hj hm
     unfold fullUpto
     rw [List.mem_append]
     by_cases e2 : j = k
     ·
      subst e2; exact .inr hm
     ·
      exact .inl (ih j (by omega) hm)
   refine hmem 64 s.1.toNat (by omega) ?_
   unfold full1
   have e1 : ((s.1.toNat : Nat) : Int) = s.1 := by omega
   rw [e1, hn]
   dsimp only
   have hlt := hw.1.lt hh
   have hin : ∀ k, s.2.toNat < k → s ∈ nodeFull s.1.toNat n.caps k := by
    intro k
    induction k with
    | zero => intro hj; exact absurd hj (Nat.not_lt_zero _)
    | succ k ih =>
     intro hj
     unfold nodeFull
     rw [List.mem_append]
     by_cases e2 : s.2.toNat = k
     ·
      right
      subst e2
      rw [hc, Option.getD_some, if_pos hk, List.mem_singleton]
      unfold NodeM.has at hh
      refine Prod.ext ?_ ?_ <;> dsimp only <;> omega
     ·
      exact .inl (ih (by omega))
   exact hin 16 hlt
theorem dfull_sorted : (dfull l).Pairwise lexlt := by
 obtain ⟨S, hR⟩ := h
 rw [← rel_full hR]; exact fullUpto_sorted S 64
theorem dfull_nodup : (dfull l).Nodup := by
 refine (dfull_sorted h).imp ?_
 intro a b hab e
 subst e
 unfold lexlt at hab; omega
end
structure POk (p : PS) : Prop where
  rel : HasS p.l
  nd : Fo.Nd p.F
  on : ∀ s, s ∈ p.F.all ↔ (dget p.l s).1.kind ≠ 0
theorem src_ok {p : PS} {s : SlotM} (h : (mSource p s).2 = 0) : mSource p s = dget p.l s ∧ (dget p.l s).1.kind ≠ 0 ∧ (dget p.l s).2 = 0 := by
 unfold mSource at h ⊢
 split at h
 ·
  cases h
 ·
  rename_i hn
  rw [if_neg hn]
  exact ⟨rfl, fun e => hn ⟨h, e⟩, h⟩
theorem plc_ok {p : PS} {s : SlotM} (h : mPlace p s = 0) : (dget p.l s).1.kind = 0 ∧ (dget p.l s).2 = 0 := by
 unfold mPlace at h
 split at h
 ·
  cases h
 ·
  rename_i hn
  exact ⟨Decidable.byContradiction fun e => hn ⟨h, e⟩, h⟩
theorem both_ok {p : PS} {s d : SlotM} (h : (mBoth p s d).2 = 0) : (mBoth p s d).1 = (dget p.l s).1 ∧ (dget p.l s).1.kind ≠ 0 ∧ (dget p.l s).2 = 0 ∧ (dget p.l d).1.kind = 0 ∧ (dget p.l d).2 = 0 := by
 unfold mBoth at h ⊢
 dsimp only at h ⊢
 split at h
 ·
  rename_i h1
  obtain ⟨e1, e2, e3⟩ := src_ok h1
  obtain ⟨e4, e5⟩ := plc_ok h
  exact ⟨by rw [e1], e2, e3, e4, e5⟩
 ·
  rename_i h1; exact absurd h h1
theorem src_iff {p : PS} {s : SlotM} : (mSource p s).2 = 0 ↔ (dget p.l s).1.kind ≠ 0 := by
 refine ⟨fun h => (src_ok h).2.1, fun h => ?_⟩
 unfold mSource
 rw [if_neg (fun e => h e.2)]; exact dget_le h
structure Went (p p' : PS) (σ : SlotM → SlotM) : Prop where
  inj : ∀ a b, a ∈ p.F.all → b ∈ p.F.all → σ a = σ b → a = b
  F : p'.F = p.F.map σ
  val : ∀ z, z ∈ p.F.all → (dget p'.l (σ z)).1 = (dget p.l z).1
  only : ∀ s, (dget p'.l s).1.kind ≠ 0 → ∃ z, z ∈ p.F.all ∧ s = σ z
theorem Went.ok {p p' : PS} {σ : SlotM → SlotM} (h : Went p p' σ) (hp : POk p) (hr : HasS p'.l) : POk p' where
  rel := hr
  nd := by rw [h.F]; exact Fo.nd_map hp.nd h.inj
  on := fun s => by
    rw [h.F, Fo.all_map, List.mem_map]
    constructor
    · rintro ⟨z, hz, rfl⟩
      rw [h.val z hz]; exact (hp.on z).1 hz
    · intro hk
      obtain ⟨z, hz, e⟩ := h.only s hk
      exact ⟨z, hz, e.symm⟩
theorem carry_get {l : List DN} (h : HasS l) {s d : SlotM} {c : CapM} (hs : (dget l s).1.kind ≠ 0) (hd : (dget l d).1.kind = 0) (hd2 : (dget l d).2 = 0) (hc : checkM c = 0) (hk : c.kind ≠ 0) (t : SlotM) :
    dget (dput (dtake l s).2.2 d c).2 t = if t = d then (c, 0) else if t = s then (CapM.zero, 0) else dget l t := by
  have hsd : d ≠ s := fun e => hs (e ▸ hd)
  have hg := take_get h hs
  have h0 : (dput (dtake l s).2.2 d c).1 = 0 := (put_iff (h.take s)).2 ⟨by rw [hg, if_neg hsd]; exact hd2, by rw [hg, if_neg hsd]; exact hd, hc, hk⟩
  rw [put_get (h.take s) h0, hg]
theorem mv_all {F : FoS} {s d : SlotM} (hs : s ∈ F.all) (hd : d ∉ F.all) : (ftMove F s d).2 = F.map (ren s d) := by unfold ftMove; rw [if_pos hs, if_neg hd]
section
variable {p : PS} (hp : POk p)
include hp
theorem POk.out {s : SlotM} (h : (dget p.l s).1.kind = 0) : s ∉ p.F.all := fun e => (hp.on s).1 e h
theorem went_carry {s d : SlotM} (hs : (dget p.l s).1.kind ≠ 0) (hd : (dget p.l d).1.kind = 0) (hd2 : (dget p.l d).2 = 0) : Went p (mCarry p s d (dget p.l s).1) (ren s d) := by
 have hsa := (hp.on s).2 hs
 have hda := hp.out hd
 have hg := carry_get hp.rel hs hd hd2 (hp.rel.check hs) hs
 refine ⟨ren_inj hda, mv_all hsa hda, fun z hz => ?_, fun t ht => ?_⟩
 ·
  show (dget (dput (dtake p.l s).2.2 d (dget p.l s).1).2 (ren s d z)).1 = _
  rw [hg]
  unfold ren
  by_cases e : z = s
  ·
   rw [if_pos e, if_pos rfl, e]
  ·
   rw [if_neg e, if_neg (fun e2 : z = d => hda (e2 ▸ hz)), if_neg e]
 ·
  have ht' : (dget (dput (dtake p.l s).2.2 d (dget p.l s).1).2 t).1.kind ≠ 0 := ht
  rw [hg] at ht'
  by_cases e1 : t = d
  ·
   exact ⟨s, hsa, by unfold ren; rw [if_pos rfl, e1]⟩
  ·
   rw [if_neg e1] at ht'
   by_cases e2 : t = s
   ·
    rw [if_pos e2] at ht'; exact absurd rfl ht'
   ·
    rw [if_neg e2] at ht'
    exact ⟨t, (hp.on t).2 ht', by unfold ren; rw [if_neg e2]⟩
theorem mMove_ok {s d : SlotM} : (mMove p s d).2 = p ∨ Went p (mMove p s d).2 (ren s d) := by
 unfold mMove
 dsimp only
 split
 ·
  rename_i h
  obtain ⟨e1, e2, e3, e4, e5⟩ := both_ok h
  rw [e1]; exact .inr (went_carry hp e2 e4 e5)
 ·
  exact .inl rfl
end
theorem HasS.carry {l : List DN} (h : HasS l) (s d : SlotM) (c : CapM) : HasS (dput (dtake l s).2.2 d c).2 := (h.take s).put d c
theorem map_nd_ren {F : FoS} {s d : SlotM} {z : SlotM} (hd : d ∉ F.all) : z ∈ (F.map (ren s d)).all ↔ (z = d ∧ s ∈ F.all) ∨ (z ≠ s ∧ z ∈ F.all) := by
 rw [Fo.all_map, List.mem_map]
 unfold ren
 constructor
 ·
  rintro ⟨y, hy, rfl⟩
  by_cases e : y = s
  ·
   rw [if_pos e]; exact .inl ⟨rfl, e ▸ hy⟩
  ·
   rw [if_neg e]; exact .inr ⟨e, hy⟩
 ·
  rintro (⟨rfl, hs⟩ | ⟨h1, h2⟩)
  ·
   exact ⟨s, hs, if_pos rfl⟩
  ·
   exact ⟨z, h2, if_neg h1⟩
end Go.Proofs.Ytdodfnjmkpgdbaa
end
section
set_option linter.unusedVariables false
set_option linter.unusedSimpArgs false
set_option linter.unusedSectionVars false
namespace Go.Proofs.Ytdodfnjmkpgdbaa
open Go.SL
theorem hasS_nil : HasS [] := ⟨⟨0, 0, []⟩, rel_new rfl⟩
theorem HasS.add {l : List DN} (h : HasS l) (id r : Int) : HasS (dadd l id r).2 := by
 obtain ⟨S, hR⟩ := h
 unfold dadd
 dsimp only
 split
 ·
  rename_i h0; exact ⟨_, rel_add hR (by rw [rel_addErr hR]; exact h0) (insAt_place l) 0 0⟩
 ·
  exact ⟨S, hR⟩
theorem aadd_get {l : List DN} (h : HasS l) (id r : Int) (s : SlotM) : (dget (dadd l id r).2 s).1 = (dget l s).1 := by
 obtain ⟨S, hR⟩ := h
 unfold dadd
 dsimp only
 split
 ·
  rename_i h0
  have h0' : addErr S id r = 0 := by rw [rel_addErr hR]; exact h0
  have hR2 := rel_add hR h0' (insAt_place l) 0 0
  rw [← rel_get hR2, ← rel_get hR]
  have hno : nget id S.nodes = none := by
   unfold addErr at h0'
   split at h0'
   ·
    cases h0'
   ·
    cases e : nget id S.nodes with
    | none => rfl
    | some n => rw [e] at h0'; simp at h0'
  unfold StoreM.get
  rw [addNode_cap hno]
  by_cases e : s.1 = id
  ·
   rw [if_pos e]
   have : S.cap? s = none := by unfold StoreM.cap?; rw [e, hno]
   rw [this]
   split
   ·
    rfl
   ·
    rename_i x hx
    split at hx
    ·
     cases hx; rfl
    ·
     cases hx
  ·
   rw [if_neg e]
 ·
  rfl
section
variable {p : PS} (hp : POk p)
include hp
theorem POk.plant (s : SlotM) (c : CapM) : POk (mPlant p s c).2 := by
 unfold mPlant
 dsimp only
 by_cases h0 : (dput p.l s c).1 = 0
 ·
  rw [if_pos h0]
  obtain ⟨_, h2, _, h4⟩ := (put_iff hp.rel).1 h0
  have hs := hp.out h2
  have hg := put_get hp.rel h0
  have hF : (ftRoot p.F s).2 = p.F.app (.one s) := by unfold ftRoot; rw [if_neg hs]
  refine ⟨hp.rel.put s c, ftRoot_nd hp.nd, fun t => ?_⟩
  rw [hF]
  show t ∈ (p.F.app (.one s)).all ↔ (dget (dput p.l s c).2 t).1.kind ≠ 0
  rw [hg, Fo.all_app, List.mem_append]
  by_cases e : t = s
  ·
   subst e; rw [if_pos rfl]; simp [Fo.one, Fo.all, h4]
  ·
   rw [if_neg e, ← hp.on t]; simp [Fo.one, Fo.all, e]
 ·
  rw [if_neg h0, dput_no h0]; exact hp
theorem child_F {o s : SlotM} (ho : (dget p.l o).1.kind ≠ 0) (hs : (dget p.l s).1.kind = 0) : (ftChild p.F o s).2 = p.F.addc o s := by
 unfold ftChild; rw [if_pos ((hp.on o).2 ho), if_neg (hp.out hs)]
theorem POk.child (o s : SlotM) (c : CapM) : POk (mChild p o s c).2 := by
 unfold mChild
 split
 ·
  exact hp
 ·
  rename_i hb
  obtain ⟨e1, e2, e3, e4, e5⟩ := both_ok (Decidable.not_not.1 hb)
  dsimp only
  by_cases h0 : (dput p.l s c).1 = 0
  ·
   rw [if_pos h0]
   obtain ⟨_, h2, _, h4⟩ := (put_iff hp.rel).1 h0
   have hg := put_get hp.rel h0
   refine ⟨hp.rel.put s c, ftChild_nd hp.nd, fun t => ?_⟩
   rw [child_F hp e2 e4]
   show t ∈ (p.F.addc o s).all ↔ (dget (dput p.l s c).2 t).1.kind ≠ 0
   rw [hg, Fo.all_addc]
   by_cases e : t = s
   ·
    subst e; rw [if_pos rfl]; simp [h4, (hp.on o).2 e2]
   ·
    rw [if_neg e, ← hp.on t]; simp [e]
  ·
   rw [if_neg h0, dput_no h0]; exact hp
theorem POk.mint (s d : SlotM) (r b g n : Int) : POk (mMint p s d r b g n).2 := by
 unfold mMint
 split
 ·
  exact hp
 ·
  split
  ·
   exact hp
  ·
   exact hp.child _ _ _
theorem POk.copy (s d : SlotM) (r : Int) : POk (mCopy p s d r).2 := hp.mint _ _ _ _ _ _
theorem POk.move (s d : SlotM) : POk (mMove p s d).2 := by
 rcases mMove_ok hp (s := s) (d := d) with h | h
 ·
  rw [h]; exact hp
 ·
  refine h.ok hp ?_
  unfold mMove
  dsimp only
  split
  ·
   exact hp.rel.carry _ _ _
  ·
   exact hp.rel
theorem take_F {s : SlotM} (h : (dget p.l s).1.kind ≠ 0) : (mTake p s).2.2 = ⟨(dtake p.l s).2.2, p.F.drop s⟩ := by
 unfold mTake
 rw [if_pos ((take_iff hp.rel).2 h)]
 unfold ftDrop
 rw [if_pos ((hp.on s).2 h)]
theorem take_noF {s : SlotM} (h : (dget p.l s).1.kind = 0) : (mTake p s).2.2 = p := by
 have h0 : ¬ (dtake p.l s).2.1 = 0 := fun e => (take_iff hp.rel).1 e h
 unfold mTake
 rw [if_neg h0, take_no hp.rel h0]
theorem POk.take (s : SlotM) : POk (mTake p s).2.2 := by
 by_cases h : (dget p.l s).1.kind = 0
 ·
  rw [take_noF hp h]; exact hp
 ·
  rw [take_F hp h]
  have hg := take_get hp.rel h
  refine ⟨hp.rel.take s, Fo.nd_drop hp.nd, fun t => ?_⟩
  show t ∈ (p.F.drop s).all ↔ (dget (dtake p.l s).2.2 t).1.kind ≠ 0
  rw [hg, Fo.all_drop hp.nd]
  by_cases e : t = s
  ·
   subst e; rw [if_pos rfl]; simp
  ·
   rw [if_neg e, ← hp.on t]; simp [e]
end
theorem lexlt_irrefl (a : SlotM) : ¬ lexlt a a := fun h => by unfold lexlt at h; omega
theorem lexlt_asymm {a b : SlotM} (h : lexlt a b) : ¬ lexlt b a := fun k => by unfold lexlt at h k; omega
theorem sorted_ext : ∀ {l m : List SlotM}, l.Pairwise lexlt → m.Pairwise lexlt → (∀ x, x ∈ l ↔ x ∈ m) → l = m
  | [], [], _, _, _ => rfl
  | [], b :: m, _, _, h => absurd ((h b).2 (List.mem_cons_self ..)) (by simp)
  | a :: l, [], _, _, h => absurd ((h a).1 (List.mem_cons_self ..)) (by simp)
  | a :: l, b :: m, hl, hm, h => by
    rw [List.pairwise_cons] at hl hm
    have e : a = b := by
      rcases List.mem_cons.1 ((h a).1 (List.mem_cons_self ..)) with e | ha
      · exact e
      · rcases List.mem_cons.1 ((h b).2 (List.mem_cons_self ..)) with e | hb
        · exact e.symm
        · exact absurd (hl.1 b hb) (lexlt_asymm (hm.1 a ha))
    subst e
    congr 1
    refine sorted_ext hl.2 hm.2 fun x => ?_
    have hx := h x
    simp only [List.mem_cons] at hx
    constructor
    · intro hxl
      rcases hx.1 (.inr hxl) with e | h2
      · exact absurd (e ▸ hl.1 x hxl) (lexlt_irrefl _)
      · exact h2
    · intro hxm
      rcases hx.2 (.inr hxm) with e | h2
      · exact absurd (e ▸ hm.1 x hxm) (lexlt_irrefl _)
      · exact h2
theorem dfull_take {l : List DN} (h : HasS l) {s : SlotM} (hk : (dget l s).1.kind ≠ 0) : dfull (dtake l s).2.2 = (dfull l).filter fun z => decide (z ≠ s) := by
 refine sorted_ext (dfull_sorted (h.take s)) ((dfull_sorted h).filter _) fun x => ?_
 rw [mem_dfull (h.take s), take_get h hk, List.mem_filter, mem_dfull h]
 by_cases e : x = s
 ·
  subst e; rw [if_pos rfl]; simp
 ·
  rw [if_neg e]; simp [e]
theorem filter_ne_len {l : List SlotM} (h : l.Nodup) {s : SlotM} (hs : s ∈ l) : (l.filter fun z => decide (z ≠ s)).length + 1 = l.length := by
 induction l with
 | nil => cases hs
 | cons a l ih =>
  rw [List.nodup_cons] at h
  by_cases e : a = s
  ·
   subst e
   have : l.filter (fun z => decide (z ≠ a)) = l := List.filter_eq_self.2 fun z hz => decide_eq_true fun e => h.1 (e ▸ hz)
   rw [List.filter_cons, if_neg (by simp), this, List.length_cons]
  ·
   rcases List.mem_cons.1 hs with h2 | h2
   ·
    exact absurd h2.symm e
   ·
    rw [List.filter_cons, if_pos (by simp [e]), List.length_cons, List.length_cons, ih h.2 h2]
theorem zero_rg : CapM.zero.Rg := ⟨by unfold i64R; decide, by unfold u64R; decide, by unfold u64R; decide⟩
structure WOk (p : PS) : Prop where
  ok : POk p
  rg : ∀ s, (dget p.l s).1.Rg
  weak : ∀ t x, x ∈ ftKin p.F t → weakM (dget p.l x).1 (dget p.l t).1
theorem kin_in {F : FoS} {t x : SlotM} (h : x ∈ ftKin F t) : t ∈ F.all ∧ x ∈ F.all := by
 refine ⟨Decidable.byContradiction fun e => ?_, Fo.sub_all F t x h⟩
 unfold ftKin at h
 rw [Fo.sub_no _ _ e] at h; cases h
theorem Went.wok {p p' : PS} {σ : SlotM → SlotM} (w : Went p p' σ) (h : WOk p) (hr : HasS p'.l) : WOk p' := by
 have hok := w.ok h.ok hr
 refine ⟨hok, fun s => ?_, fun t x hx => ?_⟩
 ·
  by_cases hk : (dget p'.l s).1.kind = 0
  ·
   rw [hr.zero hk]; exact zero_rg
  ·
   obtain ⟨z, hz, rfl⟩ := w.only s hk
   rw [w.val z hz]; exact h.rg z
 ·
  obtain ⟨ht, _⟩ := kin_in hx
  rw [w.F, Fo.all_map, List.mem_map] at ht
  obtain ⟨z, hz, rfl⟩ := ht
  have hi : Fo.Inj1 σ z p.F := fun y hy e => w.inj y z hy hz e
  unfold ftKin at hx
  rw [w.F, Fo.sub_map hi, Fo.all_map, List.mem_map] at hx
  obtain ⟨y, hy, rfl⟩ := hx
  rw [w.val z hz, w.val y (Fo.sub_all _ _ _ hy)]
  exact h.weak z y hy
theorem Fo.sub_addc_mem {α : Type} [DecidableEq α] {o s t x : α} : ∀ {f : Fo α}, Fo.Nd f → s ∉ f.all → x ∈ (Fo.sub t (f.addc o s)).all → x ∈ (Fo.sub t f).all ∨ (x = s ∧ (t = o ∨ o ∈ (Fo.sub t f).all))
  | .nil, _, _, h => .inl h
  | .cons i c r, hn, hs, h => by
    obtain ⟨n1, n2, n3, n4, n5⟩ := Fo.nd_cons hn
    simp only [Fo.all, List.mem_cons, List.mem_append, not_or] at hs
    have hsc : Fo.sub s c = .nil := Fo.sub_no _ _ hs.2.1
    have hsr : Fo.sub s r = .nil := Fo.sub_no _ _ hs.2.2
    simp only [Fo.addc] at h
    by_cases e : i = o
    · rw [if_pos e] at h
      subst e
      simp only [Fo.sub] at h ⊢
      by_cases e1 : i = t
      · rw [if_pos e1] at h ⊢
        rw [Fo.all_app, List.mem_append] at h
        rcases h with h | h
        · exact .inl h
        · simp [Fo.all] at h; exact .inr ⟨h, .inl e1.symm⟩
      · rw [if_neg e1] at h ⊢
        by_cases e2 : t ∈ c.all
        · rw [if_pos (by rw [Fo.all_app]; exact List.mem_append_left _ e2), Fo.sub_app, if_pos e2] at h
          rw [if_pos e2]; exact .inl h
        · rw [if_neg e2]
          by_cases e3 : t = s
          · subst e3
            rw [if_pos (by rw [Fo.all_app]; simp [Fo.all]), Fo.sub_app, if_neg e2] at h
            simp [Fo.sub, Fo.all] at h
          · rw [if_neg (by rw [Fo.all_app]; simp [Fo.all, e2, e3])] at h
            exact .inl h
    · rw [if_neg e] at h
      simp only [Fo.sub] at h ⊢
      by_cases e1 : i = t
      · rw [if_pos e1] at h ⊢
        rw [Fo.all_addc] at h
        rcases h with h | ⟨h, h2⟩
        · exact .inl h
        · exact .inr ⟨h, .inr h2⟩
      · rw [if_neg e1] at h ⊢
        by_cases e2 : t ∈ c.all
        · rw [if_pos (Fo.all_addc.2 (.inl e2))] at h
          rw [if_pos e2]
          exact Fo.sub_addc_mem n3 hs.2.1 h
        · rw [if_neg e2]
          by_cases e3 : t ∈ (c.addc o s).all
          · rw [if_pos e3] at h
            rcases Fo.all_addc.1 e3 with e4 | ⟨e4, e5⟩
            · exact absurd e4 e2
            · rcases Fo.sub_addc_mem n3 hs.2.1 h with h | ⟨_, h | h⟩
              · rw [e4, hsc] at h; cases h
              · exact absurd (h.symm ▸ e5) e2
              · rw [e4, hsc] at h; cases h
          · rw [if_neg e3] at h
            exact Fo.sub_addc_mem n4 hs.2.2 h
section
variable {p : PS} (h : WOk p)
include h
theorem WOk.plant (s : SlotM) {c : CapM} (hc : c.Rg) : WOk (mPlant p s c).2 := by
 have hok := h.ok.plant s c
 by_cases h0 : (dput p.l s c).1 = 0
 ·
  have hs : s ∉ p.F.all := h.ok.out ((put_iff h.ok.rel).1 h0).2.1
  have hg := put_get h.ok.rel h0
  have he : (mPlant p s c).2 = ⟨(dput p.l s c).2, p.F.app (.one s)⟩ := by
   unfold mPlant ftRoot; rw [if_pos h0, if_neg hs]
  rw [he] at hok ⊢
  refine ⟨hok, fun t => ?_, fun t x hx => ?_⟩
  ·
   show (dget (dput p.l s c).2 t).1.Rg
   rw [hg]; split
   ·
    exact hc
   ·
    exact h.rg t
  ·
   have hx2 : x ∈ ftKin p.F t := by
    have hx' : x ∈ (Fo.sub t (p.F.app (.one s))).all := hx
    rw [Fo.sub_app] at hx'
    split at hx'
    ·
     exact hx'
    ·
     unfold Fo.one Fo.sub at hx'
     split at hx'
     ·
      cases hx'
     ·
      simp [Fo.sub, Fo.all] at hx'
   obtain ⟨ht, hxa⟩ := kin_in hx2
   show weakM (dget (dput p.l s c).2 x).1 (dget (dput p.l s c).2 t).1
   rw [hg, hg, if_neg (fun e : x = s => hs (e ▸ hxa)), if_neg (fun e : t = s => hs (e ▸ ht))]
   exact h.weak t x hx2
 ·
  have : (mPlant p s c).2 = p := mPlant_no h0
  rw [this]; exact h
theorem WOk.child (o s : SlotM) {c : CapM} (hc : c.Rg) (hw : (dget p.l o).1.kind ≠ 0 → checkM c = 0 → weakM c (dget p.l o).1) : WOk (mChild p o s c).2 := by
 have hok := h.ok.child o s c
 by_cases hz : (mChild p o s c).1 = 0
 ·
  unfold mChild at hz hok ⊢
  split at hz
  ·
   rename_i hb; exact absurd hz hb
  ·
   rename_i hb
   rw [if_neg hb] at hok ⊢
   obtain ⟨e1, e2, e3, e4, e5⟩ := both_ok (Decidable.not_not.1 hb)
   have h0 : (dput p.l s c).1 = 0 := hz
   have hs : s ∉ p.F.all := h.ok.out e4
   have hos : o ≠ s := fun e => e2 (e ▸ e4)
   have hg := put_get h.ok.rel h0
   have hwc := hw e2 ((put_iff h.ok.rel).1 h0).2.2.1
   dsimp only at hok ⊢
   rw [if_pos h0, child_F h.ok e2 e4] at hok ⊢
   refine ⟨hok, fun t => ?_, fun t x hx => ?_⟩
   ·
    show (dget (dput p.l s c).2 t).1.Rg
    rw [hg]; split
    ·
     exact hc
    ·
     exact h.rg t
   ·
    show weakM (dget (dput p.l s c).2 x).1 (dget (dput p.l s c).2 t).1
    have key : ∀ {t x : SlotM}, x ∈ ftKin p.F t → weakM (dget (dput p.l s c).2 x).1 (dget (dput p.l s c).2 t).1 := fun {t x} hx => by
     obtain ⟨ht, hxa⟩ := kin_in hx
     rw [hg, hg, if_neg (fun e : x = s => hs (e ▸ hxa)), if_neg (fun e : t = s => hs (e ▸ ht))]
     exact h.weak t x hx
    have hso : weakM (dget (dput p.l s c).2 s).1 (dget (dput p.l s c).2 o).1 := by
     rw [hg, hg, if_pos rfl, if_neg hos]; exact hwc
    rcases Fo.sub_addc_mem h.ok.nd hs hx with hx | ⟨rfl, rfl | hx⟩
    ·
     exact key hx
    ·
     exact hso
    ·
     exact hso.trans (key hx)
 ·
  rw [mChild_no hz]; exact h
theorem WOk.move (s d : SlotM) : WOk (mMove p s d).2 := by
 rcases mMove_ok h.ok (s := s) (d := d) with e | e
 ·
  rw [e]; exact h
 ·
  exact e.wok h (h.ok.move s d).rel
theorem WOk.take (s : SlotM) : WOk (mTake p s).2.2 := by
 by_cases hk : (dget p.l s).1.kind = 0
 ·
  rw [take_noF h.ok hk]; exact h
 ·
  have hok := h.ok.take s
  have hg := take_get h.ok.rel hk
  rw [take_F h.ok hk] at hok ⊢
  refine ⟨hok, fun t => ?_, fun t x hx => ?_⟩
  ·
   show (dget (dtake p.l s).2.2 t).1.Rg
   rw [hg]; split
   ·
    exact zero_rg
   ·
    exact h.rg t
  ·
   show weakM (dget (dtake p.l s).2.2 x).1 (dget (dtake p.l s).2.2 t).1
   obtain ⟨ht, hxa⟩ := kin_in hx
   have ht2 := (Fo.all_drop h.ok.nd).1 ht
   have hx2 := (Fo.all_drop h.ok.nd).1 hxa
   have hx3 : x ∈ ftKin p.F t := by
    have hx' : x ∈ (Fo.sub t (p.F.drop s)).all := hx
    rw [Fo.kin_drop h.ok.nd ht2.2] at hx'
    exact (List.mem_filter.1 hx').1
   rw [hg, hg, if_neg hx2.2, if_neg ht2.2]
   exact h.weak t x hx3
end
theorem and_mask4 : d8 (fun a b _ => decide (bitsI .and .i64 (a : Int) (b : Int) = (mask4 a b 3 : Nat))) = true := by kernel_rfl
theorem maskM_eq {a b : Int} (ha : 0 ≤ a ∧ a ≤ 7) (hb : 0 ≤ b ∧ b ≤ 7) (ha2 : rightsOk a = true) (hb2 : rightsOk b = true) : maskM a b = (mask4 a.toNat b.toNat 3 : Nat) := by
 unfold maskM
 rw [if_pos ⟨ha2, hb2⟩]
 have := d8_at and_mask4 (a := a.toNat) (b := b.toNat) (c := 0) (by omega) (by omega) (by omega)
 have e1 : ((a.toNat : Nat) : Int) = a := by omega
 have e2 : ((b.toNat : Nat) : Int) = b := by omega
 simp only [decide_eq_true_iff, e1, e2] at this
 exact this
theorem check_rights {c : CapM} (h : checkM c = 0) : rightsOk c.rights = true := by
 unfold checkM at h
 split at h
 ·
  cases h
 ·
  split at h
  ·
   cases h
  ·
   rename_i hn
   cases e : rightsOk c.rights
   ·
    exact absurd (by simp [e]) hn
   ·
    rfl
theorem mask_rg {a b : Int} (ha : 0 ≤ a ∧ a ≤ 7) (hb : 0 ≤ b ∧ b ≤ 7) (ha2 : rightsOk a = true) (hb2 : rightsOk b = true) : i64R (maskM a b) ∧ withinM (maskM a b) a := by
 rw [maskM_eq ha hb ha2 hb2]
 have := d8_at mask_in (a := a.toNat) (b := b.toNat) (c := 0) (by omega) (by omega) (by omega)
 simp only [Bool.and_eq_true, decide_eq_true_iff] at this
 refine ⟨by unfold i64R; omega, by omega, ha, ?_⟩
 rw [Int.toNat_natCast, this.1]
theorem derive_cases {c : CapM} {r bd g n : Int} (h : (derive c r bd g n).2 = 0) : checkM c = 0 ∧ ((c.kind = 6 ∧ rightsOk r = true ∧ derive c r bd g n = ({ c with rights := maskM c.rights r }, 0)) ∨ (c.kind = 2 ∧ fitsM g n = true ∧ derive c r bd g n = ({ c with guard := g, bits := n }, 0)) ∨
    ((c.kind = 4 ∨ c.kind = 5) ∧ rightsOk r = true ∧ ¬ (bd ≠ 0 ∧ c.badge ≠ 0) ∧ derive c r bd g n = ({ c with rights := maskM c.rights r, badge := if bd ≠ 0 then bd else c.badge }, 0)) ∨ derive c r bd g n = (c, 0)) := by
  have hck : checkM c = 0 := by
    unfold derive at h
    split at h
    · rename_i h1; exact absurd h h1
    · rename_i h1; exact Decidable.not_not.1 h1
  refine ⟨hck, ?_⟩
  unfold derive at h ⊢
  rw [if_neg (fun e => e hck)] at h ⊢
  by_cases h2 : c.kind = 0
  · rw [if_pos h2] at h; cases h
  rw [if_neg h2] at h ⊢
  by_cases h3 : c.kind = 1 ∨ c.kind = 10 ∨ c.kind = 11
  · rw [if_pos h3] at h; cases h
  rw [if_neg h3] at h ⊢
  by_cases h4 : rightsOk r = false
  · rw [if_pos h4] at h; cases h
  have h4' : rightsOk r = true := by cases e : rightsOk r; exact absurd e h4; rfl
  rw [if_neg h4] at h ⊢
  by_cases h5 : c.kind = 6
  · rw [if_pos h5]; exact .inl ⟨h5, h4', rfl⟩
  rw [if_neg h5] at h ⊢
  by_cases h6 : c.kind = 2
  · rw [if_pos h6] at h ⊢
    by_cases h7 : fitsM g n = false
    · rw [if_pos h7] at h; cases h
    · rw [if_neg h7]
      have h7' : fitsM g n = true := by cases e : fitsM g n; exact absurd e h7; rfl
      exact .inr (.inl ⟨h6, h7', rfl⟩)
  rw [if_neg h6] at h ⊢
  by_cases h8 : c.kind = 4 ∨ c.kind = 5
  · rw [if_pos h8] at h ⊢
    by_cases h9 : bd ≠ 0 ∧ c.badge ≠ 0
    · rw [if_pos h9] at h; cases h
    rw [if_neg h9] at h ⊢
    by_cases h10 : (if bd ≠ 0 then bd else c.badge).fdiv (2 ^ 28) ≠ 0
    · rw [if_pos h10] at h; cases h
    rw [if_neg h10]
    exact .inr (.inr (.inl ⟨h8, h4', h9, rfl⟩))
  · rw [if_neg h8]; exact .inr (.inr (.inr rfl))
theorem derive_rg {c : CapM} {r bd g n : Int} (hc : c.Rg) (hr : i64R r) (hb : u64R bd) (hg : u64R g) (h : (derive c r bd g n).2 = 0) : (derive c r bd g n).1.Rg := by
 obtain ⟨hck, h | h | h | h⟩ := derive_cases h
 ·
  have hcr := check_rights hck
  rw [h.2.2]
  exact ⟨(mask_rg ((rights_iff hc.rights).1 hcr) ((rights_iff hr).1 h.2.1) hcr h.2.1).1, hc.badge, hc.guard⟩
 ·
  rw [h.2.2]; exact ⟨hc.rights, hc.badge, hg⟩
 ·
  have hcr := check_rights hck
  rw [h.2.2.2]
  refine ⟨(mask_rg ((rights_iff hc.rights).1 hcr) ((rights_iff hr).1 h.2.1) hcr h.2.1).1, ?_, hc.guard⟩
  dsimp only
  split
  ·
   exact hb
  ·
   exact hc.badge
 ·
  rw [h]; exact hc
theorem derive_weak {c : CapM} {r bd g n : Int} (hc : c.Rg) (hr : i64R r) (h : (derive c r bd g n).2 = 0) (hk : checkM (derive c r bd g n).1 = 0) : weakM (derive c r bd g n).1 c := by
 obtain ⟨hck, h2⟩ := derive_cases h
 have hcr := check_rights hck
 have hc07 := (rights_iff hc.rights).1 hcr
 have h0 := withinM.self hc07
 refine ⟨hk, hck, ?_⟩
 rcases h2 with h | h | h | h
 ·
  have hm := mask_rg hc07 ((rights_iff hr).1 h.2.1) hcr h.2.1
  rw [h.2.2]; exact ⟨rfl, rfl, hm.2, .inr rfl⟩
 ·
  rw [h.2.2]; exact ⟨rfl, rfl, h0, .inr rfl⟩
 ·
  have hm := mask_rg hc07 ((rights_iff hr).1 h.2.1) hcr h.2.1
  rw [h.2.2.2]
  refine ⟨rfl, rfl, hm.2, ?_⟩
  dsimp only
  by_cases hb : bd = 0
  ·
   right; rw [if_neg (by simp [hb])]
  ·
   left; exact Decidable.byContradiction fun e => h.2.2.1 ⟨hb, e⟩
 ·
  rw [h]; exact ⟨rfl, rfl, h0, .inr rfl⟩
theorem WOk.mint {p : PS} (h : WOk p) (s d : SlotM) {r bd g n : Int} (hr : i64R r) (hb : u64R bd) (hg : u64R g) : WOk (mMint p s d r bd g n).2 := by
 unfold mMint
 split
 ·
  exact h
 ·
  rename_i hbo
  split
  ·
   exact h
  ·
   rename_i hd
   obtain ⟨e1, e2, _⟩ := both_ok (Decidable.not_not.1 hbo)
   have hd0 := Decidable.not_not.1 hd
   rw [e1] at hd0 ⊢
   exact h.child s d (derive_rg (h.rg s) hr hb hg hd0) fun _ hck => derive_weak (h.rg s) hr hd0 hck
theorem WOk.copy {p : PS} (h : WOk p) (s d : SlotM) {r : Int} (hr : i64R r) : WOk (mCopy p s d r).2 := h.mint s d hr (by unfold u64R; decide) (h.rg s).guard
end Go.Proofs.Ytdodfnjmkpgdbaa
end
section
set_option linter.unusedVariables false
set_option linter.unusedSimpArgs false
set_option linter.unusedSectionVars false
namespace Go.Proofs.Ytdodfnjmkpgdbaa
open Go.SL
theorem full_take_len {p : PS} (hp : POk p) {s : SlotM} (hs : s ∈ dfull p.l) : (dfull (mTake p s).2.2.l).length + 1 = (dfull p.l).length := by
 have hk := (mem_dfull hp.rel).1 hs
 show (dfull (dtake p.l s).2.2).length + 1 = _
 rw [dfull_take hp.rel hk]
 exact filter_ne_len (dfull_nodup hp.rel) hs
end Go.Proofs.Ytdodfnjmkpgdbaa
end
section
set_option linter.unusedVariables false
set_option linter.unusedSimpArgs false
set_option linter.unusedSectionVars false
namespace Go.Proofs.Ytdodfnjmkpgdbaa
open Go.SL
theorem HasS.drop {l : List DN} (h : HasS l) (id : Int) : HasS (ddrop l id).2 := by
 obtain ⟨S, hR⟩ := h
 unfold ddrop
 cases e : dfind l id with
 | none => exact ⟨S, hR⟩
 | some d =>
  dsimp only
  split
  ·
   exact ⟨_, rel_del hR e⟩
  ·
   exact ⟨S, hR⟩
theorem drop_get {l : List DN} (h : HasS l) (id : Int) (s : SlotM) : (dget (ddrop l id).2 s).1 = (dget l s).1 := by
 obtain ⟨S, hR⟩ := h
 unfold ddrop
 cases e : dfind l id with
 | none => rfl
 | some d =>
  dsimp only
  split
  ·
   rename_i ha
   by_cases hs : s.1 = id
   ·
    have e1 : (dget l s).1.kind = 0 := by
     unfold dget
     cases e2 : dcap? l s with
     | none => rfl
     | some x =>
      obtain ⟨d', hd', _, hx⟩ := dcap_some e2
      rw [hs, e] at hd'; cases hd'
      exact of_decide_eq_true (List.all_eq_true.1 ha x (List.mem_of_getElem? hx))
    rw [HasS.zero ⟨S, hR⟩ e1]
    have e3 : dfind (ddel l id) s.1 = none := by
     have := dfind_del s.1 hR.srt e
     rw [if_pos hs] at this; exact this
    unfold dget dcap?
    rw [e3]
   ·
    have e3 : dfind (ddel l id) s.1 = dfind l s.1 := by
     have := dfind_del s.1 hR.srt e
     rw [if_neg hs] at this; exact this
    unfold dget dcap?
    rw [e3]
  ·
   rfl
theorem POk.same {p : PS} (hp : POk p) {l : List DN} (hl : HasS l) (hg : ∀ s, (dget l s).1 = (dget p.l s).1) : POk ⟨l, p.F⟩ := ⟨hl, hp.nd, fun s => by rw [hg]; exact hp.on s⟩
theorem POk.node {p : PS} (hp : POk p) (id r : Int) : POk (mNode p id r).2 := hp.same (hp.rel.add id r) (aadd_get hp.rel id r)
theorem POk.clear {p : PS} (hp : POk p) (id : Int) : POk (mClear p id).2 := hp.same (hp.rel.drop id) (drop_get hp.rel id)
theorem WOk.same {p : PS} (hp : WOk p) {l : List DN} (hl : HasS l) (hg : ∀ s, (dget l s).1 = (dget p.l s).1) : WOk ⟨l, p.F⟩ := ⟨hp.ok.same hl hg, fun s => by rw [hg]; exact hp.rg s, fun t x hx => by rw [hg, hg]; exact hp.weak t x hx⟩
theorem WOk.clear {p : PS} (hp : WOk p) (id : Int) : WOk (mClear p id).2 := hp.same (hp.ok.rel.drop id) (drop_get hp.ok.rel id)
theorem WOk.node {p : PS} (hp : WOk p) (id r : Int) : WOk (mNode p id r).2 := hp.same (hp.ok.rel.add id r) (aadd_get hp.ok.rel id r)
theorem POk.carry {p : PS} (hp : POk p) {s d : SlotM} {c : CapM} (hs : (dget p.l s).1.kind ≠ 0) (hd : (dget p.l d).1.kind = 0) (hd2 : (dget p.l d).2 = 0) (hc : checkM c = 0) (hk : c.kind ≠ 0) : POk (mCarry p s d c) := by
 have hg := carry_get hp.rel hs hd hd2 hc hk
 have hF := mv_all ((hp.on s).2 hs) (hp.out hd)
 refine ⟨hp.rel.carry s d c, ?_, fun t => ?_⟩
 ·
  show Fo.Nd (ftMove p.F s d).2
  exact ftMove_nd hp.nd
 ·
  show t ∈ (ftMove p.F s d).2.all ↔ (dget (dput (dtake p.l s).2.2 d c).2 t).1.kind ≠ 0
  rw [hF, map_nd_ren (hp.out hd), hg]
  have hds : d ≠ s := fun e => hs (e ▸ hd)
  by_cases e1 : t = d
  ·
   subst e1; rw [if_pos rfl]; simp [hk, (hp.on s).2 hs]
  ·
   rw [if_neg e1]
   by_cases e2 : t = s
   ·
    subst e2; rw [if_pos rfl]; simp [e1]
   ·
    rw [if_neg e2, ← hp.on t]; simp [e1, e2]
end Go.Proofs.Ytdodfnjmkpgdbaa
end
section
set_option linter.unusedVariables false
set_option linter.unusedSimpArgs false
set_option linter.unusedSectionVars false
namespace Go.Proofs.Ytdodfnjmkpgdbaa
open Go.SL
structure TS where
  p : PS
  told : List CapM
  n : Nat
def fin (l : List DN) (s : SlotM) : Prop := (dget l s).1.kind ≠ 0 ∧ dcount l (dget l s).1.kind (dget l s).1.object = 1
instance {l : List DN} {s : SlotM} : Decidable (fin l s) := by unfold fin; infer_instance
def firstIn (l : List DN) (way : List SlotM) (node : Int) : Option SlotM :=
  if dradix l node = 0 then none else ((List.range (2 ^ (dradix l node).toNat)).map fun (i : Nat) => ((node, (i : Int)) : SlotM)).find? fun s => decide (s ∉ way ∧ (dget l s).1.kind ≠ 0)
def innerM (l : List DN) (way : List SlotM) (s : SlotM) : Option SlotM :=
  if (dget l s).1.kind = 2 ∧ fin l s then firstIn l way (dget l s).1.object else none
def stepT (t : TS) (s : SlotM) : TS :=
  ⟨if fin t.p.l s ∧ (dget t.p.l s).1.kind = 2 then (mClear (mTake t.p s).2.2 (dget t.p.l s).1.object).2 else (mTake t.p s).2.2,
   if fin t.p.l s then t.told ++ [(dget t.p.l s).1] else t.told, t.n - 1⟩
inductive Away : TS → List SlotM → SlotM → Bool → TS → Prop
  | spent {t : TS} {way : List SlotM} {s : SlotM} : innerM t.p.l way s = none → t.n = 0 → Away t way s false t
  | step {t : TS} {way : List SlotM} {s : SlotM} : innerM t.p.l way s = none → t.n ≠ 0 → Away t way s true (stepT t s)
  | fall {t t' : TS} {way : List SlotM} {s x : SlotM} : innerM t.p.l way s = some x → Away t (way ++ [x]) x false t' → Away t way s false t'
  | next {t t1 t' : TS} {way : List SlotM} {s x : SlotM} {b : Bool} : innerM t.p.l way s = some x → Away t (way ++ [x]) x true t1 → Away t1 way s b t' → Away t way s b t'
theorem Away.le {t t' : TS} {way : List SlotM} {s : SlotM} {b : Bool} (h : Away t way s b t') : t'.n ≤ t.n ∧ (b = true → t'.n < t.n) := by
 induction h with
 | spent _ _ => exact ⟨Nat.le_refl _, fun e => by cases e⟩
 | step _ h => refine ⟨?_, fun _ => ?_⟩ <;> (unfold stepT; dsimp only; omega)
 | fall _ _ ih => exact ⟨ih.1, fun e => by cases e⟩
 | next _ _ _ ih1 ih2 => have := ih1.2 rfl; exact ⟨by omega, fun e => by have := ih2.2 e; omega⟩
theorem stepT_ok {t : TS} (h : POk t.p) (s : SlotM) : POk (stepT t s).p := by
 unfold stepT; dsimp only
 split
 ·
  exact (h.take s).clear _
 ·
  exact h.take s
theorem Away.ok {t t' : TS} {way : List SlotM} {s : SlotM} {b : Bool} (h : Away t way s b t') : POk t.p → POk t'.p := by
 induction h with
 | spent _ _ => exact id
 | step _ _ => exact fun h => stepT_ok h _
 | fall _ _ ih => exact ih
 | next _ _ _ ih1 ih2 => exact fun h => ih2 (ih1 h)
theorem firstIn_some {l : List DN} {way : List SlotM} {node : Int} {x : SlotM} (h : firstIn l way node = some x) : x ∉ way ∧ (dget l x).1.kind ≠ 0 ∧ x.1 = node := by
 unfold firstIn at h
 split at h
 ·
  cases h
 ·
  have h1 := List.find?_some h
  have h2 := List.mem_of_find?_eq_some h
  obtain ⟨i, _, rfl⟩ := List.mem_map.1 h2
  have h3 := of_decide_eq_true h1
  exact ⟨h3.1, h3.2, rfl⟩
theorem innerM_some {l : List DN} {way : List SlotM} {s x : SlotM} (h : innerM l way s = some x) : ((dget l s).1.kind = 2 ∧ fin l s) ∧ x ∉ way ∧ (dget l x).1.kind ≠ 0 ∧ x.1 = (dget l s).1.object := by
 unfold innerM at h
 split at h
 ·
  exact ⟨by assumption, firstIn_some h⟩
 ·
  cases h
def freeW (l : List DN) (way : List SlotM) : Nat := ((dfull l).filter fun s => decide (s ∉ way)).length
theorem freeW_lt {l : List DN} (hl : HasS l) {way : List SlotM} {x : SlotM} (hx : x ∉ way) (hk : (dget l x).1.kind ≠ 0) : freeW l (way ++ [x]) < freeW l way := by
 unfold freeW
 have h1 : ((dfull l).filter fun s => decide (s ∉ way ++ [x])) = (((dfull l).filter fun s => decide (s ∉ way)).filter fun s => decide (s ≠ x)) := by
  rw [List.filter_filter]
  refine List.filter_congr fun s _ => ?_
  simp only [List.mem_append, List.mem_singleton, not_or, Bool.decide_and, decide_not]
  rw [Bool.and_comm]
 rw [h1]
 have h2 := filter_ne_len (s := x) ((dfull_nodup hl).filter fun s => decide (s ∉ way)) (List.mem_filter.2 ⟨(mem_dfull hl).2 hk, decide_eq_true hx⟩)
 omega
theorem freeW_le (l : List DN) (way : List SlotM) : freeW l way ≤ (dfull l).length := List.length_filter_le _ _
theorem dradix_le {l : List DN} (h : HasS l) (id : Int) : 0 ≤ dradix l id ∧ dradix l id ≤ 4 := by
 obtain ⟨S, hR⟩ := h
 unfold dradix
 cases e : dfind l id with
 | none => exact ⟨by decide, by decide⟩
 | some d =>
  obtain ⟨n, _, hr, _, _, hw⟩ := rel_find hR e
  have := hw.hi
  dsimp only; omega
theorem firstIn_hit {l : List DN} {way : List SlotM} {node : Int} {i : Nat} (h0 : dradix l node ≠ 0) (hi : i < 2 ^ (dradix l node).toNat) (hb : ∀ j, j < i → ((node, (j : Int)) ∈ way ∨ (dget l (node, (j : Int))).1.kind = 0)) (h : (node, (i : Int)) ∉ way) (hk : (dget l (node, (i : Int))).1.kind ≠ 0) : firstIn l way node = some (node, (i : Int)) := by
 unfold firstIn
 rw [if_neg h0, List.find?_map, List.find?_eq_some_iff_append.2, Option.map_some]
 refine ⟨decide_eq_true ⟨h, hk⟩, List.range i, (List.range' (i + 1) (2 ^ (dradix l node).toNat - i - 1)), ?_, ?_⟩
 ·
  rw [List.range_eq_range', List.range_eq_range', show 2 ^ (dradix l node).toNat = i + (1 + (2 ^ (dradix l node).toNat - i - 1)) by omega, ← List.range'_append_1, ← List.range'_append_1]
  simp only [Nat.zero_add, List.range'_one, List.singleton_append]
  congr 2
  congr 1
  omega
 ·
  intro j hj
  have hj' := List.mem_range.1 hj
  simp only [Function.comp, Bool.not_eq_true', decide_eq_false_iff_not]
  rintro ⟨h1, h2⟩
  rcases hb j hj' with h3 | h3
  ·
   exact h1 h3
  ·
   exact h2 h3
theorem firstIn_miss {l : List DN} {way : List SlotM} {node : Int} (hb : ∀ j : Nat, j < 2 ^ (dradix l node).toNat → ((node, (j : Int)) ∈ way ∨ (dget l (node, (j : Int))).1.kind = 0)) : firstIn l way node = none := by
 unfold firstIn
 split
 ·
  rfl
 ·
  rw [List.find?_eq_none]
  intro x hx
  obtain ⟨j, hj, rfl⟩ := List.mem_map.1 hx
  simp only [decide_eq_true_eq]
  rintro ⟨h1, h2⟩
  rcases hb j (List.mem_range.1 hj) with h3 | h3
  ·
   exact h1 h3
  ·
   exact h2 h3
theorem stepT_get {t : TS} (h : POk t.p) (s x : SlotM) : (dget (stepT t s).p.l x).1 = if x = s then CapM.zero else (dget t.p.l x).1 := by
 have h1 : (dget (mTake t.p s).2.2.l x).1 = if x = s then CapM.zero else (dget t.p.l x).1 := by
  by_cases hk : (dget t.p.l s).1.kind = 0
  ·
   rw [take_noF h hk]
   split
   ·
    rename_i e; subst e; rw [h.rel.zero hk]
   ·
    rfl
  ·
   rw [take_F h hk, take_get h.rel hk]
   split <;> rfl
 unfold stepT; dsimp only
 split
 ·
  show (dget (ddrop (mTake t.p s).2.2.l _).2 x).1 = _
  rw [drop_get (h.take s).rel, h1]
 ·
  exact h1
theorem dfull_step {t : TS} (h : POk t.p) (s : SlotM) : dfull (stepT t s).p.l = (dfull t.p.l).filter fun z => decide (z ≠ s) := by
 refine sorted_ext (dfull_sorted (stepT_ok h s).rel) ((dfull_sorted h.rel).filter _) fun x => ?_
 rw [mem_dfull (stepT_ok h s).rel, stepT_get h, List.mem_filter, mem_dfull h.rel]
 by_cases e : x = s
 ·
  subst e; rw [if_pos rfl]; simp [CapM.zero]
 ·
  rw [if_neg e]; simp [e]
theorem filter_comm2 {α : Type} (p q : α → Bool) (l : List α) : (l.filter p).filter q = (l.filter q).filter p := by
 rw [List.filter_filter, List.filter_filter]
 exact List.filter_congr fun x _ => Bool.and_comm _ _
theorem Away.free {t t' : TS} {way : List SlotM} {s : SlotM} {b : Bool} (h : Away t way s b t') : POk t.p → ∀ w, freeW t'.p.l w ≤ freeW t.p.l w := by
 induction h with
 | spent _ _ => exact fun _ _ => Nat.le_refl _
 | step _ _ =>
  intro h w
  unfold freeW
  rw [dfull_step h, filter_comm2]
  exact List.length_filter_le _ _
 | fall _ _ ih => exact ih
 | next _ ha _ ih1 ih2 => exact fun h w => Nat.le_trans (ih2 (ha.ok h) w) (ih1 h w)
end Go.Proofs.Ytdodfnjmkpgdbaa
end
