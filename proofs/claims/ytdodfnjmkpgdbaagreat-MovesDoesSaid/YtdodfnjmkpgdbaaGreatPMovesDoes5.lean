/- MovesDoes. Laid together by pack.py out of the texts in wip. -/
import Derived.Test.YtdodfnjmkpgdbaaGreatPMovesDoes4
set_option linter.unusedVariables false
set_option linter.unusedSimpArgs false
set_option linter.unusedSectionVars false
section
set_option linter.unusedVariables false
set_option linter.unusedSimpArgs false
namespace Go.Proofs.YtdodfnjmkpgdbaaGreat
open Go.SL
theorem tr_treeNew  : Tr Tryz.prog 28 [] ([]) (fun v L' => ∃ tb, v = .pointer (some ⟨tb, 0, none⟩) ∧ TrH ⟨0, fun _ => (0, 0), fun _ => none, fun _ => [], []⟩ tb L') := by
 refine Tr.enter Tryz.func28 rfl Tryz.ntmps28 rfl (fun W F => ?_)
 refine Wp.app ?_
 refine Wp.seq ?_
 refine Wp.region ?_
 refine Ops.pv (pv_assign rfl) rfl ?_
 refine Ops.nil ?_
 refine Ends.seq ?_
 refine Wp.seq ?_
 refine Wp.region ?_
 refine Ops.ef rfl (ef_makeMap rfl rfl) ?_
 rintro _ _ ⟨b1, rfl, rfl⟩
 refine Ops.pv (pv_build rfl) rfl ?_
 refine Ops.ef rfl (ef_boxK rfl rfl) ?_
 rintro _ _ ⟨b2, rfl, rfl⟩
 refine Ops.pv (pv_assign rfl) rfl ?_
 refine Ops.nil ?_
 refine Ends.seq ?_
 refine Wp.ret ?_
 exact Ends.ret (L' := [trBlk b2 b1, (b1, .map #[] 0)]) (res1 rfl rfl) ⟨b2, rfl, b1, 0, fun _ => 0, fun _ => .pointer none, fun _ => [], fun i hi => absurd hi (Nat.not_lt_zero i), rfl⟩
theorem tr_tHas (tb : Nat) (L : Hp) (T : TreeM) (hH : TrH T tb L) (s : SlotM) : TrR Tryz.prog 123 [.pointer (some ⟨tb, 0, none⟩), slotV s] (L) (.bool (tget s T.M).isSome) := by
 obtain ⟨mb, clk, blk, kv, kH, hk, rfl⟩ := hH
 have hm := tptr_hm blk T.M s
 refine Tr.enter Tryz.func123 rfl Tryz.ntmps123 rfl (fun W F => ?_)
 refine Wp.app ?_
 refine Wp.seq ?_
 refine Wp.region ?_
 refine Ops.ef rfl (ef_boxK rfl rfl) ?_
 rintro _ _ ⟨b1, rfl, rfl⟩
 refine Ops.pv (pv_assign rfl) rfl ?_
 refine Ops.nil ?_
 refine Ends.seq ?_
 refine Wp.seq ?_
 refine AnyH.start ((b1, .cells [.int .i64 s.1, .int .i64 s.2].toArray 31) :: trBlk tb mb :: mpBlk mb blk T.M clk :: segs (knS blk T kv kH) T.n) 8 rfl ?_
 refine Tk 0 rfl rfl (pv_move rfl) rfl ?_
 refine Tk 1 rfl rfl (pv_nilCheck rfl) rfl ?_
 refine Tk 2 rfl rfl (pv_fieldAddr0 rfl rfl) rfl ?_
 refine Tk 3 rfl rfl (pv_load rfl rfl rfl) rfl ?_
 refine Tk 4 rfl rfl (pv_loadK [_, _] rfl rfl rfl ⟨rfl, rfl, trivial⟩) rfl ?_
 refine Tk 5 rfl rfl (pv_lookup_s s rfl rfl hm) rfl ?_
 refine Tk 6 rfl rfl (pv_neq_nil rfl rfl) rfl ?_
 refine Tk 7 rfl rfl (pv_assign rfl) rfl ?_
 refine AnyH.done (by kernel_rfl) ?_
 refine Ends.seq ?_
 refine Wp.ret ?_
 exact Ends.ret (res1 rfl rfl) ⟨by rw [tptr_is], rfl⟩
theorem tr_tPar0 (tb : Nat) (L : Hp) (T : TreeM) (hH : TrH T tb L) (s : SlotM) (h : tget s T.M = none) : TrR Tryz.prog 99 [.pointer (some ⟨tb, 0, none⟩), slotV s] (L) (.tuple #[slotV (0, 0), .bool false]) := by
 obtain ⟨mb, clk, blk, kv, kH, hk, rfl⟩ := hH
 have hm := tptr_hm blk T.M s
 rw [tptr_no h] at hm
 refine Tr.enter Tryz.func99 rfl Tryz.ntmps99 rfl (fun W F => ?_)
 refine Wp.app ?_
 refine Wp.seq ?_
 refine Wp.region ?_
 refine Ops.ef rfl (ef_boxK rfl rfl) ?_
 rintro _ _ ⟨b1, rfl, rfl⟩
 refine Ops.ef rfl (ef_allocK tyZ31 rfl) ?_
 rintro _ _ ⟨b2, rfl, rfl⟩
 refine Ops.pv (pv_assign rfl) rfl ?_
 refine Ops.nil ?_
 refine Ends.seq ?_
 refine Wp.seq ?_
 refine AnyH.start ((b1, .cells [.int .i64 s.1, .int .i64 s.2].toArray 31) :: trBlk tb mb :: mpBlk mb blk T.M clk :: segs (knS blk T kv kH) T.n) 7 rfl ?_
 refine Tk 0 rfl rfl (pv_move rfl) rfl ?_
 refine Tk 1 rfl rfl (pv_nilCheck rfl) rfl ?_
 refine Tk 2 rfl rfl (pv_fieldAddr0 rfl rfl) rfl ?_
 refine Tk 3 rfl rfl (pv_load rfl rfl rfl) rfl ?_
 refine Tk 4 rfl rfl (pv_loadK [_, _] rfl rfl rfl ⟨rfl, rfl, trivial⟩) rfl ?_
 refine Tk 5 rfl rfl (pv_lookup_s s rfl rfl hm) rfl ?_
 refine Tk 6 rfl rfl (pv_assign rfl) rfl ?_
 refine AnyH.done (by kernel_rfl) ?_
 refine Ends.seq ?_
 refine Wp.seq ?_
 refine Wp.seq ?_
 refine Wp.region ?_
 refine Ops.pv (pv_move rfl) rfl ?_
 refine Ops.pv (pv_eql_nil rfl rfl) rfl ?_
 refine Ops.pv (pv_move rfl) rfl ?_
 refine Ops.skipg ⟨_, _, rfl, rfl, rfl⟩ rfl ?_
 refine Ops.skipg ⟨_, _, rfl, rfl, rfl⟩ rfl ?_
 refine Ops.skipg ⟨_, _, rfl, rfl, rfl⟩ rfl ?_
 refine Ops.skipg ⟨_, _, rfl, rfl, rfl⟩ rfl ?_
 refine Ops.skipg ⟨_, _, rfl, rfl, rfl⟩ rfl ?_
 refine Ops.pv (pv_pick_true rfl rfl) rfl ?_
 refine Ops.nil ?_
 refine Ends.seq ?_
 refine Wp.cond_true rfl ?_
 refine Wp.seq ?_
 refine Wp.region ?_
 refine Ops.pv (pv_build rfl) rfl ?_
 refine Ops.ef rfl (ef_storeK rfl rfl rfl rfl) ?_
 rintro _ _ ⟨rfl, rfl⟩
 refine Ops.pv (pv_assign rfl) rfl ?_
 refine Ops.nil ?_
 refine Ends.seq ?_
 refine Wp.ret ?_
 refine Ends.then_ret ?_
 exact Ends.ret (res_list (rs := [.cell 4 31, .tmp 5]) rfl ⟨_, _, rfl, rv_cellK [_, _] rfl rfl rfl ⟨rfl, rfl, trivial⟩, ⟨_, _, rfl, rv_tmp rfl, rfl⟩⟩ rfl) ⟨rfl, rfl⟩
theorem tr_tPar1 (tb : Nat) (L : Hp) (T : TreeM) (hH : TrH T tb L) (hx : T.Ix) (s : SlotM) (i : Nat) (h : tget s T.M = some i) (hp : T.par i = none) : TrR Tryz.prog 99 [.pointer (some ⟨tb, 0, none⟩), slotV s] (L) (.tuple #[slotV (0, 0), .bool false]) := by
 obtain ⟨mb, clk, blk, kv, kH, hk, rfl⟩ := hH
 have hm := tptr_hm blk T.M s
 rw [tptr_some h] at hm
 have hi := hx.get h
 have hb_i := kn_blk (blk := blk) (T := T) (kv := kv) (kH := kH) (i := i) hi
 rw [hp] at hb_i
 refine Tr.enter Tryz.func99 rfl Tryz.ntmps99 rfl (fun W F => ?_)
 refine Wp.app ?_
 refine Wp.seq ?_
 refine Wp.region ?_
 refine Ops.ef rfl (ef_boxK rfl rfl) ?_
 rintro _ _ ⟨b1, rfl, rfl⟩
 refine Ops.ef rfl (ef_allocK tyZ31 rfl) ?_
 rintro _ _ ⟨b2, rfl, rfl⟩
 refine Ops.pv (pv_assign rfl) rfl ?_
 refine Ops.nil ?_
 refine Ends.seq ?_
 refine Wp.seq ?_
 refine AnyH.start ((b1, .cells [.int .i64 s.1, .int .i64 s.2].toArray 31) :: trBlk tb mb :: mpBlk mb blk T.M clk :: segs (knS blk T kv kH) T.n) 7 rfl ?_
 refine Tk 0 rfl rfl (pv_move rfl) rfl ?_
 refine Tk 1 rfl rfl (pv_nilCheck rfl) rfl ?_
 refine Tk 2 rfl rfl (pv_fieldAddr0 rfl rfl) rfl ?_
 refine Tk 3 rfl rfl (pv_load rfl rfl rfl) rfl ?_
 refine Tk 4 rfl rfl (pv_loadK [_, _] rfl rfl rfl ⟨rfl, rfl, trivial⟩) rfl ?_
 refine Tk 5 rfl rfl (pv_lookup_s s rfl rfl hm) rfl ?_
 refine Tk 6 rfl rfl (pv_assign rfl) rfl ?_
 refine AnyH.done (by kernel_rfl) ?_
 refine Ends.seq ?_
 refine Wp.seq ?_
 refine Wp.seq ?_
 refine Wp.region ?_
 refine Ops.pv (pv_move rfl) rfl ?_
 refine Ops.pv (pv_eql_nil rfl rfl) rfl ?_
 refine Ops.pv (pv_move rfl) rfl ?_
 refine Ops.pvg ⟨_, _, rfl, rfl, rfl⟩ (pv_move rfl) rfl ?_
 refine Ops.pvg ⟨_, _, rfl, rfl, rfl⟩ (pv_nilCheck rfl) rfl ?_
 refine Ops.pvg ⟨_, _, rfl, rfl, rfl⟩ (pv_fieldAddr0 rfl rfl) rfl ?_
 refine Ops.pvg ⟨_, _, rfl, rfl, rfl⟩ (pv_load rfl rfl rfl) rfl ?_
 refine Ops.pvg ⟨_, _, rfl, rfl, rfl⟩ (pv_eql_nil rfl rfl) rfl ?_
 refine Ops.pv (pv_pick_false rfl rfl) rfl ?_
 refine Ops.nil ?_
 refine Ends.seq ?_
 refine Wp.cond_true rfl ?_
 refine Wp.seq ?_
 refine Wp.region ?_
 refine Ops.pv (pv_build rfl) rfl ?_
 refine Ops.ef rfl (ef_storeK rfl rfl rfl rfl) ?_
 rintro _ _ ⟨rfl, rfl⟩
 refine Ops.pv (pv_assign rfl) rfl ?_
 refine Ops.nil ?_
 refine Ends.seq ?_
 refine Wp.ret ?_
 refine Ends.then_ret ?_
 exact Ends.ret (res_list (rs := [.cell 4 31, .tmp 5]) rfl ⟨_, _, rfl, rv_cellK [_, _] rfl rfl rfl ⟨rfl, rfl, trivial⟩, ⟨_, _, rfl, rv_tmp rfl, rfl⟩⟩ rfl) ⟨rfl, rfl⟩
theorem tr_tPar2 (tb : Nat) (L : Hp) (T : TreeM) (hH : TrH T tb L) (hx : T.Ix) (s : SlotM) (i j : Nat) (h : tget s T.M = some i) (hp : T.par i = some j) : TrR Tryz.prog 99 [.pointer (some ⟨tb, 0, none⟩), slotV s] (L) (.tuple #[slotV (T.sl j), .bool true]) := by
 obtain ⟨mb, clk, blk, kv, kH, hk, rfl⟩ := hH
 have hm := tptr_hm blk T.M s
 rw [tptr_some h] at hm
 have hi := hx.get h
 have hj := hx.par i j hi hp
 have hb_i := kn_blk (blk := blk) (T := T) (kv := kv) (kH := kH) (i := i) hi
 rw [hp] at hb_i
 have hb_j := kn_blk (blk := blk) (T := T) (kv := kv) (kH := kH) (i := j) hj
 refine Tr.enter Tryz.func99 rfl Tryz.ntmps99 rfl (fun W F => ?_)
 refine Wp.app ?_
 refine Wp.seq ?_
 refine Wp.region ?_
 refine Ops.ef rfl (ef_boxK rfl rfl) ?_
 rintro _ _ ⟨b1, rfl, rfl⟩
 refine Ops.ef rfl (ef_allocK tyZ31 rfl) ?_
 rintro _ _ ⟨b2, rfl, rfl⟩
 refine Ops.pv (pv_assign rfl) rfl ?_
 refine Ops.nil ?_
 refine Ends.seq ?_
 refine Wp.seq ?_
 refine AnyH.start ((b1, .cells [.int .i64 s.1, .int .i64 s.2].toArray 31) :: trBlk tb mb :: mpBlk mb blk T.M clk :: segs (knS blk T kv kH) T.n) 7 rfl ?_
 refine Tk 0 rfl rfl (pv_move rfl) rfl ?_
 refine Tk 1 rfl rfl (pv_nilCheck rfl) rfl ?_
 refine Tk 2 rfl rfl (pv_fieldAddr0 rfl rfl) rfl ?_
 refine Tk 3 rfl rfl (pv_load rfl rfl rfl) rfl ?_
 refine Tk 4 rfl rfl (pv_loadK [_, _] rfl rfl rfl ⟨rfl, rfl, trivial⟩) rfl ?_
 refine Tk 5 rfl rfl (pv_lookup_s s rfl rfl hm) rfl ?_
 refine Tk 6 rfl rfl (pv_assign rfl) rfl ?_
 refine AnyH.done (by kernel_rfl) ?_
 refine Ends.seq ?_
 refine Wp.seq ?_
 refine Wp.seq ?_
 refine Wp.region ?_
 refine Ops.pv (pv_move rfl) rfl ?_
 refine Ops.pv (pv_eql_nil rfl rfl) rfl ?_
 refine Ops.pv (pv_move rfl) rfl ?_
 refine Ops.pvg ⟨_, _, rfl, rfl, rfl⟩ (pv_move rfl) rfl ?_
 refine Ops.pvg ⟨_, _, rfl, rfl, rfl⟩ (pv_nilCheck rfl) rfl ?_
 refine Ops.pvg ⟨_, _, rfl, rfl, rfl⟩ (pv_fieldAddr0 rfl rfl) rfl ?_
 refine Ops.pvg ⟨_, _, rfl, rfl, rfl⟩ (pv_load rfl rfl rfl) rfl ?_
 refine Ops.pvg ⟨_, _, rfl, rfl, rfl⟩ (pv_eql_nil rfl rfl) rfl ?_
 refine Ops.pv (pv_pick_false rfl rfl) rfl ?_
 refine Ops.nil ?_
 refine Ends.seq ?_
 refine Wp.cond_false rfl ?_
 refine Wp.skip ?_
 refine Ends.seq ?_
 refine Wp.seq ?_
 refine Wp.region ?_
 refine Ops.pv (pv_move rfl) rfl ?_
 refine Ops.pv (pv_nilCheck rfl) rfl ?_
 refine Ops.pv (pv_fieldAddr0 rfl rfl) rfl ?_
 refine Ops.pv (pv_load rfl rfl rfl) rfl ?_
 refine Ops.pv (pv_nilCheck rfl) rfl ?_
 refine Ops.pv (pv_fieldAddr0 rfl rfl) rfl ?_
 refine Ops.pv (pv_loadK [_, _] rfl rfl rfl ⟨rfl, rfl, trivial⟩) rfl ?_
 refine Ops.ef rfl (ef_storeK rfl rfl rfl rfl) ?_
 rintro _ _ ⟨rfl, rfl⟩
 refine Ops.pv (pv_assign rfl) rfl ?_
 refine Ops.nil ?_
 refine Ends.seq ?_
 refine Wp.ret ?_
 exact Ends.ret (res_list (rs := [.cell 4 31, .tmp 5]) rfl ⟨_, _, rfl, rv_cellK [_, _] rfl rfl rfl ⟨rfl, rfl, trivial⟩, ⟨_, _, rfl, rv_tmp rfl, rfl⟩⟩ rfl) ⟨rfl, rfl⟩
theorem tr_tParent (tb : Nat) (L : Hp) (T : TreeM) (hH : TrH T tb L) (hx : T.Ix) (s : SlotM) : TrR Tryz.prog 99 [.pointer (some ⟨tb, 0, none⟩), slotV s] L (.tuple #[slotV (tparS T s), .bool (tparB T s)]) := by
 cases h : tget s T.M with
 | none => exact (tr_tPar0 tb L T hH s h).eq (by simp [tparS, tparB, h])
 | some i =>
  cases hp : T.par i with
  | none => exact (tr_tPar1 tb L T hH hx s i h hp).eq (by simp [tparS, tparB, h, hp])
  | some j => exact (tr_tPar2 tb L T hH hx s i j h hp).eq (by simp [tparS, tparB, h, hp])
theorem tr_tKids0 (tb : Nat) (L : Hp) (T : TreeM) (hH : TrH T tb L) (s : SlotM) (h : tget s T.M = none) : Tr Tryz.prog 100 [.pointer (some ⟨tb, 0, none⟩), slotV s] (L) (fun u L' => u = .slice none 0 0 ∧ L' = L) := by
 obtain ⟨mb, clk, blk, kv, kH, hk, rfl⟩ := hH
 have hm := tptr_hm blk T.M s
 rw [tptr_no h] at hm
 refine Tr.enter Tryz.func100 rfl Tryz.ntmps100 rfl (fun W F => ?_)
 refine Wp.app ?_
 refine Wp.seq ?_
 refine Wp.region ?_
 refine Ops.ef rfl (ef_boxK rfl rfl) ?_
 rintro _ _ ⟨b1, rfl, rfl⟩
 refine Ops.pv (pv_assign rfl) rfl ?_
 refine Ops.nil ?_
 refine Ends.seq ?_
 refine Wp.seq ?_
 refine Wp.region ?_
 refine Ops.pv (pv_assign rfl) rfl ?_
 refine Ops.nil ?_
 refine Ends.seq ?_
 refine Wp.seq ?_
 refine Wp.seq ?_
 refine AnyH.start ((b1, .cells [.int .i64 s.1, .int .i64 s.2].toArray 31) :: trBlk tb mb :: mpBlk mb blk T.M clk :: segs (knS blk T kv kH) T.n) 7 rfl ?_
 refine Tk 0 rfl rfl (pv_move rfl) rfl ?_
 refine Tk 1 rfl rfl (pv_nilCheck rfl) rfl ?_
 refine Tk 2 rfl rfl (pv_fieldAddr0 rfl rfl) rfl ?_
 refine Tk 3 rfl rfl (pv_load rfl rfl rfl) rfl ?_
 refine Tk 4 rfl rfl (pv_loadK [_, _] rfl rfl rfl ⟨rfl, rfl, trivial⟩) rfl ?_
 refine Tk 5 rfl rfl (pv_lookup_s s rfl rfl hm) rfl ?_
 refine Tk 6 rfl rfl (pv_assign rfl) rfl ?_
 refine AnyH.done (by kernel_rfl) ?_
 refine Ends.seq ?_
 refine Wp.seq ?_
 refine Wp.region ?_
 refine Ops.pv (pv_move rfl) rfl ?_
 refine Ops.pv (pv_neq_nil rfl rfl) rfl ?_
 refine Ops.nil ?_
 refine Ends.seq ?_
 refine Wp.cond_false rfl ?_
 refine Wp.skip ?_
 refine Ends.seq ?_
 refine Wp.seq ?_
 refine Wp.region ?_
 refine Ops.pv (pv_move rfl) rfl ?_
 refine Ops.pv (pv_assign rfl) rfl ?_
 refine Ops.nil ?_
 refine Ends.seq ?_
 refine Wp.ret ?_
 exact Ends.ret (L' := trBlk tb mb :: mpBlk mb blk T.M clk :: segs (knS blk T kv kH) T.n) (res1 rfl rfl) ⟨rfl, rfl⟩
set_option maxHeartbeats 1000000 in
theorem tr_tKids1 (tb : Nat) (L : Hp) (T : TreeM) (hH : TrH T tb L) (hx : T.Ix) (hn : T.n ≤ 2 ^ 20) (s : SlotM) (i : Nat) (h : tget s T.M = some i) : Tr Tryz.prog 100 [.pointer (some ⟨tb, 0, none⟩), slotV s] (L) (fun u L' => ∃ K, Slc 31 2 u ((T.kids i).map T.sl).length (slotsCells ((T.kids i).map T.sl)) K ∧ L' = K ++ L) := by
 obtain ⟨mb, clk, blk, kv, kH, hk, rfl⟩ := hH
 have hm := tptr_hm blk T.M s
 rw [tptr_some h] at hm
 have hi := hx.get h
 have hb_i := kn_blk (blk := blk) (T := T) (kv := kv) (kH := kH) (i := i) hi
 obtain ⟨ka, kc, hkv⟩ := (hk i hi).form
 have hv := kn_view hk hi
 rw [hkv] at hv hb_i
 have hks := hx.small i hi
 have hlm : (T.kids i).length = ((T.kids i).map blk).length := by rw [List.length_map]
 refine Tr.enter Tryz.func100 rfl Tryz.ntmps100 rfl (fun W F => ?_)
 refine Wp.app ?_
 refine Wp.seq ?_
 refine Wp.region ?_
 refine Ops.ef rfl (ef_boxK rfl rfl) ?_
 rintro _ _ ⟨b1, rfl, rfl⟩
 refine Ops.pv (pv_assign rfl) rfl ?_
 refine Ops.nil ?_
 refine Ends.seq ?_
 refine Wp.seq ?_
 refine Wp.region ?_
 refine Ops.pv (pv_assign rfl) rfl ?_
 refine Ops.nil ?_
 refine Ends.seq ?_
 refine Wp.seq ?_
 refine Wp.seq ?_
 refine AnyH.start ((b1, .cells [.int .i64 s.1, .int .i64 s.2].toArray 31) :: trBlk tb mb :: mpBlk mb blk T.M clk :: segs (knS blk T kv kH) T.n) 7 rfl ?_
 refine Tk 0 rfl rfl (pv_move rfl) rfl ?_
 refine Tk 1 rfl rfl (pv_nilCheck rfl) rfl ?_
 refine Tk 2 rfl rfl (pv_fieldAddr0 rfl rfl) rfl ?_
 refine Tk 3 rfl rfl (pv_load rfl rfl rfl) rfl ?_
 refine Tk 4 rfl rfl (pv_loadK [_, _] rfl rfl rfl ⟨rfl, rfl, trivial⟩) rfl ?_
 refine Tk 5 rfl rfl (pv_lookup_s s rfl rfl hm) rfl ?_
 refine Tk 6 rfl rfl (pv_assign rfl) rfl ?_
 refine AnyH.done (by kernel_rfl) ?_
 refine Ends.seq ?_
 refine Wp.seq ?_
 refine Wp.region ?_
 refine Ops.pv (pv_move rfl) rfl ?_
 refine Ops.pv (pv_neq_nil rfl rfl) rfl ?_
 refine Ops.nil ?_
 refine Ends.seq ?_
 refine Wp.cond_true rfl ?_
 refine Wp.seq ?_
 refine Wp.region ?_
 refine Ops.pv (pv_move rfl) rfl ?_
 refine Ops.pv (pv_nilCheck rfl) rfl ?_
 refine Ops.pv (pv_fieldAddr0 rfl rfl) rfl ?_
 refine Ops.pv (pv_load rfl rfl rfl) rfl ?_
 refine Ops.pv (pv_len_slice (T := 131) rfl rfl) rfl ?_
 refine Ops.pv (pv_move rfl) rfl ?_
 refine Ops.nil ?_
 refine Ends.seq ?_
 refine Wp.block ?_
 refine Wp.loopK (σ := Nat × Value × Hp) [(20, _), (21, _)] (fun s => [(5, s.2.1), (22, .int .i64 s.1)]) (fun s => s.2.2 ++ (trBlk tb mb :: mpBlk mb blk T.M clk :: (segs (knS blk T kv kH) T.n ++ F))) (fun s => s.1 ≤ (T.kids i).length ∧ Slc 31 2 s.2.1 (((T.kids i).take s.1).map T.sl).length (slotsCells (((T.kids i).take s.1).map T.sl)) s.2.2) (fun s => (T.kids i).length - s.1) (0, .slice none 0 0, []) ⟨Nat.zero_le _, Slc.nil _ _⟩ ⟨rfl, rfl, trivial⟩ ⟨rfl, rfl, trivial⟩ (by intro w ho; (try dsimp only [List.nil_append, List.cons_append]); exact Drop.own ho) ?_
 rintro ⟨j, u, K⟩ KK ⟨hj, hu⟩ hK
 dsimp only [List.cons_append, List.nil_append] at hK ⊢
 dsimp only at hj hu ⊢
 refine Wp.seq ?_
 refine Wp.region ?_
 refine Ops.pv (pv_lss rfl rfl) rfl ?_
 refine Ops.nil ?_
 refine Ends.seq ?_
 refine Wp.seq ?_
 refine Wp.cond_dect rfl (fun h1 => ?_) (fun h1 => ?_)
 ·
  obtain ⟨b, o, cap, cc, T0, f, hv1, hbv, hr⟩ := hv.open (by omega)
  cases hv1
  obtain ⟨q, hq⟩ : ∃ q, (T.kids i)[j]? = some q := ⟨_, List.getElem?_eq_getElem (by omega)⟩
  have hbq : ((T.kids i).map blk)[j]? = some (blk q) := by rw [List.getElem?_map, hq]; rfl
  have hqn := hx.kids i q hi (List.mem_of_getElem? hq)
  have hb_q := kn_blk (blk := blk) (T := T) (kv := kv) (kH := kH) (i := q) hqn
  refine Wp.skip ?_
  refine Ends.seq ?_
  refine Wp.seq ?_
  refine Wp.block ?_
  refine Wp.seq ?_
  refine Wp.region ?_
  refine Ops.pv (pv_indexAddr (i := j) rfl rfl rfl (by omega)) rfl ?_
  refine Ops.pv (pv_load rfl rfl (pts_nth hr hbq)) rfl ?_
  refine Ops.pv (pv_assign rfl) rfl ?_
  refine Ops.nil ?_
  refine Ends.seq ?_
  refine Wp.region ?_
  refine Ops.pv (pv_move rfl) rfl ?_
  refine Ops.pv (pv_move rfl) rfl ?_
  refine Ops.pv (pv_nilCheck rfl) rfl ?_
  refine Ops.pv (pv_fieldAddr0 rfl rfl) rfl ?_
  refine Ops.pv (pv_loadK [_, _] rfl rfl rfl ⟨rfl, rfl, trivial⟩) rfl ?_
  refine Ops.ef rfl (ef_buildSlice1 (k := 2) rfl rfl rfl rfl rfl) ?_
  rintro _ _ ⟨b2, rfl, rfl⟩
  refine Ops.ef rfl (ef_append (H := K) (xs := slotCells (T.sl q)) rfl hu rfl ⟨rfl, rfl, trivial⟩ rfl rfl rfl (by simp only [List.length_map, List.length_take]; omega) (by simp only [List.length_map, List.length_take]; omega) rfl rfl) ?_
  rintro _ _ ⟨u1, K1, hu1, rfl, rfl⟩
  refine Ops.app ?_
  refine Ops.pv (pv_assign rfl) rfl ?_
  refine Ops.nil ?_
  refine Ends.block_normal ?_
  refine Ends.seq ?_
  refine Wp.region ?_
  refine Ops.pv (pv_add rfl rfl (w64 (by omega) (by omega))) rfl ?_
  refine Ops.pv (pv_move rfl) rfl ?_
  refine Ops.nil ?_
  refine Ends.goes ?_
  refine Goes.back (hK (j + 1, u1, K1) ⟨by dsimp only; omega, ?_⟩ (by dsimp only; omega)) ⟨rfl, rfl, rfl, rfl, trivial⟩
  dsimp only; rw [List.take_add_one, hq, List.map_append, List.length_append, slotsCells_app]; exact hu1
 refine Wp.exit ?_
 refine Ends.then_exit ?_
 refine Ends.then_exit ?_
 refine Ends.block_hit ?_
 refine Ends.seq ?_
 refine Wp.seq ?_
 refine Wp.region ?_
 refine Ops.pv (pv_move rfl) rfl ?_
 refine Ops.pv (pv_assign rfl) rfl ?_
 refine Ops.nil ?_
 refine Ends.seq ?_
 refine Wp.ret ?_
 obtain rfl : j = (T.kids i).length := by omega
 rw [List.take_length] at hu
 exact Ends.ret (L' := K ++ (trBlk tb mb :: mpBlk mb blk T.M clk :: segs (knS blk T kv kH) T.n)) (res1 rfl rfl) ⟨K, hu, rfl⟩
theorem tr_tChildren (tb : Nat) (L : Hp) (T : TreeM) (hH : TrH T tb L) (hx : T.Ix) (hn : T.n ≤ 2 ^ 20) (s : SlotM) : Tr Tryz.prog 100 [.pointer (some ⟨tb, 0, none⟩), slotV s] L (fun u L' => ∃ K, Slc 31 2 u (tkids T s).length (slotsCells (tkids T s)) K ∧ L' = K ++ L) := by
 cases h : tget s T.M with
 | none =>
  have e : tkids T s = [] := by unfold tkids; rw [h]
  rw [e]
  exact (tr_tKids0 tb L T hH s h).mono fun u L' ⟨hu, hl⟩ => ⟨[], by rw [hu]; exact Slc.nil _ _, hl⟩
 | some i =>
  have e : tkids T s = (T.kids i).map T.sl := by unfold tkids; rw [h]
  rw [e]; exact tr_tKids1 tb L T hH hx hn s i h
theorem tr_tKin0 (tb : Nat) (L : Hp) (T : TreeM) (hH : TrH T tb L) (s : SlotM) (h : tget s T.M = none) : Tr Tryz.prog 59 [.pointer (some ⟨tb, 0, none⟩), slotV s] (L) (fun u L' => u = .slice none 0 0 ∧ L' = L) := by
 obtain ⟨mb, clk, blk, kv, kH, hk, rfl⟩ := hH
 have hm := tptr_hm blk T.M s
 rw [tptr_no h] at hm
 refine Tr.enter Tryz.func59 rfl Tryz.ntmps59 rfl (fun W F => ?_)
 refine Wp.app ?_
 refine Wp.seq ?_
 refine Wp.region ?_
 refine Ops.ef rfl (ef_boxK rfl rfl) ?_
 rintro _ _ ⟨b1, rfl, rfl⟩
 refine Ops.pv (pv_assign rfl) rfl ?_
 refine Ops.nil ?_
 refine Ends.seq ?_
 refine Wp.seq ?_
 refine Wp.region ?_
 refine Ops.pv (pv_assign rfl) rfl ?_
 refine Ops.nil ?_
 refine Ends.seq ?_
 refine Wp.seq ?_
 refine AnyH.start ((b1, .cells [.int .i64 s.1, .int .i64 s.2].toArray 31) :: trBlk tb mb :: mpBlk mb blk T.M clk :: segs (knS blk T kv kH) T.n) 7 rfl ?_
 refine Tk 0 rfl rfl (pv_move rfl) rfl ?_
 refine Tk 1 rfl rfl (pv_nilCheck rfl) rfl ?_
 refine Tk 2 rfl rfl (pv_fieldAddr0 rfl rfl) rfl ?_
 refine Tk 3 rfl rfl (pv_load rfl rfl rfl) rfl ?_
 refine Tk 4 rfl rfl (pv_loadK [_, _] rfl rfl rfl ⟨rfl, rfl, trivial⟩) rfl ?_
 refine Tk 5 rfl rfl (pv_lookup_s s rfl rfl hm) rfl ?_
 refine Tk 6 rfl rfl (pv_assign rfl) rfl ?_
 refine AnyH.done (by kernel_rfl) ?_
 refine Ends.seq ?_
 refine Wp.seq ?_
 refine Wp.seq ?_
 refine Wp.region ?_
 refine Ops.pv (pv_move rfl) rfl ?_
 refine Ops.pv (pv_eql_nil rfl rfl) rfl ?_
 refine Ops.nil ?_
 refine Ends.seq ?_
 refine Wp.cond_true rfl ?_
 refine Wp.seq ?_
 refine Wp.region ?_
 refine Ops.pv (pv_assign rfl) rfl ?_
 refine Ops.nil ?_
 refine Ends.seq ?_
 refine Wp.ret ?_
 refine Ends.then_ret ?_
 exact Ends.ret (L' := trBlk tb mb :: mpBlk mb blk T.M clk :: segs (knS blk T kv kH) T.n) (res1 rfl rfl) ⟨rfl, rfl⟩
set_option maxHeartbeats 1000000 in
theorem tr_tKin1 (tb : Nat) (L : Hp) (T : TreeM) (hH : TrH T tb L) (Fo0 : (Fo Nat)) (hT : TOk T Fo0) (hn : T.n ≤ 2 ^ 20) (s : SlotM) (i : Nat) (h : tget s T.M = some i) : Tr Tryz.prog 59 [.pointer (some ⟨tb, 0, none⟩), slotV s] (L) (fun u L' => ∃ K, Slc 31 2 u ((Fo.sub i Fo0).all.map T.sl).length (slotsCells ((Fo.sub i Fo0).all.map T.sl)) K ∧ L' = K ++ L) := by
 obtain ⟨mb, clk, blk, kv, kH, hk, rfl⟩ := hH
 have hm := tptr_hm blk T.M s
 have hx := hT.ix
 rw [tptr_some h] at hm
 have hi := hx.get h
 have hb_i := kn_blk (blk := blk) (T := T) (kv := kv) (kH := kH) (i := i) hi
 obtain ⟨ka, kc, hkv⟩ := kn_form hk hi
 have hv := kn_view2 hk hi
 rw [hkv] at hv hb_i
 have hks := hx.small i hi
 have him := hT.mem h
 obtain ⟨hsr, hsk⟩ := Fo.OkK.sub hT.kids him
 have hsl := sub_len Fo0 i
 have hal := hT.all_len
 have hlm : ((T.kids i).map blk).length = (T.kids i).length := List.length_map ..
 refine Tr.enter Tryz.func59 rfl Tryz.ntmps59 rfl (fun W F => ?_)
 refine Wp.app ?_
 refine Wp.seq ?_
 refine Wp.region ?_
 refine Ops.ef rfl (ef_boxK rfl rfl) ?_
 rintro _ _ ⟨b1, rfl, rfl⟩
 refine Ops.pv (pv_assign rfl) rfl ?_
 refine Ops.nil ?_
 refine Ends.seq ?_
 refine Wp.seq ?_
 refine Wp.region ?_
 refine Ops.pv (pv_assign rfl) rfl ?_
 refine Ops.nil ?_
 refine Ends.seq ?_
 refine Wp.seq ?_
 refine AnyH.start ((b1, .cells [.int .i64 s.1, .int .i64 s.2].toArray 31) :: trBlk tb mb :: mpBlk mb blk T.M clk :: segs (knS blk T kv kH) T.n) 7 rfl ?_
 refine Tk 0 rfl rfl (pv_move rfl) rfl ?_
 refine Tk 1 rfl rfl (pv_nilCheck rfl) rfl ?_
 refine Tk 2 rfl rfl (pv_fieldAddr0 rfl rfl) rfl ?_
 refine Tk 3 rfl rfl (pv_load rfl rfl rfl) rfl ?_
 refine Tk 4 rfl rfl (pv_loadK [_, _] rfl rfl rfl ⟨rfl, rfl, trivial⟩) rfl ?_
 refine Tk 5 rfl rfl (pv_lookup_s s rfl rfl hm) rfl ?_
 refine Tk 6 rfl rfl (pv_assign rfl) rfl ?_
 refine AnyH.done (by kernel_rfl) ?_
 refine Ends.seq ?_
 refine Wp.seq ?_
 refine Wp.seq ?_
 refine Wp.region ?_
 refine Ops.pv (pv_move rfl) rfl ?_
 refine Ops.pv (pv_eql_nil rfl rfl) rfl ?_
 refine Ops.nil ?_
 refine Ends.seq ?_
 refine Wp.cond_false rfl ?_
 refine Wp.skip ?_
 refine Ends.seq ?_
 refine Wp.seq ?_
 refine Wp.seq ?_
 refine Wp.region ?_
 refine Ops.pv (pv_move rfl) rfl ?_
 refine Ops.pv (pv_nilCheck rfl) rfl ?_
 refine Ops.pv (pv_fieldAddr0 rfl rfl) rfl ?_
 refine Ops.pv (pv_load rfl rfl rfl) rfl ?_
 refine Ops.ef rfl (ef_call (tr_clone (segs (knS blk T kv kH) T.n) ka kc ((T.kids i).map blk) hv (by omega)) rfl rfl) ?_
 rintro _ _ ⟨_, _, ⟨J1, hJ1, rfl⟩, rfl, rfl⟩
 refine Ops.app ?_
 refine Ops.pv (pv_assign rfl) rfl ?_
 refine Ops.nil ?_
 refine Ends.seq ?_
 refine Wp.block ?_
 refine Wp.loopK (σ := Value × Hp × Value × Hp × List SlotM × (Fo Nat)) [] (fun s => [(5, s.1), (7, s.2.2.1)]) (fun s => s.2.1 ++ (s.2.2.2.1 ++ (trBlk tb mb :: mpBlk mb blk T.M clk :: (segs (knS blk T kv kH) T.n ++ F)))) (fun s => Slc 31 2 s.1 s.2.2.2.2.1.length (slotsCells s.2.2.2.2.1) s.2.1 ∧ Slc 130 1 s.2.2.1 (s.2.2.2.2.2.roots.map blk).length (ptsC (s.2.2.2.2.2.roots.map blk)) s.2.2.2.1 ∧ Fo.OkK T.kids s.2.2.2.2.2 ∧ (∀ z, z ∈ s.2.2.2.2.2.all → z < T.n) ∧ s.2.2.2.2.1 ++ s.2.2.2.2.2.all.map T.sl = (Fo.sub i Fo0).all.map T.sl ∧ s.2.2.2.2.1.length + s.2.2.2.2.2.all.length ≤ T.n) (fun s => s.2.2.2.2.2.all.length) (.slice none 0 0, [], _, J1, [], Fo.sub i Fo0) ⟨Slc.nil _ _, by rw [← hsr]; exact hJ1, hsk, fun z hz => hT.lt z (Fo.sub_all _ _ z hz), rfl, by simp; omega⟩ trivial ⟨rfl, rfl, trivial⟩ (by intro w ho; (try dsimp only [List.nil_append, List.cons_append]); exact Drop.own ho) ?_
 rintro ⟨u, K, w, J, dn, g⟩ KK ⟨hu, hw, hok, hlt, htot, hgl⟩ hK
 dsimp only [List.cons_append, List.nil_append] at hK ⊢
 dsimp only at hu hw hok hlt htot hgl ⊢
 obtain ⟨wa, wc, rfl⟩ := hw.form
 refine Wp.seq ?_
 refine Wp.seq ?_
 refine Wp.region ?_
 refine Ops.pv (pv_move rfl) rfl ?_
 refine Ops.pv (pv_len_slice (T := 131) rfl rfl) rfl ?_
 refine Ops.pv (pv_gtr rfl rfl) rfl ?_
 refine Ops.nil ?_
 refine Ends.seq ?_
 refine Wp.cond_dect rfl (fun h1 => ?_) (fun h1 => ?_)
 ·
  obtain ⟨q, c, r, rfl⟩ := fo_cons (g := g) (blk := blk) (by assumption)
  simp only [Fo.roots, List.map_cons] at hw
  obtain ⟨ok1, ok2, ok3⟩ := hok
  simp only [Fo.all, List.length_cons, List.length_append] at hgl
  have hq := hlt q (by simp [Fo.all])
  have hb_q := kn_blk (blk := blk) (T := T) (kv := kv) (kH := kH) (i := q) hq
  obtain ⟨qa, qc, hqv⟩ := kn_form hk hq
  have hvq := kn_view2 hk hq
  rw [hqv] at hvq hb_q
  rw [ok1] at hvq hb_q
  have hlc := roots_len c
  have hlr := roots_len r
  have hvw := hw.view
  obtain ⟨b, o, cap, cc, T0, f, hv1, hbv, hr⟩ := hvw.open (by simp)
  cases hv1
  have hny := pts_nth (i := 0) hr rfl
  have hpt := hvw.part (i := 1) (j := ((Fo.roots r).map blk).length + 1) (by omega) (by simp)
  have et : (((blk q) :: (Fo.roots r).map blk).drop 1).take (((Fo.roots r).map blk).length + 1 - 1) = (Fo.roots r).map blk := List.take_of_length_le (by simp)
  rw [et] at hpt
  have hcap : ((Fo.roots r).map blk).length + 1 ≤ wc := by obtain ⟨_, _, _, e, h, _⟩ := hvw; cases e; simpa using h
  have hm1 : ((Fo.roots c).map blk).length = (Fo.roots c).length := List.length_map ..
  have hm2 : ((Fo.roots r).map blk).length = (Fo.roots r).length := List.length_map ..
  refine Wp.skip ?_
  refine Ends.seq ?_
  refine Wp.block ?_
  refine Wp.seq ?_
  refine Wp.region ?_
  refine Ops.pv (pv_move rfl) rfl ?_
  refine Ops.pv (pv_indexAddr (i := 0) rfl rfl rfl (by simp [Fo.roots])) rfl ?_
  refine Ops.pv (pv_load rfl rfl hny) rfl ?_
  refine Ops.pv (pv_assign rfl) rfl ?_
  refine Ops.nil ?_
  refine Ends.seq ?_
  refine Wp.seq ?_
  refine Wp.region ?_
  refine Ops.pv (pv_move rfl) rfl ?_
  refine Ops.pv (pv_move rfl) rfl ?_
  refine Ops.pv (pv_nilCheck rfl) rfl ?_
  refine Ops.pv (pv_fieldAddr0 rfl rfl) rfl ?_
  refine Ops.pv (pv_loadK [_, _] rfl rfl rfl ⟨rfl, rfl, trivial⟩) rfl ?_
  refine Ops.ef rfl (ef_buildSlice1 (k := 2) rfl rfl rfl rfl rfl) ?_
  rintro _ _ ⟨b2, rfl, rfl⟩
  refine Ops.ef rfl (ef_append (H := K) (xs := slotCells (T.sl q)) rfl hu rfl ⟨rfl, rfl, trivial⟩ rfl rfl rfl (by omega) (by omega) rfl rfl) ?_
  rintro _ _ ⟨u1, K1, hu1, rfl, rfl⟩
  refine Ops.app ?_
  refine Ops.pv (pv_assign rfl) rfl ?_
  refine Ops.nil ?_
  refine Ends.seq ?_
  refine AnyH.start (J ++ (segs (knS blk T kv kH) T.n)) 9 rfl ?_
  refine Tk 0 rfl rfl (pv_move rfl) rfl ?_
  refine Tk 1 rfl rfl (pv_nilCheck rfl) rfl ?_
  refine Tk 2 rfl rfl (pv_fieldAddr0 rfl rfl) rfl ?_
  refine Tk 3 rfl rfl (pv_load rfl rfl rfl) rfl ?_
  refine Tk 4 rfl rfl (pv_move rfl) rfl ?_
  refine Tk 5 rfl rfl (pv_sliceL (i := 1) (j := ((Fo.roots r).map blk).length + 1) (r := ((Fo.roots r).map blk).length) rfl ⟨_, rfl⟩ rfl (by omega) hcap (by omega)) rfl ?_
  refine AnyH.one 6 (by kernel_rfl) ?_
  refine Turn.ef rfl rfl (ef_buildSlice2 rfl rfl rfl rfl rfl rfl) ?_ ?_
  ·
   rintro _ _ ⟨b3, rfl, rfl⟩; infer_instance
  rintro _ _ ⟨b3, rfl, rfl⟩
  refine AnyH.one 7 (by kernel_rfl) ?_
  refine Turn.ef rfl rfl (ef_call (tr_concat2 (J ++ (segs (knS blk T kv kH) T.n)) b3 2 _ _ _ _ ((Fo.roots c).map blk) ((Fo.roots r).map blk) (hvq.mono (by intro p hp; exact List.mem_append_right _ hp)) (hpt.mono (by intro p hp; exact List.mem_append_left _ hp)) (by rw [List.length_append]; omega)) rfl rfl) ?_ ?_
  ·
   rintro _ _ ⟨_, _, ⟨J2, hJ2, rfl⟩, rfl, rfl⟩; infer_instance
  rintro _ _ ⟨_, _, ⟨J2, hJ2, rfl⟩, rfl, rfl⟩
  refine AnyH.app ?_
  obtain ⟨xa1, xc1, rfl⟩ := hJ2.form
  refine Tk 8 rfl rfl (pv_assign rfl) rfl ?_
  refine AnyH.done (by kernel_rfl) ?_
  refine Ends.block_normal ?_
  refine Ends.goes ?_
  refine Goes.back (hK (u1, K1, _, J2, dn ++ [T.sl q], Fo.app c r) ⟨?_, ?_, Fo.OkK.app ok2 ok3, ?_, ?_, ?_⟩ (by dsimp only; rw [Fo.all_app]; simp only [Fo.all, List.length_cons, List.length_append]; omega)) ⟨rfl, rfl, trivial⟩
  ·
   dsimp only; rw [List.length_append, slotsCells_app]; exact hu1
  ·
   dsimp only; rw [Fo.roots_app, List.map_append]; exact hJ2
  ·
   intro z hz; dsimp only at hz; rw [Fo.all_app] at hz; exact hlt z (by simp only [Fo.all, List.mem_cons]; exact .inr hz)
  ·
   dsimp only; rw [← htot, Fo.all_app]; simp [Fo.all]
  dsimp only; rw [Fo.all_app, List.length_append, List.length_append]; simp; omega
 refine Wp.exit ?_
 refine Ends.then_exit ?_
 refine Ends.then_exit ?_
 refine Ends.block_hit ?_
 refine Ends.seq ?_
 refine Wp.seq ?_
 refine Wp.region ?_
 refine Ops.pv (pv_move rfl) rfl ?_
 refine Ops.pv (pv_assign rfl) rfl ?_
 refine Ops.nil ?_
 refine Ends.seq ?_
 refine Wp.ret ?_
 obtain rfl := fo_nil (g := g) (blk := blk) (by assumption)
 simp only [Fo.all, List.map_nil, List.append_nil] at htot
 rw [← htot]
 exact Ends.ret (L' := K ++ (trBlk tb mb :: mpBlk mb blk T.M clk :: segs (knS blk T kv kH) T.n)) (res1 rfl rfl) ⟨K, hu, rfl⟩
theorem tr_tadd_has (tb : Nat) (L : Hp) (T : TreeM) (hH : TrH T tb L) (s : SlotM) (v0 : Value) (i : Nat) (h : tget s T.M = some i) : Tr Tryz.prog 112 [.pointer (some ⟨tb, 0, none⟩), slotV s, v0] (L) (fun u L' => u = .int .i64 4 ∧ TrH T tb L') := by
 obtain ⟨mb, clk, blk, kv, kH, hk, rfl⟩ := hH
 refine Tr.enter Tryz.func112 rfl Tryz.ntmps112 rfl (fun W F => ?_)
 refine Wp.app ?_
 refine Wp.seq ?_
 refine Wp.region ?_
 refine Ops.ef rfl (ef_boxK rfl rfl) ?_
 rintro _ _ ⟨b1, rfl, rfl⟩
 refine Ops.pv (pv_assign rfl) rfl ?_
 refine Ops.nil ?_
 refine Ends.seq ?_
 refine Wp.seq ?_
 refine Wp.seq ?_
 refine Wp.region ?_
 refine Ops.pv (pv_move rfl) rfl ?_
 refine Ops.pv (pv_loadK [_, _] rfl rfl rfl ⟨rfl, rfl, trivial⟩) rfl ?_
 refine Ops.ef rfl (ef_callr ((tr_tHas tb _ T ⟨mb, clk, blk, kv, kH, hk, rfl⟩ s).eq (r' := .bool true) (by simp [h])) rfl rfl) ?_
 rintro _ _ ⟨rfl, rfl⟩
 refine Ops.nil ?_
 refine Ends.seq ?_
 refine Wp.cond_true rfl ?_
 refine Wp.seq ?_
 refine Wp.region ?_
 refine Ops.pv (pv_assign rfl) rfl ?_
 refine Ops.nil ?_
 refine Ends.seq ?_
 refine Wp.ret ?_
 refine Ends.then_ret ?_
 exact Ends.ret (L' := trBlk tb mb :: mpBlk mb blk T.M clk :: segs (knS blk T kv kH) T.n) (res1 rfl rfl) ⟨rfl, mb, clk, blk, kv, kH, hk, rfl⟩
theorem tr_tadd_root (tb : Nat) (L : Hp) (T : TreeM) (hH : TrH T tb L) (hx : T.Ix) (s : SlotM) (h : tget s T.M = none) : Tr Tryz.prog 112 [.pointer (some ⟨tb, 0, none⟩), slotV s, .pointer none] (L) (fun u L' => u = .int .i64 0 ∧ ∃ t, TrH (T.more s none t) tb L') := by
 obtain ⟨mb, clk, blk, kv, kH, hk, rfl⟩ := hH
 refine Tr.enter Tryz.func112 rfl Tryz.ntmps112 rfl (fun W F => ?_)
 refine Wp.app ?_
 refine Wp.seq ?_
 refine Wp.region ?_
 refine Ops.ef rfl (ef_boxK rfl rfl) ?_
 rintro _ _ ⟨b1, rfl, rfl⟩
 refine Ops.pv (pv_assign rfl) rfl ?_
 refine Ops.nil ?_
 refine Ends.seq ?_
 refine Wp.seq ?_
 refine Wp.seq ?_
 refine Wp.region ?_
 refine Ops.pv (pv_move rfl) rfl ?_
 refine Ops.pv (pv_loadK [_, _] rfl rfl rfl ⟨rfl, rfl, trivial⟩) rfl ?_
 refine Ops.ef rfl (ef_callr ((tr_tHas tb _ T ⟨mb, clk, blk, kv, kH, hk, rfl⟩ s).eq (r' := .bool false) (by simp [h])) rfl rfl) ?_
 rintro _ _ ⟨rfl, rfl⟩
 refine Ops.nil ?_
 refine Ends.seq ?_
 refine Wp.cond_false rfl ?_
 refine Wp.skip ?_
 refine Ends.seq ?_
 refine Wp.seq ?_
 refine Wp.region ?_
 refine Ops.pv (pv_loadK [_, _] rfl rfl rfl ⟨rfl, rfl, trivial⟩) rfl ?_
 refine Ops.pv (pv_move rfl) rfl ?_
 refine Ops.pv (pv_build rfl) rfl ?_
 refine Ops.ef rfl (ef_boxK rfl rfl) ?_
 rintro _ _ ⟨b2, rfl, rfl⟩
 refine Ops.pv (pv_assign rfl) rfl ?_
 refine Ops.nil ?_
 refine Ends.seq ?_
 refine Wp.seq ?_
 refine AnyH.start ((b1, .cells [.int .i64 s.1, .int .i64 s.2].toArray 31) :: trBlk tb mb :: []) 7 rfl ?_
 refine Tk 0 rfl rfl (pv_move rfl) rfl ?_
 refine Tk 1 rfl rfl (pv_nilCheck rfl) rfl ?_
 refine Tk 2 rfl rfl (pv_fieldAddr0 rfl rfl) rfl ?_
 refine Tk 3 rfl rfl (pv_load rfl rfl rfl) rfl ?_
 refine Tk 4 rfl rfl (pv_loadK [_, _] rfl rfl rfl ⟨rfl, rfl, trivial⟩) rfl ?_
 refine Tk 5 rfl rfl (pv_move rfl) rfl ?_
 refine AnyH.one 6 (by kernel_rfl) ?_
 refine Turn.ef rfl rfl (ef_mapUpdate_s _ rfl rfl rfl) ?_ ?_
 ·
  rintro _ _ ⟨rfl, rfl⟩; infer_instance
 rintro _ _ ⟨rfl, rfl⟩
 refine AnyH.done (by kernel_rfl) ?_
 refine Ends.seq ?_
 refine Wp.seq ?_
 refine Wp.seq ?_
 refine Wp.region ?_
 refine Ops.pv (pv_move rfl) rfl ?_
 refine Ops.pv (pv_neq_nil rfl rfl) rfl ?_
 refine Ops.nil ?_
 refine Ends.seq ?_
 refine Wp.cond_false rfl ?_
 refine Wp.skip ?_
 refine Ends.seq ?_
 refine Wp.seq ?_
 refine Wp.region ?_
 refine Ops.pv (pv_assign rfl) rfl ?_
 refine Ops.nil ?_
 refine Ends.seq ?_
 refine Wp.ret ?_
 rw [tput_new h, tclk_new h]
 refine Ends.heap (L' := trBlk tb mb :: (mb, mapO encS (kvT blk T.M ++ [(s, .pointer (some ⟨b2, 0, none⟩), clk)]) (clk + 1)) :: ((segs (knS blk T kv kH) T.n ++ [(b2, .cells [.int .i64 s.1, .int .i64 s.2, .pointer none, .slice none 0 0].toArray 134)]) ++ F)) (fun w ho => ?_) ?_
 ·
  have h2 : Own W w (trBlk tb mb :: (mb, mapO encS (kvT blk T.M ++ [(s, .pointer (some ⟨b2, 0, none⟩), clk)]) (clk + 1)) :: (segs (knS blk T kv kH) T.n ++ ((b2, .cells [.int .i64 s.1, .int .i64 s.2, .pointer none, .slice none 0 0].toArray 134) :: F))) := Drop.own ho
  rw [List.append_assoc]; exact h2
 rw [← more_root hx (t := clk), ← more_kvT hx]
 exact Ends.ret (L' := trBlk tb mb :: (mb, mapO encS (kvT (fset blk T.n b2) (T.M ++ [(s, T.n, clk)])) (clk + 1)) :: segs (knS (fset blk T.n b2) (T.more s none clk) (fset kv T.n (.slice none 0 0)) (fset kH T.n [])) (T.n + 1)) (res1 rfl rfl) ⟨rfl, clk, mb, clk + 1, fset blk T.n b2, _, _, more_root_ok hx hk, rfl⟩
theorem tr_tadd_child (tb mb clk : Nat) (blk : Nat → Nat) (T : TreeM) (kv : Nat → Value) (kH : Nat → Hp) (hk : kidsOk blk T kv kH) (hx : T.Ix) (hn : T.n ≤ 2 ^ 20) (s : SlotM) (j : Nat) (hj : j < T.n) (h : tget s T.M = none) : Tr Tryz.prog 112 [.pointer (some ⟨tb, 0, none⟩), slotV s, .pointer (some ⟨blk j, 0, none⟩)] (trBlk tb mb :: mpBlk mb blk T.M clk :: segs (knS blk T kv kH) T.n) (fun u L' => u = .int .i64 0 ∧ ∃ t, TrH (T.more s (some j) t) tb L') := by
 have hkj := hk j hj
 have hsm := hx.small j hj
 refine Tr.enter Tryz.func112 rfl Tryz.ntmps112 rfl (fun W F => ?_)
 refine Wp.app ?_
 refine Wp.seq ?_
 refine Wp.region ?_
 refine Ops.ef rfl (ef_boxK rfl rfl) ?_
 rintro _ _ ⟨b1, rfl, rfl⟩
 refine Ops.pv (pv_assign rfl) rfl ?_
 refine Ops.nil ?_
 refine Ends.seq ?_
 refine Wp.seq ?_
 refine Wp.seq ?_
 refine Wp.region ?_
 refine Ops.pv (pv_move rfl) rfl ?_
 refine Ops.pv (pv_loadK [_, _] rfl rfl rfl ⟨rfl, rfl, trivial⟩) rfl ?_
 refine Ops.ef rfl (ef_callr ((tr_tHas tb _ T ⟨mb, clk, blk, kv, kH, hk, rfl⟩ s).eq (r' := .bool false) (by simp [h])) rfl rfl) ?_
 rintro _ _ ⟨rfl, rfl⟩
 refine Ops.nil ?_
 refine Ends.seq ?_
 refine Wp.cond_false rfl ?_
 refine Wp.skip ?_
 refine Ends.seq ?_
 refine Wp.seq ?_
 refine Wp.region ?_
 refine Ops.pv (pv_loadK [_, _] rfl rfl rfl ⟨rfl, rfl, trivial⟩) rfl ?_
 refine Ops.pv (pv_move rfl) rfl ?_
 refine Ops.pv (pv_build rfl) rfl ?_
 refine Ops.ef rfl (ef_boxK rfl rfl) ?_
 rintro _ _ ⟨b2, rfl, rfl⟩
 refine Ops.pv (pv_assign rfl) rfl ?_
 refine Ops.nil ?_
 refine Ends.seq ?_
 refine Wp.seq ?_
 refine AnyH.start ((b1, .cells [.int .i64 s.1, .int .i64 s.2].toArray 31) :: trBlk tb mb :: []) 7 rfl ?_
 refine Tk 0 rfl rfl (pv_move rfl) rfl ?_
 refine Tk 1 rfl rfl (pv_nilCheck rfl) rfl ?_
 refine Tk 2 rfl rfl (pv_fieldAddr0 rfl rfl) rfl ?_
 refine Tk 3 rfl rfl (pv_load rfl rfl rfl) rfl ?_
 refine Tk 4 rfl rfl (pv_loadK [_, _] rfl rfl rfl ⟨rfl, rfl, trivial⟩) rfl ?_
 refine Tk 5 rfl rfl (pv_move rfl) rfl ?_
 refine AnyH.one 6 (by kernel_rfl) ?_
 refine Turn.ef rfl rfl (ef_mapUpdate_s _ rfl rfl rfl) ?_ ?_
 ·
  rintro _ _ ⟨rfl, rfl⟩; infer_instance
 rintro _ _ ⟨rfl, rfl⟩
 refine AnyH.done (by kernel_rfl) ?_
 refine Ends.seq ?_
 refine Wp.seq ?_
 refine Wp.seq ?_
 refine Wp.region ?_
 refine Ops.pv (pv_move rfl) rfl ?_
 refine Ops.pv (pv_neq_nil rfl rfl) rfl ?_
 refine Ops.nil ?_
 refine Ends.seq ?_
 refine Wp.cond_true rfl ?_
 refine Wp.region ?_
 rw [tput_new h, tclk_new h]
 refine Ops.openS (knS blk T kv kH) T.n j hj ?_
 dsimp only [knS, List.cons_append]
 refine Ops.pv (pv_move rfl) rfl ?_
 refine Ops.pv (pv_move rfl) rfl ?_
 refine Ops.pv (pv_nilCheck rfl) rfl ?_
 refine Ops.pv (pv_fieldAddr0 rfl rfl) rfl ?_
 refine Ops.pv (pv_load rfl rfl rfl) rfl ?_
 refine Ops.pv (pv_move rfl) rfl ?_
 refine Ops.ef rfl (ef_buildSlice1 (k := 1) rfl rfl rfl rfl rfl) ?_
 rintro _ _ ⟨b3, rfl, rfl⟩
 refine Ops.ef rfl (ef_append (H := kH j) (xs := [.pointer (some ⟨b2, 0, none⟩)]) rfl hkj rfl ⟨rfl, trivial⟩ rfl rfl rfl (by omega) (by omega) rfl rfl) ?_
 rintro _ _ ⟨u1, H1, hu1, rfl, rfl⟩
 refine Ops.app ?_
 have ho1 := hu1.one
 have ho2 := hu1.cells1
 refine Ops.pv (pv_nilCheck rfl) rfl ?_
 refine Ops.pv (pv_fieldAddr0 rfl rfl) rfl ?_
 refine Ops.ef rfl (ef_store1 rfl rfl (by first | rfl | assumption) (by first | rfl | assumption)) ?_
 rintro _ _ ⟨rfl, rfl⟩
 refine Ops.nil ?_
 refine Ends.seq ?_
 refine Wp.seq ?_
 refine Wp.region ?_
 refine Ops.pv (pv_assign rfl) rfl ?_
 refine Ops.nil ?_
 refine Ends.seq ?_
 refine Wp.ret ?_
 refine Ends.closeS (knS blk T kv kH) T.n j ((blk j, .cells [.int .i64 (T.sl j).1, .int .i64 (T.sl j).2, ptrO blk (T.par j), u1].toArray 134) :: H1) hj ?_
 refine Ends.heap (L' := trBlk tb mb :: (mb, mapO encS (kvT blk T.M ++ [(s, .pointer (some ⟨b2, 0, none⟩), clk)]) (clk + 1)) :: ((segs (fset (knS blk T kv kH) j ((blk j, .cells [.int .i64 (T.sl j).1, .int .i64 (T.sl j).2, ptrO blk (T.par j), u1].toArray 134) :: H1)) T.n ++ [(b2, .cells [.int .i64 s.1, .int .i64 s.2, .pointer (some ⟨blk j, 0, none⟩), .slice none 0 0].toArray 134)]) ++ F)) (fun w ho => ?_) ?_
 ·
  have h2 : Own W w (trBlk tb mb :: (mb, mapO encS (kvT blk T.M ++ [(s, .pointer (some ⟨b2, 0, none⟩), clk)]) (clk + 1)) :: (segs (fset (knS blk T kv kH) j ((blk j, .cells [.int .i64 (T.sl j).1, .int .i64 (T.sl j).2, ptrO blk (T.par j), u1].toArray 134) :: H1)) T.n ++ ((b2, .cells [.int .i64 s.1, .int .i64 s.2, .pointer (some ⟨blk j, 0, none⟩), .slice none 0 0].toArray 134) :: F))) := Drop.own ho
  rw [List.append_assoc]; exact h2
 rw [← more_child hx (t := clk) hj, ← more_kvT hx]
 exact Ends.ret (L' := trBlk tb mb :: (mb, mapO encS (kvT (fset blk T.n b2) (T.M ++ [(s, T.n, clk)])) (clk + 1)) :: segs (knS (fset blk T.n b2) (T.more s (some j) clk) (fset (fset kv T.n (.slice none 0 0)) j u1) (fset (fset kH T.n []) j H1)) (T.n + 1)) (res1 rfl rfl) ⟨rfl, clk, mb, clk + 1, fset blk T.n b2, _, _, more_child_ok hx hk hj hu1, rfl⟩
theorem tr_taddR (tb : Nat) (L : Hp) (T : TreeM) (hH : TrH T tb L) (hx : T.Ix) (s : SlotM) : Tr Tryz.prog 112 [.pointer (some ⟨tb, 0, none⟩), slotV s, .pointer none] L (fun u L' => ∃ e T', u = .int .i64 e ∧ TAdd T s none e T' ∧ TrH T' tb L') := by
 cases h : tget s T.M with
 | none => exact (tr_tadd_root tb L T hH hx s h).mono fun u L' ⟨hu, t, hl⟩ => ⟨0, _, hu, .inr ⟨h, rfl, t, rfl⟩, hl⟩
 | some i => exact (tr_tadd_has tb L T hH s (.pointer none) i h).mono fun u L' ⟨hu, hl⟩ => ⟨4, T, hu, .inl ⟨i, h, rfl, rfl⟩, hl⟩
theorem tr_taddC (tb mb clk : Nat) (blk : Nat → Nat) (T : TreeM) (kv : Nat → Value) (kH : Nat → Hp) (hk : kidsOk blk T kv kH) (hx : T.Ix) (hn : T.n ≤ 2 ^ 20) (s : SlotM) (j : Nat) (hj : j < T.n) :
    Tr Tryz.prog 112 [.pointer (some ⟨tb, 0, none⟩), slotV s, .pointer (some ⟨blk j, 0, none⟩)] (trBlk tb mb :: mpBlk mb blk T.M clk :: segs (knS blk T kv kH) T.n) (fun u L' => ∃ e T', u = .int .i64 e ∧ TAdd T s (some j) e T' ∧ TrH T' tb L') := by
  cases h : tget s T.M with
  | none => exact (tr_tadd_child tb mb clk blk T kv kH hk hx hn s j hj h).mono fun u L' ⟨hu, t, hl⟩ => ⟨0, _, hu, .inr ⟨h, rfl, t, rfl⟩, hl⟩
  | some i => exact (tr_tadd_has tb _ T ⟨mb, clk, blk, kv, kH, hk, rfl⟩ s (.pointer (some ⟨blk j, 0, none⟩)) i h).mono fun u L' ⟨hu, hl⟩ => ⟨4, T, hu, .inl ⟨i, h, rfl, rfl⟩, hl⟩
theorem tr_tRoot (tb : Nat) (L : Hp) (T : TreeM) (hH : TrH T tb L) (hx : T.Ix) (s : SlotM) : Tr Tryz.prog 78 [.pointer (some ⟨tb, 0, none⟩), slotV s] (L) (fun u L' => ∃ e T', u = .int .i64 e ∧ TAdd T s none e T' ∧ TrH T' tb L') := by
 refine Tr.enter Tryz.func78 rfl Tryz.ntmps78 rfl (fun W F => ?_)
 refine Wp.app ?_
 refine Wp.seq ?_
 refine Wp.region ?_
 refine Ops.ef rfl (ef_boxK rfl rfl) ?_
 rintro _ _ ⟨b1, rfl, rfl⟩
 refine Ops.pv (pv_assign rfl) rfl ?_
 refine Ops.nil ?_
 refine Ends.seq ?_
 refine Wp.seq ?_
 refine Wp.region ?_
 refine Ops.pv (pv_move rfl) rfl ?_
 refine Ops.pv (pv_loadK [_, _] rfl rfl rfl ⟨rfl, rfl, trivial⟩) rfl ?_
 refine Ops.ef rfl (ef_call (tr_taddR tb L T hH hx s) rfl rfl) ?_
 rintro _ _ ⟨_, Q1, ⟨e1, T1, rfl, ha1, hH1⟩, rfl, rfl⟩
 refine Ops.app ?_
 skip
 refine Ops.pv (pv_assign rfl) rfl ?_
 refine Ops.nil ?_
 refine Ends.seq ?_
 refine Wp.ret ?_
 exact Ends.ret (L' := Q1) (res1 rfl rfl) ⟨e1, T1, rfl, ha1, hH1⟩
theorem tr_tChild0 (tb : Nat) (L : Hp) (T : TreeM) (hH : TrH T tb L) (o s : SlotM) (h : tget o T.M = none) : Tr Tryz.prog 82 [.pointer (some ⟨tb, 0, none⟩), slotV o, slotV s] (L) (fun u L' => u = .int .i64 3 ∧ TrH T tb L') := by
 obtain ⟨mb, clk, blk, kv, kH, hk, rfl⟩ := hH
 have hm := tptr_hm blk T.M o
 rw [tptr_no h] at hm
 refine Tr.enter Tryz.func82 rfl Tryz.ntmps82 rfl (fun W F => ?_)
 refine Wp.app ?_
 refine Wp.seq ?_
 refine Wp.region ?_
 refine Ops.ef rfl (ef_boxK rfl rfl) ?_
 rintro _ _ ⟨b1, rfl, rfl⟩
 refine Ops.ef rfl (ef_boxK rfl rfl) ?_
 rintro _ _ ⟨b2, rfl, rfl⟩
 refine Ops.pv (pv_assign rfl) rfl ?_
 refine Ops.nil ?_
 refine Ends.seq ?_
 refine Wp.seq ?_
 refine AnyH.start ((b1, .cells [.int .i64 o.1, .int .i64 o.2].toArray 31) :: trBlk tb mb :: mpBlk mb blk T.M clk :: segs (knS blk T kv kH) T.n) 7 rfl ?_
 refine Tk 0 rfl rfl (pv_move rfl) rfl ?_
 refine Tk 1 rfl rfl (pv_nilCheck rfl) rfl ?_
 refine Tk 2 rfl rfl (pv_fieldAddr0 rfl rfl) rfl ?_
 refine Tk 3 rfl rfl (pv_load rfl rfl rfl) rfl ?_
 refine Tk 4 rfl rfl (pv_loadK [_, _] rfl rfl rfl ⟨rfl, rfl, trivial⟩) rfl ?_
 refine Tk 5 rfl rfl (pv_lookup_s o rfl rfl hm) rfl ?_
 refine Tk 6 rfl rfl (pv_assign rfl) rfl ?_
 refine AnyH.done (by kernel_rfl) ?_
 refine Ends.seq ?_
 refine Wp.seq ?_
 refine Wp.seq ?_
 refine Wp.region ?_
 refine Ops.pv (pv_move rfl) rfl ?_
 refine Ops.pv (pv_eql_nil rfl rfl) rfl ?_
 refine Ops.nil ?_
 refine Ends.seq ?_
 refine Wp.cond_true rfl ?_
 refine Wp.seq ?_
 refine Wp.region ?_
 refine Ops.pv (pv_assign rfl) rfl ?_
 refine Ops.nil ?_
 refine Ends.seq ?_
 refine Wp.ret ?_
 refine Ends.then_ret ?_
 exact Ends.ret (L' := trBlk tb mb :: mpBlk mb blk T.M clk :: segs (knS blk T kv kH) T.n) (res1 rfl rfl) ⟨rfl, mb, clk, blk, kv, kH, hk, rfl⟩
theorem tr_tChild1 (tb : Nat) (L : Hp) (T : TreeM) (hH : TrH T tb L) (hx : T.Ix) (hn : T.n ≤ 2 ^ 20) (o s : SlotM) (j : Nat) (h : tget o T.M = some j) : Tr Tryz.prog 82 [.pointer (some ⟨tb, 0, none⟩), slotV o, slotV s] (L) (fun u L' => ∃ e T', u = .int .i64 e ∧ TAdd T s (some j) e T' ∧ TrH T' tb L') := by
 obtain ⟨mb, clk, blk, kv, kH, hk, rfl⟩ := hH
 have hm := tptr_hm blk T.M o
 rw [tptr_some h] at hm
 have hj := hx.get h
 refine Tr.enter Tryz.func82 rfl Tryz.ntmps82 rfl (fun W F => ?_)
 refine Wp.app ?_
 refine Wp.seq ?_
 refine Wp.region ?_
 refine Ops.ef rfl (ef_boxK rfl rfl) ?_
 rintro _ _ ⟨b1, rfl, rfl⟩
 refine Ops.ef rfl (ef_boxK rfl rfl) ?_
 rintro _ _ ⟨b2, rfl, rfl⟩
 refine Ops.pv (pv_assign rfl) rfl ?_
 refine Ops.nil ?_
 refine Ends.seq ?_
 refine Wp.seq ?_
 refine AnyH.start ((b1, .cells [.int .i64 o.1, .int .i64 o.2].toArray 31) :: trBlk tb mb :: mpBlk mb blk T.M clk :: segs (knS blk T kv kH) T.n) 7 rfl ?_
 refine Tk 0 rfl rfl (pv_move rfl) rfl ?_
 refine Tk 1 rfl rfl (pv_nilCheck rfl) rfl ?_
 refine Tk 2 rfl rfl (pv_fieldAddr0 rfl rfl) rfl ?_
 refine Tk 3 rfl rfl (pv_load rfl rfl rfl) rfl ?_
 refine Tk 4 rfl rfl (pv_loadK [_, _] rfl rfl rfl ⟨rfl, rfl, trivial⟩) rfl ?_
 refine Tk 5 rfl rfl (pv_lookup_s o rfl rfl hm) rfl ?_
 refine Tk 6 rfl rfl (pv_assign rfl) rfl ?_
 refine AnyH.done (by kernel_rfl) ?_
 refine Ends.seq ?_
 refine Wp.seq ?_
 refine Wp.seq ?_
 refine Wp.region ?_
 refine Ops.pv (pv_move rfl) rfl ?_
 refine Ops.pv (pv_eql_nil rfl rfl) rfl ?_
 refine Ops.nil ?_
 refine Ends.seq ?_
 refine Wp.cond_false rfl ?_
 refine Wp.skip ?_
 refine Ends.seq ?_
 refine Wp.seq ?_
 refine Wp.region ?_
 refine Ops.pv (pv_move rfl) rfl ?_
 refine Ops.pv (pv_loadK [_, _] rfl rfl rfl ⟨rfl, rfl, trivial⟩) rfl ?_
 refine Ops.pv (pv_move rfl) rfl ?_
 refine Ops.ef rfl (ef_call (tr_taddC tb mb clk blk T kv kH hk hx hn s j hj) rfl rfl) ?_
 rintro _ _ ⟨_, Q1, ⟨e1, T1, rfl, ha1, hH1⟩, rfl, rfl⟩
 refine Ops.app ?_
 skip
 refine Ops.pv (pv_assign rfl) rfl ?_
 refine Ops.nil ?_
 refine Ends.seq ?_
 refine Wp.ret ?_
 exact Ends.ret (L' := Q1) (res1 rfl rfl) ⟨e1, T1, rfl, ha1, hH1⟩
theorem tr_tChild (tb : Nat) (L : Hp) (T : TreeM) (hH : TrH T tb L) (hx : T.Ix) (hn : T.n ≤ 2 ^ 20) (o s : SlotM) : Tr Tryz.prog 82 [.pointer (some ⟨tb, 0, none⟩), slotV o, slotV s] L (fun u L' => ∃ e T', u = .int .i64 e ∧ TChild T o s e T' ∧ TrH T' tb L') := by
 cases h : tget o T.M with
 | none => exact (tr_tChild0 tb L T hH o s h).mono fun u L' ⟨hu, hl⟩ => ⟨3, T, hu, .inl ⟨h, rfl, rfl⟩, hl⟩
 | some j => exact (tr_tChild1 tb L T hH hx hn o s j h).mono fun u L' ⟨e, T', hu, ha, hl⟩ => ⟨e, T', hu, .inr ⟨j, h, ha⟩, hl⟩
theorem tr_tMove0 (tb : Nat) (L : Hp) (T : TreeM) (hH : TrH T tb L) (o s : SlotM) (h : tget o T.M = none) : Tr Tryz.prog 93 [.pointer (some ⟨tb, 0, none⟩), slotV o, slotV s] (L) (fun u L' => u = .int .i64 3 ∧ TrH T tb L') := by
 obtain ⟨mb, clk, blk, kv, kH, hk, rfl⟩ := hH
 have hm := tptr_hm blk T.M o
 rw [tptr_no h] at hm
 refine Tr.enter Tryz.func93 rfl Tryz.ntmps93 rfl (fun W F => ?_)
 refine Wp.app ?_
 refine Wp.seq ?_
 refine Wp.region ?_
 refine Ops.ef rfl (ef_boxK rfl rfl) ?_
 rintro _ _ ⟨b1, rfl, rfl⟩
 refine Ops.ef rfl (ef_boxK rfl rfl) ?_
 rintro _ _ ⟨b2, rfl, rfl⟩
 refine Ops.pv (pv_assign rfl) rfl ?_
 refine Ops.nil ?_
 refine Ends.seq ?_
 refine Wp.seq ?_
 refine AnyH.start ((b1, .cells [.int .i64 o.1, .int .i64 o.2].toArray 31) :: trBlk tb mb :: mpBlk mb blk T.M clk :: segs (knS blk T kv kH) T.n) 7 rfl ?_
 refine Tk 0 rfl rfl (pv_move rfl) rfl ?_
 refine Tk 1 rfl rfl (pv_nilCheck rfl) rfl ?_
 refine Tk 2 rfl rfl (pv_fieldAddr0 rfl rfl) rfl ?_
 refine Tk 3 rfl rfl (pv_load rfl rfl rfl) rfl ?_
 refine Tk 4 rfl rfl (pv_loadK [_, _] rfl rfl rfl ⟨rfl, rfl, trivial⟩) rfl ?_
 refine Tk 5 rfl rfl (pv_lookup_s o rfl rfl hm) rfl ?_
 refine Tk 6 rfl rfl (pv_assign rfl) rfl ?_
 refine AnyH.done (by kernel_rfl) ?_
 refine Ends.seq ?_
 refine Wp.seq ?_
 refine Wp.block ?_
 refine Wp.seq ?_
 refine Wp.region ?_
 refine Ops.pv (pv_move rfl) rfl ?_
 refine Ops.pv (pv_eql_nil rfl rfl) rfl ?_
 refine Ops.pv (pv_assign rfl) rfl ?_
 refine Ops.nil ?_
 refine Ends.seq ?_
 refine Wp.cond_true rfl ?_
 refine Wp.seq ?_
 refine Wp.region ?_
 refine Ops.pv (pv_assign rfl) rfl ?_
 refine Ops.nil ?_
 refine Ends.seq ?_
 refine Wp.ret ?_
 refine Ends.block_ret ?_
 refine Ends.then_ret ?_
 exact Ends.ret (L' := trBlk tb mb :: mpBlk mb blk T.M clk :: segs (knS blk T kv kH) T.n) (res1 rfl rfl) ⟨rfl, mb, clk, blk, kv, kH, hk, rfl⟩
theorem tr_tMove1 (tb : Nat) (L : Hp) (T : TreeM) (hH : TrH T tb L) (hx : T.Ix) (o s : SlotM) (i j : Nat) (h : tget o T.M = some i) (h2 : tget s T.M = some j) : Tr Tryz.prog 93 [.pointer (some ⟨tb, 0, none⟩), slotV o, slotV s] (L) (fun u L' => u = .int .i64 4 ∧ TrH T tb L') := by
 obtain ⟨mb, clk, blk, kv, kH, hk, rfl⟩ := hH
 have hm := tptr_hm blk T.M o
 rw [tptr_some h] at hm
 refine Tr.enter Tryz.func93 rfl Tryz.ntmps93 rfl (fun W F => ?_)
 refine Wp.app ?_
 refine Wp.seq ?_
 refine Wp.region ?_
 refine Ops.ef rfl (ef_boxK rfl rfl) ?_
 rintro _ _ ⟨b1, rfl, rfl⟩
 refine Ops.ef rfl (ef_boxK rfl rfl) ?_
 rintro _ _ ⟨b2, rfl, rfl⟩
 refine Ops.pv (pv_assign rfl) rfl ?_
 refine Ops.nil ?_
 refine Ends.seq ?_
 refine Wp.seq ?_
 refine AnyH.start ((b1, .cells [.int .i64 o.1, .int .i64 o.2].toArray 31) :: trBlk tb mb :: mpBlk mb blk T.M clk :: segs (knS blk T kv kH) T.n) 7 rfl ?_
 refine Tk 0 rfl rfl (pv_move rfl) rfl ?_
 refine Tk 1 rfl rfl (pv_nilCheck rfl) rfl ?_
 refine Tk 2 rfl rfl (pv_fieldAddr0 rfl rfl) rfl ?_
 refine Tk 3 rfl rfl (pv_load rfl rfl rfl) rfl ?_
 refine Tk 4 rfl rfl (pv_loadK [_, _] rfl rfl rfl ⟨rfl, rfl, trivial⟩) rfl ?_
 refine Tk 5 rfl rfl (pv_lookup_s o rfl rfl hm) rfl ?_
 refine Tk 6 rfl rfl (pv_assign rfl) rfl ?_
 refine AnyH.done (by kernel_rfl) ?_
 refine Ends.seq ?_
 refine Wp.seq ?_
 refine Wp.block ?_
 refine Wp.seq ?_
 refine Wp.region ?_
 refine Ops.pv (pv_move rfl) rfl ?_
 refine Ops.pv (pv_eql_nil rfl rfl) rfl ?_
 refine Ops.pv (pv_assign rfl) rfl ?_
 refine Ops.nil ?_
 refine Ends.seq ?_
 refine Wp.cond_false rfl ?_
 refine Wp.seq ?_
 refine Wp.region ?_
 refine Ops.pv (pv_move rfl) rfl ?_
 refine Ops.pv (pv_loadK [_, _] rfl rfl rfl ⟨rfl, rfl, trivial⟩) rfl ?_
 refine Ops.ef rfl (ef_callr ((tr_tHas tb _ T ⟨mb, clk, blk, kv, kH, hk, rfl⟩ s).eq (r' := .bool true) (by simp [h2])) rfl rfl) ?_
 rintro _ _ ⟨rfl, rfl⟩
 refine Ops.pv (pv_assign rfl) rfl ?_
 refine Ops.nil ?_
 refine Ends.seq ?_
 refine Wp.cond_true rfl ?_
 refine Wp.seq ?_
 refine Wp.region ?_
 refine Ops.pv (pv_assign rfl) rfl ?_
 refine Ops.nil ?_
 refine Ends.seq ?_
 refine Wp.ret ?_
 refine Ends.block_ret ?_
 refine Ends.then_ret ?_
 exact Ends.ret (L' := trBlk tb mb :: mpBlk mb blk T.M clk :: segs (knS blk T kv kH) T.n) (res1 rfl rfl) ⟨rfl, mb, clk, blk, kv, kH, hk, rfl⟩
theorem tr_tMove2 (tb : Nat) (L : Hp) (T : TreeM) (hH : TrH T tb L) (hx : T.Ix) (o s : SlotM) (i : Nat) (h : tget o T.M = some i) (h2 : tget s T.M = none) : Tr Tryz.prog 93 [.pointer (some ⟨tb, 0, none⟩), slotV o, slotV s] (L) (fun u L' => u = .int .i64 0 ∧ ∃ t, TrH (T.moved o s i t) tb L') := by
 obtain ⟨mb, clk, blk, kv, kH, hk, rfl⟩ := hH
 have hm := tptr_hm blk T.M o
 rw [tptr_some h] at hm
 have hi := hx.get h
 have hb_i := kn_blk (blk := blk) (T := T) (kv := kv) (kH := kH) (i := i) hi
 have hupd := fun o1 => segs_upd (h := knS blk T kv kH) (o' := o1) hi rfl
 refine Tr.enter Tryz.func93 rfl Tryz.ntmps93 rfl (fun W F => ?_)
 refine Wp.app ?_
 refine Wp.seq ?_
 refine Wp.region ?_
 refine Ops.ef rfl (ef_boxK rfl rfl) ?_
 rintro _ _ ⟨b1, rfl, rfl⟩
 refine Ops.ef rfl (ef_boxK rfl rfl) ?_
 rintro _ _ ⟨b2, rfl, rfl⟩
 refine Ops.pv (pv_assign rfl) rfl ?_
 refine Ops.nil ?_
 refine Ends.seq ?_
 refine Wp.seq ?_
 refine AnyH.start ((b1, .cells [.int .i64 o.1, .int .i64 o.2].toArray 31) :: trBlk tb mb :: mpBlk mb blk T.M clk :: segs (knS blk T kv kH) T.n) 7 rfl ?_
 refine Tk 0 rfl rfl (pv_move rfl) rfl ?_
 refine Tk 1 rfl rfl (pv_nilCheck rfl) rfl ?_
 refine Tk 2 rfl rfl (pv_fieldAddr0 rfl rfl) rfl ?_
 refine Tk 3 rfl rfl (pv_load rfl rfl rfl) rfl ?_
 refine Tk 4 rfl rfl (pv_loadK [_, _] rfl rfl rfl ⟨rfl, rfl, trivial⟩) rfl ?_
 refine Tk 5 rfl rfl (pv_lookup_s o rfl rfl hm) rfl ?_
 refine Tk 6 rfl rfl (pv_assign rfl) rfl ?_
 refine AnyH.done (by kernel_rfl) ?_
 refine Ends.seq ?_
 refine Wp.seq ?_
 refine Wp.block ?_
 refine Wp.seq ?_
 refine Wp.region ?_
 refine Ops.pv (pv_move rfl) rfl ?_
 refine Ops.pv (pv_eql_nil rfl rfl) rfl ?_
 refine Ops.pv (pv_assign rfl) rfl ?_
 refine Ops.nil ?_
 refine Ends.seq ?_
 refine Wp.cond_false rfl ?_
 refine Wp.seq ?_
 refine Wp.region ?_
 refine Ops.pv (pv_move rfl) rfl ?_
 refine Ops.pv (pv_loadK [_, _] rfl rfl rfl ⟨rfl, rfl, trivial⟩) rfl ?_
 refine Ops.ef rfl (ef_callr ((tr_tHas tb _ T ⟨mb, clk, blk, kv, kH, hk, rfl⟩ s).eq (r' := .bool false) (by simp [h2])) rfl rfl) ?_
 rintro _ _ ⟨rfl, rfl⟩
 refine Ops.pv (pv_assign rfl) rfl ?_
 refine Ops.nil ?_
 refine Ends.seq ?_
 refine Wp.cond_false rfl ?_
 refine Wp.skip ?_
 refine Ends.block_normal ?_
 refine Ends.seq ?_
 refine Wp.seq ?_
 refine AnyH.start ((b1, .cells [.int .i64 o.1, .int .i64 o.2].toArray 31) :: trBlk tb mb :: []) 6 rfl ?_
 refine Tk 0 rfl rfl (pv_move rfl) rfl ?_
 refine Tk 1 rfl rfl (pv_nilCheck rfl) rfl ?_
 refine Tk 2 rfl rfl (pv_fieldAddr0 rfl rfl) rfl ?_
 refine Tk 3 rfl rfl (pv_load rfl rfl rfl) rfl ?_
 refine Tk 4 rfl rfl (pv_loadK [_, _] rfl rfl rfl ⟨rfl, rfl, trivial⟩) rfl ?_
 refine AnyH.one 5 (by kernel_rfl) ?_
 refine Turn.ef rfl rfl (ef_deleten_s (T := 121) _ rfl rfl rfl) ?_ ?_
 ·
  rintro _ _ ⟨rfl, rfl⟩; infer_instance
 rintro _ _ ⟨rfl, rfl⟩
 refine AnyH.done (by kernel_rfl) ?_
 refine Ends.seq ?_
 refine Wp.seq ?_
 refine Wp.region ?_
 refine Ops.pv (pv_move rfl) rfl ?_
 refine Ops.pv (pv_loadK [_, _] rfl rfl rfl ⟨rfl, rfl, trivial⟩) rfl ?_
 refine Ops.pv (pv_nilCheck rfl) rfl ?_
 refine Ops.pv (pv_fieldAddr0 rfl rfl) rfl ?_
 refine Ops.ef rfl (ef_storeK rfl rfl rfl rfl) ?_
 rintro _ _ ⟨rfl, rfl⟩
 rw [moved_segs (f := o) (t := clk)]
 rw [tdel_kvT]
 refine Ops.nil ?_
 refine Ends.seq ?_
 refine Wp.seq ?_
 refine AnyH.start ((b2, .cells [.int .i64 s.1, .int .i64 s.2].toArray 31) :: trBlk tb mb :: []) 7 rfl ?_
 refine Tk 0 rfl rfl (pv_move rfl) rfl ?_
 refine Tk 1 rfl rfl (pv_nilCheck rfl) rfl ?_
 refine Tk 2 rfl rfl (pv_fieldAddr0 rfl rfl) rfl ?_
 refine Tk 3 rfl rfl (pv_load rfl rfl rfl) rfl ?_
 refine Tk 4 rfl rfl (pv_loadK [_, _] rfl rfl rfl ⟨rfl, rfl, trivial⟩) rfl ?_
 refine Tk 5 rfl rfl (pv_move rfl) rfl ?_
 refine AnyH.one 6 (by kernel_rfl) ?_
 refine Turn.ef rfl rfl (ef_mapUpdate_s _ rfl rfl rfl) ?_ ?_
 ·
  rintro _ _ ⟨rfl, rfl⟩; infer_instance
 rintro _ _ ⟨rfl, rfl⟩
 refine AnyH.done (by kernel_rfl) ?_
 refine Ends.seq ?_
 refine Wp.seq ?_
 refine Wp.region ?_
 refine Ops.pv (pv_assign rfl) rfl ?_
 refine Ops.nil ?_
 refine Ends.seq ?_
 refine Wp.ret ?_
 rw [tput_new (tdel_none h2), tclk_new (tdel_none h2)]
 have em : kvT blk (tdel o T.M) ++ [(s, .pointer (some ⟨blk i, 0, none⟩), clk)] = kvT blk (T.moved o s i clk).M := by simp [kvT, TreeM.moved]
 rw [em]
 exact Ends.ret (L' := trBlk tb mb :: mpBlk mb blk (T.moved o s i clk).M (clk + 1) :: segs (knS blk (T.moved o s i clk) kv kH) T.n) (res1 rfl rfl) ⟨rfl, clk, mb, clk + 1, blk, kv, kH, hk, rfl⟩
theorem tr_tMove (tb : Nat) (L : Hp) (T : TreeM) (hH : TrH T tb L) (hx : T.Ix) (o s : SlotM) : Tr Tryz.prog 93 [.pointer (some ⟨tb, 0, none⟩), slotV o, slotV s] L (fun u L' => ∃ e T', u = .int .i64 e ∧ TMove T o s e T' ∧ TrH T' tb L') := by
 cases h : tget o T.M with
 | none => exact (tr_tMove0 tb L T hH o s h).mono fun u L' ⟨hu, hl⟩ => ⟨3, T, hu, .inl ⟨h, rfl, rfl⟩, hl⟩
 | some i =>
  cases h2 : tget s T.M with
  | some j => exact (tr_tMove1 tb L T hH hx o s i j h h2).mono fun u L' ⟨hu, hl⟩ => ⟨4, T, hu, .inr ⟨i, h, .inl ⟨j, h2, rfl, rfl⟩⟩, hl⟩
  | none => exact (tr_tMove2 tb L T hH hx o s i h h2).mono fun u L' ⟨hu, t, hl⟩ => ⟨0, _, hu, .inr ⟨i, h, .inr ⟨h2, rfl, t, rfl⟩⟩, hl⟩
end Go.Proofs.YtdodfnjmkpgdbaaGreat
end
section
set_option linter.unusedVariables false
set_option linter.unusedSimpArgs false
namespace Go.Proofs.YtdodfnjmkpgdbaaGreat
open Go.SL
theorem tr_tDrop0 (tb : Nat) (L : Hp) (T : TreeM) (hH : TrH T tb L) (s : SlotM) (h : tget s T.M = none) : Tr Tryz.prog 96 [.pointer (some ⟨tb, 0, none⟩), slotV s] (L) (fun u L' => u = .int .i64 3 ∧ TrH T tb L') := by
 obtain ⟨mb, clk, blk, kv, kH, hk, rfl⟩ := hH
 have hm := tptr_hm blk T.M s
 rw [tptr_no h] at hm
 refine Tr.enter Tryz.func96 rfl Tryz.ntmps96 rfl (fun W F => ?_)
 refine Wp.app ?_
 refine Wp.seq ?_
 refine Wp.region ?_
 refine Ops.ef rfl (ef_boxK rfl rfl) ?_
 rintro _ _ ⟨b1, rfl, rfl⟩
 refine Ops.pv (pv_assign rfl) rfl ?_
 refine Ops.nil ?_
 refine Ends.seq ?_
 refine Wp.seq ?_
 refine AnyH.start ((b1, .cells [.int .i64 s.1, .int .i64 s.2].toArray 31) :: trBlk tb mb :: mpBlk mb blk T.M clk :: segs (knS blk T kv kH) T.n) 7 rfl ?_
 refine Tk 0 rfl rfl (pv_move rfl) rfl ?_
 refine Tk 1 rfl rfl (pv_nilCheck rfl) rfl ?_
 refine Tk 2 rfl rfl (pv_fieldAddr0 rfl rfl) rfl ?_
 refine Tk 3 rfl rfl (pv_load rfl rfl rfl) rfl ?_
 refine Tk 4 rfl rfl (pv_loadK [_, _] rfl rfl rfl ⟨rfl, rfl, trivial⟩) rfl ?_
 refine Tk 5 rfl rfl (pv_lookup_s s rfl rfl hm) rfl ?_
 refine Tk 6 rfl rfl (pv_assign rfl) rfl ?_
 refine AnyH.done (by kernel_rfl) ?_
 refine Ends.seq ?_
 refine Wp.seq ?_
 refine Wp.seq ?_
 refine Wp.region ?_
 refine Ops.pv (pv_move rfl) rfl ?_
 refine Ops.pv (pv_eql_nil rfl rfl) rfl ?_
 refine Ops.nil ?_
 refine Ends.seq ?_
 refine Wp.cond_true rfl ?_
 refine Wp.seq ?_
 refine Wp.region ?_
 refine Ops.pv (pv_assign rfl) rfl ?_
 refine Ops.nil ?_
 refine Ends.seq ?_
 refine Wp.ret ?_
 refine Ends.then_ret ?_
 exact Ends.ret (L' := trBlk tb mb :: mpBlk mb blk T.M clk :: segs (knS blk T kv kH) T.n) (res1 rfl rfl) ⟨rfl, mb, clk, blk, kv, kH, hk, rfl⟩
set_option maxHeartbeats 1000000 in
theorem tr_tDrop1 (tb : Nat) (L : Hp) (T : TreeM) (hH : TrH T tb L) (hx : T.Ix) (hn : T.n ≤ 2 ^ 20) (so : SlotM) (x : Nat) (h : tget so T.M = some x) (hxk : x ∉ T.kids x) (hp : T.par x = none) : Tr Tryz.prog 96 [.pointer (some ⟨tb, 0, none⟩), slotV so] (L) (fun u L' => u = .int .i64 0 ∧ TrH (T.gone so x) tb L') := by
 obtain ⟨mb, clk, blk, kv, kH, hk, rfl⟩ := hH
 have hm := tptr_hm blk T.M so
 rw [tptr_some h] at hm
 have hi := hx.get h
 obtain ⟨ka, kc, hkv⟩ := kn_form hk hi
 have hb_x := kn_blk (blk := blk) (T := T) (kv := kv) (kH := kH) (i := x) hi
 rw [hkv, hp] at hb_x
 have hlm : ((T.kids x).map blk).length = (T.kids x).length := List.length_map ..
 have hsx := hx.small x hi
 refine Tr.enter Tryz.func96 rfl Tryz.ntmps96 rfl (fun W F => ?_)
 refine Wp.app ?_
 refine Wp.seq ?_
 refine Wp.region ?_
 refine Ops.ef rfl (ef_boxK rfl rfl) ?_
 rintro _ _ ⟨b1, rfl, rfl⟩
 refine Ops.pv (pv_assign rfl) rfl ?_
 refine Ops.nil ?_
 refine Ends.seq ?_
 refine Wp.seq ?_
 refine AnyH.start ((b1, .cells [.int .i64 so.1, .int .i64 so.2].toArray 31) :: trBlk tb mb :: mpBlk mb blk T.M clk :: segs (knS blk T kv kH) T.n) 7 rfl ?_
 refine Tk 0 rfl rfl (pv_move rfl) rfl ?_
 refine Tk 1 rfl rfl (pv_nilCheck rfl) rfl ?_
 refine Tk 2 rfl rfl (pv_fieldAddr0 rfl rfl) rfl ?_
 refine Tk 3 rfl rfl (pv_load rfl rfl rfl) rfl ?_
 refine Tk 4 rfl rfl (pv_loadK [_, _] rfl rfl rfl ⟨rfl, rfl, trivial⟩) rfl ?_
 refine Tk 5 rfl rfl (pv_lookup_s so rfl rfl hm) rfl ?_
 refine Tk 6 rfl rfl (pv_assign rfl) rfl ?_
 refine AnyH.done (by kernel_rfl) ?_
 refine Ends.seq ?_
 refine Wp.seq ?_
 refine Wp.seq ?_
 refine Wp.region ?_
 refine Ops.pv (pv_move rfl) rfl ?_
 refine Ops.pv (pv_eql_nil rfl rfl) rfl ?_
 refine Ops.nil ?_
 refine Ends.seq ?_
 refine Wp.cond_false rfl ?_
 refine Wp.skip ?_
 refine Ends.seq ?_
 refine Wp.seq ?_
 refine Wp.seq ?_
 refine Wp.region ?_
 refine Ops.pv (pv_move rfl) rfl ?_
 refine Ops.pv (pv_nilCheck rfl) rfl ?_
 refine Ops.pv (pv_fieldAddr0 rfl rfl) rfl ?_
 refine Ops.pv (pv_load rfl rfl rfl) rfl ?_
 refine Ops.pv (pv_len_slice (T := 131) rfl rfl) rfl ?_
 refine Ops.pv (pv_move rfl) rfl ?_
 refine Ops.nil ?_
 refine Ends.seq ?_
 refine Wp.block ?_
 refine Wp.loopK (σ := Nat) [(0, _), (3, _), (5, _), (21, _), (22, _)] (fun s => [(23, .int .i64 s)]) (fun s => (b1, .cells [.int .i64 so.1, .int .i64 so.2].toArray 31) :: trBlk tb mb :: mpBlk mb blk T.M clk :: (segs (knS blk (T.dropK x s) kv kH) T.n ++ F)) (fun s => s ≤ (T.kids x).length) (fun s => (T.kids x).length - s) 0 (Nat.zero_le _) ⟨rfl, rfl, rfl, rfl, rfl, trivial⟩ ⟨rfl, trivial⟩ (by intro w ho; rw [dropK_zero]; exact Drop.own ho) ?_
 rintro k KK hkl hK
 dsimp only [List.cons_append, List.nil_append] at hK ⊢
 refine Wp.seq ?_
 refine Wp.region ?_
 refine Ops.pv (pv_lss rfl rfl) rfl ?_
 refine Ops.nil ?_
 refine Ends.seq ?_
 refine Wp.seq ?_
 refine Wp.cond_dect rfl (fun h1 => ?_) (fun h1 => ?_)
 ·
  clear hb_x
  have hv2 : View (segs (knS blk (T.dropK x k) kv kH) T.n) 1 (kv x) ((T.kids x).map blk).length (ptsC ((T.kids x).map blk)) := kn_view2 (T := T.dropK x k) (kv := kv) (kH := kH) (i := x) hk hi
  rw [hkv] at hv2
  obtain ⟨b, o, cap, cc, T0, f, hv1, hbv, hr⟩ := hv2.open (by show 0 < ((T.kids x).map blk).length; omega)
  cases hv1
  obtain ⟨q, hq⟩ : ∃ q, (T.kids x)[k]? = some q := ⟨_, List.getElem?_eq_getElem (by omega)⟩
  have hbq : ((T.kids x).map blk)[k]? = some (blk q) := by rw [List.getElem?_map, hq]; rfl
  have hqn := hx.kids x q hi (List.mem_of_getElem? hq)
  have hb_x : Blk (segs (knS blk (T.dropK x k) kv kH) T.n) (blk x) (.cells [.int .i64 (T.sl x).1, .int .i64 (T.sl x).2, ptrO blk ((T.dropK x k).par x), kv x].toArray 134 (0, 0)) := kn_blk (blk := blk) (T := T.dropK x k) (kv := kv) (kH := kH) (i := x) hi
  rw [dropK_par hxk, hp] at hb_x
  have hb_q : Blk (segs (knS blk (T.dropK x k) kv kH) T.n) (blk q) (.cells [.int .i64 (T.sl q).1, .int .i64 (T.sl q).2, ptrO blk ((T.dropK x k).par q), kv q].toArray 134 (0, 0)) := kn_blk (blk := blk) (T := T.dropK x k) (kv := kv) (kH := kH) (i := q) hqn
  have hupd := fun o1 => segs_upd (h := knS blk (T.dropK x k) kv kH) (o' := o1) hqn rfl
  have hds := dropK_succ (blk := blk) (kv := kv) (kH := kH) hq
  rw [hp] at hds
  refine Wp.skip ?_
  refine Ends.seq ?_
  refine Wp.seq ?_
  refine Wp.block ?_
  refine Wp.seq ?_
  refine Wp.region ?_
  refine Ops.pv (pv_indexAddr (i := k) rfl rfl rfl (by omega)) rfl ?_
  refine Ops.pv (pv_load rfl rfl (pts_nth hr hbq)) rfl ?_
  refine Ops.pv (pv_assign rfl) rfl ?_
  refine Ops.nil ?_
  refine Ends.seq ?_
  refine Wp.region ?_
  refine Ops.pv (pv_move rfl) rfl ?_
  refine Ops.pv (pv_move rfl) rfl ?_
  refine Ops.pv (pv_nilCheck rfl) rfl ?_
  refine Ops.pv (pv_fieldAddr0 rfl rfl) rfl ?_
  refine Ops.pv (pv_load rfl rfl rfl) rfl ?_
  refine Ops.pv (pv_nilCheck rfl) rfl ?_
  refine Ops.pv (pv_fieldAddr0 rfl rfl) rfl ?_
  refine Ops.ef rfl (ef_store1 rfl rfl (by first | rfl | assumption) (by first | rfl | assumption)) ?_
  rintro _ _ ⟨rfl, rfl⟩
  refine Ops.nil ?_
  refine Ends.block_normal ?_
  refine Ends.seq ?_
  refine Wp.region ?_
  refine Ops.pv (pv_add rfl rfl (w64 (by omega) (by omega))) rfl ?_
  refine Ops.pv (pv_move rfl) rfl ?_
  refine Ops.nil ?_
  refine Ends.goes ?_
  rw [hds]
  refine Goes.back (hK (k + 1) (by omega) (by omega)) ⟨rfl, rfl, rfl, rfl, rfl, rfl, trivial⟩
 clear hb_x
 obtain rfl : k = (T.kids x).length := by omega
 have hb_x : Blk (segs (knS blk (T.dropK x (T.kids x).length) kv kH) T.n) (blk x) (.cells [.int .i64 (T.sl x).1, .int .i64 (T.sl x).2, ptrO blk ((T.dropK x (T.kids x).length).par x), kv x].toArray 134 (0, 0)) := kn_blk (blk := blk) (T := T.dropK x (T.kids x).length) (kv := kv) (kH := kH) (i := x) hi
 rw [dropK_par hxk, hp, hkv] at hb_x
 refine Wp.exit ?_
 refine Ends.then_exit ?_
 refine Ends.then_exit ?_
 refine Ends.block_hit ?_
 refine Ends.seq ?_
 refine Wp.seq ?_
 refine Wp.seq ?_
 refine Wp.region ?_
 refine Ops.pv (pv_move rfl) rfl ?_
 refine Ops.pv (pv_nilCheck rfl) rfl ?_
 refine Ops.pv (pv_fieldAddr0 rfl rfl) rfl ?_
 refine Ops.pv (pv_load rfl rfl rfl) rfl ?_
 refine Ops.pv (pv_assign rfl) rfl ?_
 refine Ops.nil ?_
 refine Ends.seq ?_
 refine Wp.seq ?_
 refine Wp.region ?_
 refine Ops.pv (pv_move rfl) rfl ?_
 refine Ops.pv (pv_neq_nil rfl rfl) rfl ?_
 refine Ops.nil ?_
 refine Ends.seq ?_
 refine Wp.cond_false rfl ?_
 refine Wp.skip ?_
 refine Ends.seq ?_
 refine Wp.seq ?_
 refine AnyH.start ((b1, .cells [.int .i64 so.1, .int .i64 so.2].toArray 31) :: trBlk tb mb :: []) 6 rfl ?_
 refine Tk 0 rfl rfl (pv_move rfl) rfl ?_
 refine Tk 1 rfl rfl (pv_nilCheck rfl) rfl ?_
 refine Tk 2 rfl rfl (pv_fieldAddr0 rfl rfl) rfl ?_
 refine Tk 3 rfl rfl (pv_load rfl rfl rfl) rfl ?_
 refine Tk 4 rfl rfl (pv_loadK [_, _] rfl rfl rfl ⟨rfl, rfl, trivial⟩) rfl ?_
 refine AnyH.one 5 (by kernel_rfl) ?_
 refine Turn.ef rfl rfl (ef_deleten_s (T := 121) _ rfl rfl rfl) ?_ ?_
 ·
  rintro _ _ ⟨rfl, rfl⟩; infer_instance
 rintro _ _ ⟨rfl, rfl⟩
 refine AnyH.done (by kernel_rfl) ?_
 refine Ends.seq ?_
 refine Wp.seq ?_
 refine Wp.region ?_
 refine Ops.pv (pv_assign rfl) rfl ?_
 refine Ops.nil ?_
 refine Ends.seq ?_
 refine Wp.ret ?_
 rw [gone_none (s := so) hp, tdel_kvT]
 exact Ends.ret (L' := trBlk tb mb :: mpBlk mb blk (tdel so T.M) clk :: segs (knS blk (T.gone so x) kv kH) T.n) (res1 rfl rfl) ⟨rfl, mb, clk, blk, kv, kH, gone_none_ok hp hk, rfl⟩
set_option maxHeartbeats 1000000 in
theorem tr_tDrop2 (tb : Nat) (L : Hp) (T : TreeM) (hH : TrH T tb L) (hx : T.Ix) (hn : T.n ≤ 2 ^ 20) (so : SlotM) (x : Nat) (h : tget so T.M = some x) (hxk : x ∉ T.kids x) (j : Nat) (hp : T.par x = some j) (hxj : x ∈ T.kids j) : Tr Tryz.prog 96 [.pointer (some ⟨tb, 0, none⟩), slotV so] (L) (fun u L' => u = .int .i64 0 ∧ TrH (T.gone so x) tb L') := by
 obtain ⟨mb, clk, blk, kv, kH, hk, rfl⟩ := hH
 have hm := tptr_hm blk T.M so
 rw [tptr_some h] at hm
 have hi := hx.get h
 obtain ⟨ka, kc, hkv⟩ := kn_form hk hi
 have hb_x := kn_blk (blk := blk) (T := T) (kv := kv) (kH := kH) (i := x) hi
 rw [hkv, hp] at hb_x
 have hlm : ((T.kids x).map blk).length = (T.kids x).length := List.length_map ..
 have hsx := hx.small x hi
 have hj := hx.par x j hi hp
 obtain ⟨ja, jc, hjv⟩ := kn_form hk hj
 obtain ⟨p, hp1, hp2, hp3⟩ := repl_at (l := T.kids x) hxj
 have hpl := (List.getElem?_eq_some_iff.1 hp2).1
 have hsj := hx.small j hj
 have hlj : ((T.kids j).map blk).length = (T.kids j).length := List.length_map ..
 refine Tr.enter Tryz.func96 rfl Tryz.ntmps96 rfl (fun W F => ?_)
 refine Wp.app ?_
 refine Wp.seq ?_
 refine Wp.region ?_
 refine Ops.ef rfl (ef_boxK rfl rfl) ?_
 rintro _ _ ⟨b1, rfl, rfl⟩
 refine Ops.pv (pv_assign rfl) rfl ?_
 refine Ops.nil ?_
 refine Ends.seq ?_
 refine Wp.seq ?_
 refine AnyH.start ((b1, .cells [.int .i64 so.1, .int .i64 so.2].toArray 31) :: trBlk tb mb :: mpBlk mb blk T.M clk :: segs (knS blk T kv kH) T.n) 7 rfl ?_
 refine Tk 0 rfl rfl (pv_move rfl) rfl ?_
 refine Tk 1 rfl rfl (pv_nilCheck rfl) rfl ?_
 refine Tk 2 rfl rfl (pv_fieldAddr0 rfl rfl) rfl ?_
 refine Tk 3 rfl rfl (pv_load rfl rfl rfl) rfl ?_
 refine Tk 4 rfl rfl (pv_loadK [_, _] rfl rfl rfl ⟨rfl, rfl, trivial⟩) rfl ?_
 refine Tk 5 rfl rfl (pv_lookup_s so rfl rfl hm) rfl ?_
 refine Tk 6 rfl rfl (pv_assign rfl) rfl ?_
 refine AnyH.done (by kernel_rfl) ?_
 refine Ends.seq ?_
 refine Wp.seq ?_
 refine Wp.seq ?_
 refine Wp.region ?_
 refine Ops.pv (pv_move rfl) rfl ?_
 refine Ops.pv (pv_eql_nil rfl rfl) rfl ?_
 refine Ops.nil ?_
 refine Ends.seq ?_
 refine Wp.cond_false rfl ?_
 refine Wp.skip ?_
 refine Ends.seq ?_
 refine Wp.seq ?_
 refine Wp.seq ?_
 refine Wp.region ?_
 refine Ops.pv (pv_move rfl) rfl ?_
 refine Ops.pv (pv_nilCheck rfl) rfl ?_
 refine Ops.pv (pv_fieldAddr0 rfl rfl) rfl ?_
 refine Ops.pv (pv_load rfl rfl rfl) rfl ?_
 refine Ops.pv (pv_len_slice (T := 131) rfl rfl) rfl ?_
 refine Ops.pv (pv_move rfl) rfl ?_
 refine Ops.nil ?_
 refine Ends.seq ?_
 refine Wp.block ?_
 refine Wp.loopK (σ := Nat) [(0, _), (3, _), (5, _), (21, _), (22, _)] (fun s => [(23, .int .i64 s)]) (fun s => (b1, .cells [.int .i64 so.1, .int .i64 so.2].toArray 31) :: trBlk tb mb :: mpBlk mb blk T.M clk :: (segs (knS blk (T.dropK x s) kv kH) T.n ++ F)) (fun s => s ≤ (T.kids x).length) (fun s => (T.kids x).length - s) 0 (Nat.zero_le _) ⟨rfl, rfl, rfl, rfl, rfl, trivial⟩ ⟨rfl, trivial⟩ (by intro w ho; rw [dropK_zero]; exact Drop.own ho) ?_
 rintro k KK hkl hK
 dsimp only [List.cons_append, List.nil_append] at hK ⊢
 refine Wp.seq ?_
 refine Wp.region ?_
 refine Ops.pv (pv_lss rfl rfl) rfl ?_
 refine Ops.nil ?_
 refine Ends.seq ?_
 refine Wp.seq ?_
 refine Wp.cond_dect rfl (fun h1 => ?_) (fun h1 => ?_)
 ·
  clear hb_x
  have hv2 : View (segs (knS blk (T.dropK x k) kv kH) T.n) 1 (kv x) ((T.kids x).map blk).length (ptsC ((T.kids x).map blk)) := kn_view2 (T := T.dropK x k) (kv := kv) (kH := kH) (i := x) hk hi
  rw [hkv] at hv2
  obtain ⟨b, o, cap, cc, T0, f, hv1, hbv, hr⟩ := hv2.open (by show 0 < ((T.kids x).map blk).length; omega)
  cases hv1
  obtain ⟨q, hq⟩ : ∃ q, (T.kids x)[k]? = some q := ⟨_, List.getElem?_eq_getElem (by omega)⟩
  have hbq : ((T.kids x).map blk)[k]? = some (blk q) := by rw [List.getElem?_map, hq]; rfl
  have hqn := hx.kids x q hi (List.mem_of_getElem? hq)
  have hb_x : Blk (segs (knS blk (T.dropK x k) kv kH) T.n) (blk x) (.cells [.int .i64 (T.sl x).1, .int .i64 (T.sl x).2, ptrO blk ((T.dropK x k).par x), kv x].toArray 134 (0, 0)) := kn_blk (blk := blk) (T := T.dropK x k) (kv := kv) (kH := kH) (i := x) hi
  rw [dropK_par hxk, hp] at hb_x
  have hb_q : Blk (segs (knS blk (T.dropK x k) kv kH) T.n) (blk q) (.cells [.int .i64 (T.sl q).1, .int .i64 (T.sl q).2, ptrO blk ((T.dropK x k).par q), kv q].toArray 134 (0, 0)) := kn_blk (blk := blk) (T := T.dropK x k) (kv := kv) (kH := kH) (i := q) hqn
  have hupd := fun o1 => segs_upd (h := knS blk (T.dropK x k) kv kH) (o' := o1) hqn rfl
  have hds := dropK_succ (blk := blk) (kv := kv) (kH := kH) hq
  rw [hp] at hds
  refine Wp.skip ?_
  refine Ends.seq ?_
  refine Wp.seq ?_
  refine Wp.block ?_
  refine Wp.seq ?_
  refine Wp.region ?_
  refine Ops.pv (pv_indexAddr (i := k) rfl rfl rfl (by omega)) rfl ?_
  refine Ops.pv (pv_load rfl rfl (pts_nth hr hbq)) rfl ?_
  refine Ops.pv (pv_assign rfl) rfl ?_
  refine Ops.nil ?_
  refine Ends.seq ?_
  refine Wp.region ?_
  refine Ops.pv (pv_move rfl) rfl ?_
  refine Ops.pv (pv_move rfl) rfl ?_
  refine Ops.pv (pv_nilCheck rfl) rfl ?_
  refine Ops.pv (pv_fieldAddr0 rfl rfl) rfl ?_
  refine Ops.pv (pv_load rfl rfl rfl) rfl ?_
  refine Ops.pv (pv_nilCheck rfl) rfl ?_
  refine Ops.pv (pv_fieldAddr0 rfl rfl) rfl ?_
  refine Ops.ef rfl (ef_store1 rfl rfl (by first | rfl | assumption) (by first | rfl | assumption)) ?_
  rintro _ _ ⟨rfl, rfl⟩
  refine Ops.nil ?_
  refine Ends.block_normal ?_
  refine Ends.seq ?_
  refine Wp.region ?_
  refine Ops.pv (pv_add rfl rfl (w64 (by omega) (by omega))) rfl ?_
  refine Ops.pv (pv_move rfl) rfl ?_
  refine Ops.nil ?_
  refine Ends.goes ?_
  rw [hds]
  refine Goes.back (hK (k + 1) (by omega) (by omega)) ⟨rfl, rfl, rfl, rfl, rfl, rfl, trivial⟩
 clear hb_x
 obtain rfl : k = (T.kids x).length := by omega
 have hb_x : Blk (segs (knS blk (T.dropK x (T.kids x).length) kv kH) T.n) (blk x) (.cells [.int .i64 (T.sl x).1, .int .i64 (T.sl x).2, ptrO blk ((T.dropK x (T.kids x).length).par x), kv x].toArray 134 (0, 0)) := kn_blk (blk := blk) (T := T.dropK x (T.kids x).length) (kv := kv) (kH := kH) (i := x) hi
 rw [dropK_par hxk, hp, hkv] at hb_x
 have hb_j : Blk (segs (knS blk (T.dropK x (T.kids x).length) kv kH) T.n) (blk j) (.cells [.int .i64 (T.sl j).1, .int .i64 (T.sl j).2, ptrO blk ((T.dropK x (T.kids x).length).par j), kv j].toArray 134 (0, 0)) := kn_blk (blk := blk) (T := T.dropK x (T.kids x).length) (kv := kv) (kH := kH) (i := j) hj
 rw [hjv] at hb_j
 have hvj : View (segs (knS blk (T.dropK x (T.kids x).length) kv kH) T.n) 1 (kv j) ((T.kids j).map blk).length (ptsC ((T.kids j).map blk)) := kn_view2 (T := T.dropK x (T.kids x).length) (kv := kv) (kH := kH) (i := j) hk hj
 rw [hjv] at hvj
 have hvx : View (segs (knS blk (T.dropK x (T.kids x).length) kv kH) T.n) 1 (kv x) ((T.kids x).map blk).length (ptsC ((T.kids x).map blk)) := kn_view2 (T := T.dropK x (T.kids x).length) (kv := kv) (kH := kH) (i := x) hk hi
 rw [hkv] at hvx
 have hA := View.part (f := ptrE) (l := (T.kids j).map blk) hvj (i := 0) (j := p) (Nat.zero_le _) (by omega)
 have hB := View.part (f := ptrE) (l := (T.kids j).map blk) hvj (i := p + 1) (j := ((T.kids j).map blk).length) (by omega) (Nat.le_refl _)
 have eA : (((T.kids j).map blk).drop 0).take (p - 0) = ((T.kids j).map blk).take p := by simp
 have eB : (((T.kids j).map blk).drop (p + 1)).take (((T.kids j).map blk).length - (p + 1)) = ((T.kids j).map blk).drop (p + 1) := List.take_of_length_le (by simp)
 rw [eA] at hA
 rw [eB] at hB
 have lA : (((T.kids j).map blk).take p).length = p := by rw [List.length_take]; omega
 have lB : (((T.kids j).map blk).drop (p + 1)).length = ((T.kids j).map blk).length - (p + 1) := List.length_drop ..
 have hjc : ((T.kids j).map blk).length ≤ jc := by obtain ⟨_, _, _, e, h, _⟩ := hvj; cases e; exact h
 refine Wp.exit ?_
 refine Ends.then_exit ?_
 refine Ends.then_exit ?_
 refine Ends.block_hit ?_
 refine Ends.seq ?_
 refine Wp.seq ?_
 refine Wp.seq ?_
 refine Wp.region ?_
 refine Ops.pv (pv_move rfl) rfl ?_
 refine Ops.pv (pv_nilCheck rfl) rfl ?_
 refine Ops.pv (pv_fieldAddr0 rfl rfl) rfl ?_
 refine Ops.pv (pv_load rfl rfl rfl) rfl ?_
 refine Ops.pv (pv_assign rfl) rfl ?_
 refine Ops.nil ?_
 refine Ends.seq ?_
 refine Wp.seq ?_
 refine Wp.region ?_
 refine Ops.pv (pv_move rfl) rfl ?_
 refine Ops.pv (pv_neq_nil rfl rfl) rfl ?_
 refine Ops.nil ?_
 refine Ends.seq ?_
 refine Wp.cond_true rfl ?_
 refine Wp.seq ?_
 refine Wp.region ?_
 refine Ops.ndD (segs (knS blk (T.dropK x (T.kids x).length) kv kH) T.n) fun hnd => ?_
 have hinj := segs_inj (fun i => rfl) hnd
 clear hnd
 have hupd2 := fun o1 => segs_upd (h := knS blk (T.dropK x (T.kids x).length) kv kH) (o' := o1) hj rfl
 refine Ops.pv (pv_move rfl) rfl ?_
 refine Ops.pv (pv_nilCheck rfl) rfl ?_
 refine Ops.pv (pv_fieldAddr0 rfl rfl) rfl ?_
 refine Ops.pv (pv_load rfl rfl rfl) rfl ?_
 refine Ops.pv (pv_move rfl) rfl ?_
 refine Ops.ef rfl (ef_callr ((tr_index (segs (knS blk (T.dropK x (T.kids x).length) kv kH) T.n) ja jc ((T.kids j).map blk) (blk x) hvj (by omega) (fun b hb => by obtain ⟨a, ha, rfl⟩ := List.mem_map.1 hb; exact kn_isC (hx.kids j a hj ha)) (kn_isC hi)).eq (r' := .int .i64 p) (by rw [idxN_map blk (fun a ha e => hinj a x (hx.kids j a hj ha) hi e), hp1])) rfl rfl) ?_
 rintro _ _ ⟨rfl, rfl⟩
 refine Ops.pv (pv_assign rfl) rfl ?_
 refine Ops.nil ?_
 refine Ends.seq ?_
 refine AnyH.start ([] : Hp) 23 rfl ?_
 refine Tk 0 rfl rfl (pv_move rfl) rfl ?_
 refine Tk 1 rfl rfl (pv_move rfl) rfl ?_
 refine Tk 2 rfl rfl (pv_nilCheck rfl) rfl ?_
 refine Tk 3 rfl rfl (pv_fieldAddr0 rfl rfl) rfl ?_
 refine Tk 5 rfl rfl (pv_move rfl) rfl ?_
 refine Tk 7 rfl rfl (pv_move rfl) rfl ?_
 refine Tk 8 rfl rfl (pv_nilCheck rfl) rfl ?_
 refine Tk 9 rfl rfl (pv_fieldAddr0 rfl rfl) rfl ?_
 refine Tk 11 rfl rfl (pv_move rfl) rfl ?_
 refine Tk 12 rfl rfl (pv_nilCheck rfl) rfl ?_
 refine Tk 13 rfl rfl (pv_fieldAddr0 rfl rfl) rfl ?_
 refine Tk 15 rfl rfl (pv_move rfl) rfl ?_
 refine Tk 16 rfl rfl (pv_add rfl rfl (w64n (k := p + 1) (by omega) (by omega))) rfl ?_
 refine AnyH.three 4 10 14 (by kernel_rfl) ?_ ?_ ?_
 ·
  refine Turn.ef rfl rfl (ef_pv (pv_load rfl rfl rfl) rfl) ?_ ?_
  ·
   rintro _ _ ⟨rfl, rfl⟩; infer_instance
  rintro _ _ ⟨rfl, rfl⟩
  refine Tk 6 rfl rfl (pv_sliceL (i := 0) (j := p) (r := (((T.kids j).map blk).take p).length) rfl rfl ⟨_, rfl⟩ (Nat.zero_le _) (by omega) lA.symm) rfl ?_
  refine AnyH.two 10 14 (by kernel_rfl) ?_ ?_
  ·
   refine Turn.ef rfl rfl (ef_pv (pv_load rfl rfl rfl) rfl) ?_ ?_
   ·
    rintro _ _ ⟨rfl, rfl⟩; infer_instance
   rintro _ _ ⟨rfl, rfl⟩
   refine AnyH.one 14 (by kernel_rfl) ?_
   refine Turn.ef rfl rfl (ef_pv (pv_load rfl rfl rfl) rfl) ?_ ?_
   ·
    rintro _ _ ⟨rfl, rfl⟩; infer_instance
   rintro _ _ ⟨rfl, rfl⟩
   refine Tk 17 rfl rfl (pv_sliceL (i := p + 1) (j := ((T.kids j).map blk).length) (r := (((T.kids j).map blk).drop (p + 1)).length) rfl ⟨_, rfl⟩ rfl (by omega) hjc lB.symm) rfl ?_
   refine AnyH.one 18 (by kernel_rfl) ?_
   refine Turn.ef rfl rfl (ef_buildSliceN [.slice none 0 0, .slice none 0 0, .slice none 0 0] [(0, 1), (1, 1), (2, 1)] rfl (by kernel_rfl) (by first | decide | rfl) rfl rfl rfl) ?_ ?_
   ·
    rintro _ _ ⟨b2, rfl, rfl⟩; infer_instance
   rintro _ _ ⟨b2, rfl, rfl⟩
   refine AnyH.one 19 (by kernel_rfl) ?_
   refine Turn.ef rfl rfl (ef_call (tr_concat3 (segs (knS blk (T.dropK x (T.kids x).length) kv kH) T.n) b2 3 _ _ _ _ _ _ (((T.kids j).map blk).take p) ((T.kids x).map blk) (((T.kids j).map blk).drop (p + 1)) hA hvx hB (by simp only [List.length_append]; omega)) rfl rfl) ?_ ?_
   ·
    rintro _ _ ⟨_, _, ⟨K1, hu1, rfl⟩, rfl, rfl⟩; infer_instance
   rintro _ _ ⟨_, _, ⟨K1, hu1, rfl⟩, rfl, rfl⟩
   refine AnyH.app ?_
   rename_i u1
   have ho1 := hu1.one
   have ho2 := hu1.cells1
   refine Tk 20 rfl rfl (pv_nilCheck rfl) rfl ?_
   refine Tk 21 rfl rfl (pv_fieldAddr0 rfl rfl) rfl ?_
   refine AnyH.one 22 (by kernel_rfl) ?_
   refine Turn.ef rfl rfl (ef_store1 rfl rfl (by first | rfl | assumption) (by first | rfl | assumption)) ?_ ?_
   ·
    rintro _ _ ⟨rfl, rfl⟩; infer_instance
   rintro _ _ ⟨rfl, rfl⟩
   refine AnyH.done (by kernel_rfl) ?_
   refine Ends.seq ?_
   refine Wp.seq ?_
   refine AnyH.start ((b1, .cells [.int .i64 so.1, .int .i64 so.2].toArray 31) :: trBlk tb mb :: []) 6 rfl ?_
   refine Tk 0 rfl rfl (pv_move rfl) rfl ?_
   refine Tk 1 rfl rfl (pv_nilCheck rfl) rfl ?_
   refine Tk 2 rfl rfl (pv_fieldAddr0 rfl rfl) rfl ?_
   refine Tk 3 rfl rfl (pv_load rfl rfl rfl) rfl ?_
   refine Tk 4 rfl rfl (pv_loadK [_, _] rfl rfl rfl ⟨rfl, rfl, trivial⟩) rfl ?_
   refine AnyH.one 5 (by kernel_rfl) ?_
   refine Turn.ef rfl rfl (ef_deleten_s (T := 121) _ rfl rfl rfl) ?_ ?_
   ·
    rintro _ _ ⟨rfl, rfl⟩; infer_instance
   rintro _ _ ⟨rfl, rfl⟩
   refine AnyH.done (by kernel_rfl) ?_
   refine Ends.seq ?_
   refine Wp.seq ?_
   refine Wp.region ?_
   refine Ops.pv (pv_assign rfl) rfl ?_
   refine Ops.nil ?_
   refine Ends.seq ?_
   refine Wp.ret ?_
   rw [tdel_kvT]
   refine Ends.heap (L' := trBlk tb mb :: mpBlk mb blk (tdel so T.M) clk :: (segs (fset (knS blk (T.dropK x (T.kids x).length) kv kH) j ((blk j, .cells [.int .i64 (T.sl j).1, .int .i64 (T.sl j).2, ptrO blk ((T.dropK x (T.kids x).length).par j), u1].toArray 134) :: K1)) T.n ++ F)) (fun w ho => ?_) ?_
   ·
    have h2 : Own W w (K1 ++ (segs (fset (knS blk (T.dropK x (T.kids x).length) kv kH) j ((blk j, .cells [.int .i64 (T.sl j).1, .int .i64 (T.sl j).2, ptrO blk ((T.dropK x (T.kids x).length).par j), u1].toArray 134) :: kH j)) T.n ++ (trBlk tb mb :: mpBlk mb blk (tdel so T.M) clk :: F))) := Drop.own ho
    have h3 := Own.swapSeg hj h2
    exact (Drop.own h3 : Own W w (trBlk tb mb :: mpBlk mb blk (tdel so T.M) clk :: (segs (fset (knS blk (T.dropK x (T.kids x).length) kv kH) j ((blk j, .cells [.int .i64 (T.sl j).1, .int .i64 (T.sl j).2, ptrO blk ((T.dropK x (T.kids x).length).par j), u1].toArray 134) :: K1)) T.n ++ F)))
   rw [gone_some (s := so) hp]
   exact Ends.ret (L' := trBlk tb mb :: mpBlk mb blk (tdel so T.M) clk :: segs (knS blk (T.gone so x) (fset kv j u1) (fset kH j K1)) T.n) (res1 rfl rfl) ⟨rfl, mb, clk, blk, _, _, gone_some_ok hp hk (by rw [hp3, ← List.length_map (f := blk), List.map_append, List.map_append, List.map_take, List.map_drop]; exact hu1), rfl⟩
  refine Turn.ef rfl rfl (ef_pv (pv_load rfl rfl rfl) rfl) ?_ ?_
  ·
   rintro _ _ ⟨rfl, rfl⟩; infer_instance
  rintro _ _ ⟨rfl, rfl⟩
  refine Tk 17 rfl rfl (pv_sliceL (i := p + 1) (j := ((T.kids j).map blk).length) (r := (((T.kids j).map blk).drop (p + 1)).length) rfl ⟨_, rfl⟩ rfl (by omega) hjc lB.symm) rfl ?_
  refine AnyH.one 10 (by kernel_rfl) ?_
  refine Turn.ef rfl rfl (ef_pv (pv_load rfl rfl rfl) rfl) ?_ ?_
  ·
   rintro _ _ ⟨rfl, rfl⟩; infer_instance
  rintro _ _ ⟨rfl, rfl⟩
  refine AnyH.one 18 (by kernel_rfl) ?_
  refine Turn.ef rfl rfl (ef_buildSliceN [.slice none 0 0, .slice none 0 0, .slice none 0 0] [(0, 1), (1, 1), (2, 1)] rfl (by kernel_rfl) (by first | decide | rfl) rfl rfl rfl) ?_ ?_
  ·
   rintro _ _ ⟨b3, rfl, rfl⟩; infer_instance
  rintro _ _ ⟨b3, rfl, rfl⟩
  refine AnyH.one 19 (by kernel_rfl) ?_
  refine Turn.ef rfl rfl (ef_call (tr_concat3 (segs (knS blk (T.dropK x (T.kids x).length) kv kH) T.n) b3 3 _ _ _ _ _ _ (((T.kids j).map blk).take p) ((T.kids x).map blk) (((T.kids j).map blk).drop (p + 1)) hA hvx hB (by simp only [List.length_append]; omega)) rfl rfl) ?_ ?_
  ·
   rintro _ _ ⟨_, _, ⟨K2, hu2, rfl⟩, rfl, rfl⟩; infer_instance
  rintro _ _ ⟨_, _, ⟨K2, hu2, rfl⟩, rfl, rfl⟩
  refine AnyH.app ?_
  rename_i u2
  have ho1 := hu2.one
  have ho2 := hu2.cells1
  refine Tk 20 rfl rfl (pv_nilCheck rfl) rfl ?_
  refine Tk 21 rfl rfl (pv_fieldAddr0 rfl rfl) rfl ?_
  refine AnyH.one 22 (by kernel_rfl) ?_
  refine Turn.ef rfl rfl (ef_store1 rfl rfl (by first | rfl | assumption) (by first | rfl | assumption)) ?_ ?_
  ·
   rintro _ _ ⟨rfl, rfl⟩; infer_instance
  rintro _ _ ⟨rfl, rfl⟩
  refine AnyH.done (by kernel_rfl) ?_
  refine Ends.seq ?_
  refine Wp.seq ?_
  refine AnyH.start ((b1, .cells [.int .i64 so.1, .int .i64 so.2].toArray 31) :: trBlk tb mb :: []) 6 rfl ?_
  refine Tk 0 rfl rfl (pv_move rfl) rfl ?_
  refine Tk 1 rfl rfl (pv_nilCheck rfl) rfl ?_
  refine Tk 2 rfl rfl (pv_fieldAddr0 rfl rfl) rfl ?_
  refine Tk 3 rfl rfl (pv_load rfl rfl rfl) rfl ?_
  refine Tk 4 rfl rfl (pv_loadK [_, _] rfl rfl rfl ⟨rfl, rfl, trivial⟩) rfl ?_
  refine AnyH.one 5 (by kernel_rfl) ?_
  refine Turn.ef rfl rfl (ef_deleten_s (T := 121) _ rfl rfl rfl) ?_ ?_
  ·
   rintro _ _ ⟨rfl, rfl⟩; infer_instance
  rintro _ _ ⟨rfl, rfl⟩
  refine AnyH.done (by kernel_rfl) ?_
  refine Ends.seq ?_
  refine Wp.seq ?_
  refine Wp.region ?_
  refine Ops.pv (pv_assign rfl) rfl ?_
  refine Ops.nil ?_
  refine Ends.seq ?_
  refine Wp.ret ?_
  rw [tdel_kvT]
  refine Ends.heap (L' := trBlk tb mb :: mpBlk mb blk (tdel so T.M) clk :: (segs (fset (knS blk (T.dropK x (T.kids x).length) kv kH) j ((blk j, .cells [.int .i64 (T.sl j).1, .int .i64 (T.sl j).2, ptrO blk ((T.dropK x (T.kids x).length).par j), u2].toArray 134) :: K2)) T.n ++ F)) (fun w ho => ?_) ?_
  ·
   have h2 : Own W w (K2 ++ (segs (fset (knS blk (T.dropK x (T.kids x).length) kv kH) j ((blk j, .cells [.int .i64 (T.sl j).1, .int .i64 (T.sl j).2, ptrO blk ((T.dropK x (T.kids x).length).par j), u2].toArray 134) :: kH j)) T.n ++ (trBlk tb mb :: mpBlk mb blk (tdel so T.M) clk :: F))) := Drop.own ho
   have h3 := Own.swapSeg hj h2
   exact (Drop.own h3 : Own W w (trBlk tb mb :: mpBlk mb blk (tdel so T.M) clk :: (segs (fset (knS blk (T.dropK x (T.kids x).length) kv kH) j ((blk j, .cells [.int .i64 (T.sl j).1, .int .i64 (T.sl j).2, ptrO blk ((T.dropK x (T.kids x).length).par j), u2].toArray 134) :: K2)) T.n ++ F)))
  rw [gone_some (s := so) hp]
  exact Ends.ret (L' := trBlk tb mb :: mpBlk mb blk (tdel so T.M) clk :: segs (knS blk (T.gone so x) (fset kv j u2) (fset kH j K2)) T.n) (res1 rfl rfl) ⟨rfl, mb, clk, blk, _, _, gone_some_ok hp hk (by rw [hp3, ← List.length_map (f := blk), List.map_append, List.map_append, List.map_take, List.map_drop]; exact hu2), rfl⟩
 ·
  refine Turn.ef rfl rfl (ef_pv (pv_load rfl rfl rfl) rfl) ?_ ?_
  ·
   rintro _ _ ⟨rfl, rfl⟩; infer_instance
  rintro _ _ ⟨rfl, rfl⟩
  refine AnyH.two 4 14 (by kernel_rfl) ?_ ?_
  ·
   refine Turn.ef rfl rfl (ef_pv (pv_load rfl rfl rfl) rfl) ?_ ?_
   ·
    rintro _ _ ⟨rfl, rfl⟩; infer_instance
   rintro _ _ ⟨rfl, rfl⟩
   refine Tk 6 rfl rfl (pv_sliceL (i := 0) (j := p) (r := (((T.kids j).map blk).take p).length) rfl rfl ⟨_, rfl⟩ (Nat.zero_le _) (by omega) lA.symm) rfl ?_
   refine AnyH.one 14 (by kernel_rfl) ?_
   refine Turn.ef rfl rfl (ef_pv (pv_load rfl rfl rfl) rfl) ?_ ?_
   ·
    rintro _ _ ⟨rfl, rfl⟩; infer_instance
   rintro _ _ ⟨rfl, rfl⟩
   refine Tk 17 rfl rfl (pv_sliceL (i := p + 1) (j := ((T.kids j).map blk).length) (r := (((T.kids j).map blk).drop (p + 1)).length) rfl ⟨_, rfl⟩ rfl (by omega) hjc lB.symm) rfl ?_
   refine AnyH.one 18 (by kernel_rfl) ?_
   refine Turn.ef rfl rfl (ef_buildSliceN [.slice none 0 0, .slice none 0 0, .slice none 0 0] [(0, 1), (1, 1), (2, 1)] rfl (by kernel_rfl) (by first | decide | rfl) rfl rfl rfl) ?_ ?_
   ·
    rintro _ _ ⟨b4, rfl, rfl⟩; infer_instance
   rintro _ _ ⟨b4, rfl, rfl⟩
   refine AnyH.one 19 (by kernel_rfl) ?_
   refine Turn.ef rfl rfl (ef_call (tr_concat3 (segs (knS blk (T.dropK x (T.kids x).length) kv kH) T.n) b4 3 _ _ _ _ _ _ (((T.kids j).map blk).take p) ((T.kids x).map blk) (((T.kids j).map blk).drop (p + 1)) hA hvx hB (by simp only [List.length_append]; omega)) rfl rfl) ?_ ?_
   ·
    rintro _ _ ⟨_, _, ⟨K3, hu3, rfl⟩, rfl, rfl⟩; infer_instance
   rintro _ _ ⟨_, _, ⟨K3, hu3, rfl⟩, rfl, rfl⟩
   refine AnyH.app ?_
   rename_i u3
   have ho1 := hu3.one
   have ho2 := hu3.cells1
   refine Tk 20 rfl rfl (pv_nilCheck rfl) rfl ?_
   refine Tk 21 rfl rfl (pv_fieldAddr0 rfl rfl) rfl ?_
   refine AnyH.one 22 (by kernel_rfl) ?_
   refine Turn.ef rfl rfl (ef_store1 rfl rfl (by first | rfl | assumption) (by first | rfl | assumption)) ?_ ?_
   ·
    rintro _ _ ⟨rfl, rfl⟩; infer_instance
   rintro _ _ ⟨rfl, rfl⟩
   refine AnyH.done (by kernel_rfl) ?_
   refine Ends.seq ?_
   refine Wp.seq ?_
   refine AnyH.start ((b1, .cells [.int .i64 so.1, .int .i64 so.2].toArray 31) :: trBlk tb mb :: []) 6 rfl ?_
   refine Tk 0 rfl rfl (pv_move rfl) rfl ?_
   refine Tk 1 rfl rfl (pv_nilCheck rfl) rfl ?_
   refine Tk 2 rfl rfl (pv_fieldAddr0 rfl rfl) rfl ?_
   refine Tk 3 rfl rfl (pv_load rfl rfl rfl) rfl ?_
   refine Tk 4 rfl rfl (pv_loadK [_, _] rfl rfl rfl ⟨rfl, rfl, trivial⟩) rfl ?_
   refine AnyH.one 5 (by kernel_rfl) ?_
   refine Turn.ef rfl rfl (ef_deleten_s (T := 121) _ rfl rfl rfl) ?_ ?_
   ·
    rintro _ _ ⟨rfl, rfl⟩; infer_instance
   rintro _ _ ⟨rfl, rfl⟩
   refine AnyH.done (by kernel_rfl) ?_
   refine Ends.seq ?_
   refine Wp.seq ?_
   refine Wp.region ?_
   refine Ops.pv (pv_assign rfl) rfl ?_
   refine Ops.nil ?_
   refine Ends.seq ?_
   refine Wp.ret ?_
   rw [tdel_kvT]
   refine Ends.heap (L' := trBlk tb mb :: mpBlk mb blk (tdel so T.M) clk :: (segs (fset (knS blk (T.dropK x (T.kids x).length) kv kH) j ((blk j, .cells [.int .i64 (T.sl j).1, .int .i64 (T.sl j).2, ptrO blk ((T.dropK x (T.kids x).length).par j), u3].toArray 134) :: K3)) T.n ++ F)) (fun w ho => ?_) ?_
   ·
    have h2 : Own W w (K3 ++ (segs (fset (knS blk (T.dropK x (T.kids x).length) kv kH) j ((blk j, .cells [.int .i64 (T.sl j).1, .int .i64 (T.sl j).2, ptrO blk ((T.dropK x (T.kids x).length).par j), u3].toArray 134) :: kH j)) T.n ++ (trBlk tb mb :: mpBlk mb blk (tdel so T.M) clk :: F))) := Drop.own ho
    have h3 := Own.swapSeg hj h2
    exact (Drop.own h3 : Own W w (trBlk tb mb :: mpBlk mb blk (tdel so T.M) clk :: (segs (fset (knS blk (T.dropK x (T.kids x).length) kv kH) j ((blk j, .cells [.int .i64 (T.sl j).1, .int .i64 (T.sl j).2, ptrO blk ((T.dropK x (T.kids x).length).par j), u3].toArray 134) :: K3)) T.n ++ F)))
   rw [gone_some (s := so) hp]
   exact Ends.ret (L' := trBlk tb mb :: mpBlk mb blk (tdel so T.M) clk :: segs (knS blk (T.gone so x) (fset kv j u3) (fset kH j K3)) T.n) (res1 rfl rfl) ⟨rfl, mb, clk, blk, _, _, gone_some_ok hp hk (by rw [hp3, ← List.length_map (f := blk), List.map_append, List.map_append, List.map_take, List.map_drop]; exact hu3), rfl⟩
  refine Turn.ef rfl rfl (ef_pv (pv_load rfl rfl rfl) rfl) ?_ ?_
  ·
   rintro _ _ ⟨rfl, rfl⟩; infer_instance
  rintro _ _ ⟨rfl, rfl⟩
  refine Tk 17 rfl rfl (pv_sliceL (i := p + 1) (j := ((T.kids j).map blk).length) (r := (((T.kids j).map blk).drop (p + 1)).length) rfl ⟨_, rfl⟩ rfl (by omega) hjc lB.symm) rfl ?_
  refine AnyH.one 4 (by kernel_rfl) ?_
  refine Turn.ef rfl rfl (ef_pv (pv_load rfl rfl rfl) rfl) ?_ ?_
  ·
   rintro _ _ ⟨rfl, rfl⟩; infer_instance
  rintro _ _ ⟨rfl, rfl⟩
  refine Tk 6 rfl rfl (pv_sliceL (i := 0) (j := p) (r := (((T.kids j).map blk).take p).length) rfl rfl ⟨_, rfl⟩ (Nat.zero_le _) (by omega) lA.symm) rfl ?_
  refine AnyH.one 18 (by kernel_rfl) ?_
  refine Turn.ef rfl rfl (ef_buildSliceN [.slice none 0 0, .slice none 0 0, .slice none 0 0] [(0, 1), (1, 1), (2, 1)] rfl (by kernel_rfl) (by first | decide | rfl) rfl rfl rfl) ?_ ?_
  ·
   rintro _ _ ⟨b5, rfl, rfl⟩; infer_instance
  rintro _ _ ⟨b5, rfl, rfl⟩
  refine AnyH.one 19 (by kernel_rfl) ?_
  refine Turn.ef rfl rfl (ef_call (tr_concat3 (segs (knS blk (T.dropK x (T.kids x).length) kv kH) T.n) b5 3 _ _ _ _ _ _ (((T.kids j).map blk).take p) ((T.kids x).map blk) (((T.kids j).map blk).drop (p + 1)) hA hvx hB (by simp only [List.length_append]; omega)) rfl rfl) ?_ ?_
  ·
   rintro _ _ ⟨_, _, ⟨K4, hu4, rfl⟩, rfl, rfl⟩; infer_instance
  rintro _ _ ⟨_, _, ⟨K4, hu4, rfl⟩, rfl, rfl⟩
  refine AnyH.app ?_
  rename_i u4
  have ho1 := hu4.one
  have ho2 := hu4.cells1
  refine Tk 20 rfl rfl (pv_nilCheck rfl) rfl ?_
  refine Tk 21 rfl rfl (pv_fieldAddr0 rfl rfl) rfl ?_
  refine AnyH.one 22 (by kernel_rfl) ?_
  refine Turn.ef rfl rfl (ef_store1 rfl rfl (by first | rfl | assumption) (by first | rfl | assumption)) ?_ ?_
  ·
   rintro _ _ ⟨rfl, rfl⟩; infer_instance
  rintro _ _ ⟨rfl, rfl⟩
  refine AnyH.done (by kernel_rfl) ?_
  refine Ends.seq ?_
  refine Wp.seq ?_
  refine AnyH.start ((b1, .cells [.int .i64 so.1, .int .i64 so.2].toArray 31) :: trBlk tb mb :: []) 6 rfl ?_
  refine Tk 0 rfl rfl (pv_move rfl) rfl ?_
  refine Tk 1 rfl rfl (pv_nilCheck rfl) rfl ?_
  refine Tk 2 rfl rfl (pv_fieldAddr0 rfl rfl) rfl ?_
  refine Tk 3 rfl rfl (pv_load rfl rfl rfl) rfl ?_
  refine Tk 4 rfl rfl (pv_loadK [_, _] rfl rfl rfl ⟨rfl, rfl, trivial⟩) rfl ?_
  refine AnyH.one 5 (by kernel_rfl) ?_
  refine Turn.ef rfl rfl (ef_deleten_s (T := 121) _ rfl rfl rfl) ?_ ?_
  ·
   rintro _ _ ⟨rfl, rfl⟩; infer_instance
  rintro _ _ ⟨rfl, rfl⟩
  refine AnyH.done (by kernel_rfl) ?_
  refine Ends.seq ?_
  refine Wp.seq ?_
  refine Wp.region ?_
  refine Ops.pv (pv_assign rfl) rfl ?_
  refine Ops.nil ?_
  refine Ends.seq ?_
  refine Wp.ret ?_
  rw [tdel_kvT]
  refine Ends.heap (L' := trBlk tb mb :: mpBlk mb blk (tdel so T.M) clk :: (segs (fset (knS blk (T.dropK x (T.kids x).length) kv kH) j ((blk j, .cells [.int .i64 (T.sl j).1, .int .i64 (T.sl j).2, ptrO blk ((T.dropK x (T.kids x).length).par j), u4].toArray 134) :: K4)) T.n ++ F)) (fun w ho => ?_) ?_
  ·
   have h2 : Own W w (K4 ++ (segs (fset (knS blk (T.dropK x (T.kids x).length) kv kH) j ((blk j, .cells [.int .i64 (T.sl j).1, .int .i64 (T.sl j).2, ptrO blk ((T.dropK x (T.kids x).length).par j), u4].toArray 134) :: kH j)) T.n ++ (trBlk tb mb :: mpBlk mb blk (tdel so T.M) clk :: F))) := Drop.own ho
   have h3 := Own.swapSeg hj h2
   exact (Drop.own h3 : Own W w (trBlk tb mb :: mpBlk mb blk (tdel so T.M) clk :: (segs (fset (knS blk (T.dropK x (T.kids x).length) kv kH) j ((blk j, .cells [.int .i64 (T.sl j).1, .int .i64 (T.sl j).2, ptrO blk ((T.dropK x (T.kids x).length).par j), u4].toArray 134) :: K4)) T.n ++ F)))
  rw [gone_some (s := so) hp]
  exact Ends.ret (L' := trBlk tb mb :: mpBlk mb blk (tdel so T.M) clk :: segs (knS blk (T.gone so x) (fset kv j u4) (fset kH j K4)) T.n) (res1 rfl rfl) ⟨rfl, mb, clk, blk, _, _, gone_some_ok hp hk (by rw [hp3, ← List.length_map (f := blk), List.map_append, List.map_append, List.map_take, List.map_drop]; exact hu4), rfl⟩
 refine Turn.ef rfl rfl (ef_pv (pv_load rfl rfl rfl) rfl) ?_ ?_
 ·
  rintro _ _ ⟨rfl, rfl⟩; infer_instance
 rintro _ _ ⟨rfl, rfl⟩
 refine Tk 17 rfl rfl (pv_sliceL (i := p + 1) (j := ((T.kids j).map blk).length) (r := (((T.kids j).map blk).drop (p + 1)).length) rfl ⟨_, rfl⟩ rfl (by omega) hjc lB.symm) rfl ?_
 refine AnyH.two 4 10 (by kernel_rfl) ?_ ?_
 ·
  refine Turn.ef rfl rfl (ef_pv (pv_load rfl rfl rfl) rfl) ?_ ?_
  ·
   rintro _ _ ⟨rfl, rfl⟩; infer_instance
  rintro _ _ ⟨rfl, rfl⟩
  refine Tk 6 rfl rfl (pv_sliceL (i := 0) (j := p) (r := (((T.kids j).map blk).take p).length) rfl rfl ⟨_, rfl⟩ (Nat.zero_le _) (by omega) lA.symm) rfl ?_
  refine AnyH.one 10 (by kernel_rfl) ?_
  refine Turn.ef rfl rfl (ef_pv (pv_load rfl rfl rfl) rfl) ?_ ?_
  ·
   rintro _ _ ⟨rfl, rfl⟩; infer_instance
  rintro _ _ ⟨rfl, rfl⟩
  refine AnyH.one 18 (by kernel_rfl) ?_
  refine Turn.ef rfl rfl (ef_buildSliceN [.slice none 0 0, .slice none 0 0, .slice none 0 0] [(0, 1), (1, 1), (2, 1)] rfl (by kernel_rfl) (by first | decide | rfl) rfl rfl rfl) ?_ ?_
  ·
   rintro _ _ ⟨b6, rfl, rfl⟩; infer_instance
  rintro _ _ ⟨b6, rfl, rfl⟩
  refine AnyH.one 19 (by kernel_rfl) ?_
  refine Turn.ef rfl rfl (ef_call (tr_concat3 (segs (knS blk (T.dropK x (T.kids x).length) kv kH) T.n) b6 3 _ _ _ _ _ _ (((T.kids j).map blk).take p) ((T.kids x).map blk) (((T.kids j).map blk).drop (p + 1)) hA hvx hB (by simp only [List.length_append]; omega)) rfl rfl) ?_ ?_
  ·
   rintro _ _ ⟨_, _, ⟨K5, hu5, rfl⟩, rfl, rfl⟩; infer_instance
  rintro _ _ ⟨_, _, ⟨K5, hu5, rfl⟩, rfl, rfl⟩
  refine AnyH.app ?_
  rename_i u5
  have ho1 := hu5.one
  have ho2 := hu5.cells1
  refine Tk 20 rfl rfl (pv_nilCheck rfl) rfl ?_
  refine Tk 21 rfl rfl (pv_fieldAddr0 rfl rfl) rfl ?_
  refine AnyH.one 22 (by kernel_rfl) ?_
  refine Turn.ef rfl rfl (ef_store1 rfl rfl (by first | rfl | assumption) (by first | rfl | assumption)) ?_ ?_
  ·
   rintro _ _ ⟨rfl, rfl⟩; infer_instance
  rintro _ _ ⟨rfl, rfl⟩
  refine AnyH.done (by kernel_rfl) ?_
  refine Ends.seq ?_
  refine Wp.seq ?_
  refine AnyH.start ((b1, .cells [.int .i64 so.1, .int .i64 so.2].toArray 31) :: trBlk tb mb :: []) 6 rfl ?_
  refine Tk 0 rfl rfl (pv_move rfl) rfl ?_
  refine Tk 1 rfl rfl (pv_nilCheck rfl) rfl ?_
  refine Tk 2 rfl rfl (pv_fieldAddr0 rfl rfl) rfl ?_
  refine Tk 3 rfl rfl (pv_load rfl rfl rfl) rfl ?_
  refine Tk 4 rfl rfl (pv_loadK [_, _] rfl rfl rfl ⟨rfl, rfl, trivial⟩) rfl ?_
  refine AnyH.one 5 (by kernel_rfl) ?_
  refine Turn.ef rfl rfl (ef_deleten_s (T := 121) _ rfl rfl rfl) ?_ ?_
  ·
   rintro _ _ ⟨rfl, rfl⟩; infer_instance
  rintro _ _ ⟨rfl, rfl⟩
  refine AnyH.done (by kernel_rfl) ?_
  refine Ends.seq ?_
  refine Wp.seq ?_
  refine Wp.region ?_
  refine Ops.pv (pv_assign rfl) rfl ?_
  refine Ops.nil ?_
  refine Ends.seq ?_
  refine Wp.ret ?_
  rw [tdel_kvT]
  refine Ends.heap (L' := trBlk tb mb :: mpBlk mb blk (tdel so T.M) clk :: (segs (fset (knS blk (T.dropK x (T.kids x).length) kv kH) j ((blk j, .cells [.int .i64 (T.sl j).1, .int .i64 (T.sl j).2, ptrO blk ((T.dropK x (T.kids x).length).par j), u5].toArray 134) :: K5)) T.n ++ F)) (fun w ho => ?_) ?_
  ·
   have h2 : Own W w (K5 ++ (segs (fset (knS blk (T.dropK x (T.kids x).length) kv kH) j ((blk j, .cells [.int .i64 (T.sl j).1, .int .i64 (T.sl j).2, ptrO blk ((T.dropK x (T.kids x).length).par j), u5].toArray 134) :: kH j)) T.n ++ (trBlk tb mb :: mpBlk mb blk (tdel so T.M) clk :: F))) := Drop.own ho
   have h3 := Own.swapSeg hj h2
   exact (Drop.own h3 : Own W w (trBlk tb mb :: mpBlk mb blk (tdel so T.M) clk :: (segs (fset (knS blk (T.dropK x (T.kids x).length) kv kH) j ((blk j, .cells [.int .i64 (T.sl j).1, .int .i64 (T.sl j).2, ptrO blk ((T.dropK x (T.kids x).length).par j), u5].toArray 134) :: K5)) T.n ++ F)))
  rw [gone_some (s := so) hp]
  exact Ends.ret (L' := trBlk tb mb :: mpBlk mb blk (tdel so T.M) clk :: segs (knS blk (T.gone so x) (fset kv j u5) (fset kH j K5)) T.n) (res1 rfl rfl) ⟨rfl, mb, clk, blk, _, _, gone_some_ok hp hk (by rw [hp3, ← List.length_map (f := blk), List.map_append, List.map_append, List.map_take, List.map_drop]; exact hu5), rfl⟩
 refine Turn.ef rfl rfl (ef_pv (pv_load rfl rfl rfl) rfl) ?_ ?_
 ·
  rintro _ _ ⟨rfl, rfl⟩; infer_instance
 rintro _ _ ⟨rfl, rfl⟩
 refine AnyH.one 4 (by kernel_rfl) ?_
 refine Turn.ef rfl rfl (ef_pv (pv_load rfl rfl rfl) rfl) ?_ ?_
 ·
  rintro _ _ ⟨rfl, rfl⟩; infer_instance
 rintro _ _ ⟨rfl, rfl⟩
 refine Tk 6 rfl rfl (pv_sliceL (i := 0) (j := p) (r := (((T.kids j).map blk).take p).length) rfl rfl ⟨_, rfl⟩ (Nat.zero_le _) (by omega) lA.symm) rfl ?_
 refine AnyH.one 18 (by kernel_rfl) ?_
 refine Turn.ef rfl rfl (ef_buildSliceN [.slice none 0 0, .slice none 0 0, .slice none 0 0] [(0, 1), (1, 1), (2, 1)] rfl (by kernel_rfl) (by first | decide | rfl) rfl rfl rfl) ?_ ?_
 ·
  rintro _ _ ⟨b7, rfl, rfl⟩; infer_instance
 rintro _ _ ⟨b7, rfl, rfl⟩
 refine AnyH.one 19 (by kernel_rfl) ?_
 refine Turn.ef rfl rfl (ef_call (tr_concat3 (segs (knS blk (T.dropK x (T.kids x).length) kv kH) T.n) b7 3 _ _ _ _ _ _ (((T.kids j).map blk).take p) ((T.kids x).map blk) (((T.kids j).map blk).drop (p + 1)) hA hvx hB (by simp only [List.length_append]; omega)) rfl rfl) ?_ ?_
 ·
  rintro _ _ ⟨_, _, ⟨K6, hu6, rfl⟩, rfl, rfl⟩; infer_instance
 rintro _ _ ⟨_, _, ⟨K6, hu6, rfl⟩, rfl, rfl⟩
 refine AnyH.app ?_
 rename_i u6
 have ho1 := hu6.one
 have ho2 := hu6.cells1
 refine Tk 20 rfl rfl (pv_nilCheck rfl) rfl ?_
 refine Tk 21 rfl rfl (pv_fieldAddr0 rfl rfl) rfl ?_
 refine AnyH.one 22 (by kernel_rfl) ?_
 refine Turn.ef rfl rfl (ef_store1 rfl rfl (by first | rfl | assumption) (by first | rfl | assumption)) ?_ ?_
 ·
  rintro _ _ ⟨rfl, rfl⟩; infer_instance
 rintro _ _ ⟨rfl, rfl⟩
 refine AnyH.done (by kernel_rfl) ?_
 refine Ends.seq ?_
 refine Wp.seq ?_
 refine AnyH.start ((b1, .cells [.int .i64 so.1, .int .i64 so.2].toArray 31) :: trBlk tb mb :: []) 6 rfl ?_
 refine Tk 0 rfl rfl (pv_move rfl) rfl ?_
 refine Tk 1 rfl rfl (pv_nilCheck rfl) rfl ?_
 refine Tk 2 rfl rfl (pv_fieldAddr0 rfl rfl) rfl ?_
 refine Tk 3 rfl rfl (pv_load rfl rfl rfl) rfl ?_
 refine Tk 4 rfl rfl (pv_loadK [_, _] rfl rfl rfl ⟨rfl, rfl, trivial⟩) rfl ?_
 refine AnyH.one 5 (by kernel_rfl) ?_
 refine Turn.ef rfl rfl (ef_deleten_s (T := 121) _ rfl rfl rfl) ?_ ?_
 ·
  rintro _ _ ⟨rfl, rfl⟩; infer_instance
 rintro _ _ ⟨rfl, rfl⟩
 refine AnyH.done (by kernel_rfl) ?_
 refine Ends.seq ?_
 refine Wp.seq ?_
 refine Wp.region ?_
 refine Ops.pv (pv_assign rfl) rfl ?_
 refine Ops.nil ?_
 refine Ends.seq ?_
 refine Wp.ret ?_
 rw [tdel_kvT]
 refine Ends.heap (L' := trBlk tb mb :: mpBlk mb blk (tdel so T.M) clk :: (segs (fset (knS blk (T.dropK x (T.kids x).length) kv kH) j ((blk j, .cells [.int .i64 (T.sl j).1, .int .i64 (T.sl j).2, ptrO blk ((T.dropK x (T.kids x).length).par j), u6].toArray 134) :: K6)) T.n ++ F)) (fun w ho => ?_) ?_
 ·
  have h2 : Own W w (K6 ++ (segs (fset (knS blk (T.dropK x (T.kids x).length) kv kH) j ((blk j, .cells [.int .i64 (T.sl j).1, .int .i64 (T.sl j).2, ptrO blk ((T.dropK x (T.kids x).length).par j), u6].toArray 134) :: kH j)) T.n ++ (trBlk tb mb :: mpBlk mb blk (tdel so T.M) clk :: F))) := Drop.own ho
  have h3 := Own.swapSeg hj h2
  exact (Drop.own h3 : Own W w (trBlk tb mb :: mpBlk mb blk (tdel so T.M) clk :: (segs (fset (knS blk (T.dropK x (T.kids x).length) kv kH) j ((blk j, .cells [.int .i64 (T.sl j).1, .int .i64 (T.sl j).2, ptrO blk ((T.dropK x (T.kids x).length).par j), u6].toArray 134) :: K6)) T.n ++ F)))
 rw [gone_some (s := so) hp]
 exact Ends.ret (L' := trBlk tb mb :: mpBlk mb blk (tdel so T.M) clk :: segs (knS blk (T.gone so x) (fset kv j u6) (fset kH j K6)) T.n) (res1 rfl rfl) ⟨rfl, mb, clk, blk, _, _, gone_some_ok hp hk (by rw [hp3, ← List.length_map (f := blk), List.map_append, List.map_append, List.map_take, List.map_drop]; exact hu6), rfl⟩
theorem tr_tDrop (tb : Nat) (L : Hp) (T : TreeM) (hH : TrH T tb L) (hx : T.Ix) (hn : T.n ≤ 2 ^ 20) (s : SlotM) (hxk : ∀ x, tget s T.M = some x → x ∉ T.kids x) (hxj : ∀ x j, tget s T.M = some x → T.par x = some j → x ∈ T.kids j) : Tr Tryz.prog 96 [.pointer (some ⟨tb, 0, none⟩), slotV s] L (fun u L' => ∃ e T', u = .int .i64 e ∧ TDrop T s e T' ∧ TrH T' tb L') := by
 cases h : tget s T.M with
 | none => exact (tr_tDrop0 tb L T hH s h).mono fun u L' ⟨hu, hl⟩ => ⟨3, T, hu, .inl ⟨h, rfl, rfl⟩, hl⟩
 | some x =>
  cases hp : T.par x with
  | none => exact (tr_tDrop1 tb L T hH hx hn s x h (hxk x h) hp).mono fun u L' ⟨hu, hl⟩ => ⟨0, _, hu, .inr ⟨x, h, rfl, rfl⟩, hl⟩
  | some j => exact (tr_tDrop2 tb L T hH hx hn s x h (hxk x h) j hp (hxj x j h hp)).mono fun u L' ⟨hu, hl⟩ => ⟨0, _, hu, .inr ⟨x, h, rfl, rfl⟩, hl⟩
end Go.Proofs.YtdodfnjmkpgdbaaGreat
end
section
set_option linter.unusedVariables false
set_option linter.unusedSimpArgs false
set_option linter.unusedSectionVars false
namespace Go.Proofs.YtdodfnjmkpgdbaaGreat
open Go.SL
abbrev trP (tb : Nat) : Value := .pointer (some ⟨tb, 0, none⟩)
theorem tr_fNew : Tr Tryz.prog 28 [] [] (fun v L' => ∃ tb, v = trP tb ∧ TrF 0 .nil tb L') :=
  tr_treeNew.mono fun v L' ⟨tb, hv, h⟩ => ⟨tb, hv, _, .nil, tok_new, h, Nat.le_refl _, rfl⟩
theorem TAdd.root {n tb : Nat} {L : Hp} {T T' : TreeM} {G : Fo Nat} (hT : TOk T G) {s : SlotM} {e : Int} (h : TAdd T s none e T') (hL : TrH T' tb L) (hn : T.n ≤ n) : e = (ftRoot (G.map T.sl) s).1 ∧ TrF (n + 1) (ftRoot (G.map T.sl) s).2 tb L := by
 rcases h with ⟨i, h1, rfl, rfl⟩ | ⟨h1, rfl, t, rfl⟩
 ·
  have := hT.in_all.2 ⟨i, h1⟩
  unfold ftRoot; rw [if_pos this]
  exact ⟨rfl, T', G, hT, hL, by omega, rfl⟩
 have := hT.out_all.1 h1
 unfold ftRoot; rw [if_neg this]
 exact ⟨rfl, _, _, tok_root hT h1, hL, by show T.n + 1 ≤ _; omega, (more_rootS hT).symm⟩
section
variable {n : Nat} {F : FoS} {tb : Nat} {L : Hp} (hH : TrF n F tb L)
include hH
theorem TrF.nd : Fo.Nd F := by obtain ⟨T, G, hT, _, _, rfl⟩ := hH; exact hT.ndS
theorem TrF.len : F.all.length ≤ n := by
 obtain ⟨T, G, hT, _, hn, rfl⟩ := hH
 have := hT.all_len
 rw [Fo.all_map, List.length_map]; omega
theorem TrF.more {m : Nat} (h : n ≤ m) : TrF m F tb L := by
 obtain ⟨T, G, hT, hL, hn, e⟩ := hH
 exact ⟨T, G, hT, hL, Nat.le_trans hn h, e⟩
theorem tr_fPar (s : SlotM) : TrR Tryz.prog 99 [trP tb, slotV s] L (.tuple #[slotV (ftPar F s), .bool (ftParB F s)]) := by
 obtain ⟨T, G, hT, hL, hn, rfl⟩ := hH
 exact (tr_tParent tb L T hL hT.ix s).eq (by rw [hT.parS, hT.parB])
theorem tr_fKids (h : n ≤ 2 ^ 20) (s : SlotM) : Tr Tryz.prog 100 [trP tb, slotV s] L (fun u L' => ∃ K, Slc 31 2 u (ftKids F s).length (slotsCells (ftKids F s)) K ∧ L' = K ++ L) := by
 obtain ⟨T, G, hT, hL, hn, rfl⟩ := hH
 have := tr_tChildren tb L T hL hT.ix (by omega) s
 rw [hT.kidsS] at this; exact this
theorem tr_fKin (h : n ≤ 2 ^ 20) (s : SlotM) : Tr Tryz.prog 59 [trP tb, slotV s] L (fun u L' => ∃ K, Slc 31 2 u (ftKin F s).length (slotsCells (ftKin F s)) K ∧ L' = K ++ L) := by
 obtain ⟨T, G, hT, hL, hn, rfl⟩ := hH
 rw [← hT.kinS]
 unfold tkin
 cases e : tget s T.M with
 | none => exact (tr_tKin0 tb L T hL s e).mono fun u L' ⟨hu, hl⟩ => ⟨[], by rw [hu]; exact Slc.nil _ _, hl⟩
 | some i => exact tr_tKin1 tb L T hL G hT (by omega) s i e
theorem tr_fRoot (s : SlotM) : Tr Tryz.prog 78 [trP tb, slotV s] L (fun u L' => u = .int .i64 (ftRoot F s).1 ∧ TrF (n + 1) (ftRoot F s).2 tb L') := by
 obtain ⟨T, G, hT, hL, hn, rfl⟩ := hH
 refine (tr_tRoot tb L T hL hT.ix s).mono ?_
 rintro u L' ⟨e, T', rfl, ha, hl⟩
 obtain ⟨h1, h2⟩ := TAdd.root hT ha hl hn
 exact ⟨by rw [h1], h2⟩
theorem tr_fChild (h : n ≤ 2 ^ 20) (o s : SlotM) : Tr Tryz.prog 82 [trP tb, slotV o, slotV s] L (fun u L' => u = .int .i64 (ftChild F o s).1 ∧ TrF (n + 1) (ftChild F o s).2 tb L') := by
 obtain ⟨T, G, hT, hL, hn, rfl⟩ := hH
 refine (tr_tChild tb L T hL hT.ix (by omega) o s).mono ?_
 rintro u L' ⟨e, T', rfl, ha, hl⟩
 rcases ha with ⟨h1, rfl, rfl⟩ | ⟨j, h1, ⟨i, h2, rfl, rfl⟩ | ⟨h2, rfl, t, rfl⟩⟩
 ·
  unfold ftChild; rw [if_neg (hT.out_all.1 h1)]
  exact ⟨rfl, _, G, hT, hl, by omega, rfl⟩
 ·
  unfold ftChild; rw [if_pos (hT.in_all.2 ⟨j, h1⟩), if_pos (hT.in_all.2 ⟨i, h2⟩)]
  exact ⟨rfl, _, G, hT, hl, by omega, rfl⟩
 unfold ftChild; rw [if_pos (hT.in_all.2 ⟨j, h1⟩), if_neg (hT.out_all.1 h2)]
 exact ⟨rfl, _, _, tok_child hT h2 (hT.mem h1), hl, by show T.n + 1 ≤ _; omega, (more_childS hT h1).symm⟩
theorem tr_fDrop (h : n ≤ 2 ^ 20) (s : SlotM) : Tr Tryz.prog 96 [trP tb, slotV s] L (fun u L' => u = .int .i64 (ftDrop F s).1 ∧ TrF n (ftDrop F s).2 tb L') := by
 obtain ⟨T, G, hT, hL, hn, rfl⟩ := hH
 refine (tr_tDrop tb L T hL hT.ix (by omega) s (fun x hx => hT.xk hx) (fun x j hx hp => (hT.xj hx hp).1)).mono ?_
 rintro u L' ⟨e, T', rfl, ha, hl⟩
 rcases ha with ⟨h1, rfl, rfl⟩ | ⟨i, h1, rfl, rfl⟩
 ·
  unfold ftDrop; rw [if_neg (hT.out_all.1 h1)]
  exact ⟨rfl, _, G, hT, hl, by omega, rfl⟩
 unfold ftDrop; rw [if_pos (hT.in_all.2 ⟨i, h1⟩)]
 exact ⟨rfl, _, _, tok_drop hT h1, hl, by show T.n ≤ _; omega, (gone_S hT h1).symm⟩
theorem tr_fMove (o s : SlotM) : Tr Tryz.prog 93 [trP tb, slotV o, slotV s] L (fun u L' => u = .int .i64 (ftMove F o s).1 ∧ TrF n (ftMove F o s).2 tb L') := by
 obtain ⟨T, G, hT, hL, hn, rfl⟩ := hH
 refine (tr_tMove tb L T hL hT.ix o s).mono ?_
 rintro u L' ⟨e, T', rfl, ha, hl⟩
 rcases ha with ⟨h1, rfl, rfl⟩ | ⟨i, h1, ⟨j, h2, rfl, rfl⟩ | ⟨h2, rfl, t, rfl⟩⟩
 ·
  unfold ftMove; rw [if_neg (hT.out_all.1 h1)]
  exact ⟨rfl, _, G, hT, hl, by omega, rfl⟩
 ·
  unfold ftMove; rw [if_pos (hT.in_all.2 ⟨i, h1⟩), if_pos (hT.in_all.2 ⟨j, h2⟩)]
  exact ⟨rfl, _, G, hT, hl, by omega, rfl⟩
 unfold ftMove; rw [if_pos (hT.in_all.2 ⟨i, h1⟩), if_neg (hT.out_all.1 h2)]
 exact ⟨rfl, _, _, tok_move hT h1 h2, hl, by show T.n ≤ _; omega, (moved_S hT h1).symm⟩
end
end Go.Proofs.YtdodfnjmkpgdbaaGreat
end
section
set_option linter.unusedVariables false
set_option linter.unusedSimpArgs false
namespace Go.Proofs.YtdodfnjmkpgdbaaGreat
open Go.SL
abbrev cpP (cb : Nat) : Value := .pointer (some ⟨cb, 0, none⟩)
theorem tr_mask (a b : Int) : TrR Tryz.prog 116 [.int .i64 a, .int .i64 b] ([]) (.int .i64 (maskM a b)) := by
 refine Tr.enter Tryz.func116 rfl Tryz.ntmps116 rfl (fun W F => ?_)
 refine Wp.app ?_
 refine Wp.seq ?_
 refine Wp.region ?_
 refine Ops.pv (pv_assign rfl) rfl ?_
 refine Ops.nil ?_
 refine Ends.seq ?_
 refine Wp.seq ?_
 refine Wp.seq ?_
 refine Wp.region ?_
 refine Ops.pv (pv_move rfl) rfl ?_
 refine Ops.ef rfl (ef_callr (tr_rightsOk a) rfl rfl) ?_
 rintro _ _ ⟨rfl, rfl⟩
 refine Ops.pv (pv_not_dec rfl) rfl ?_
 refine Ops.pv (pv_move rfl) rfl ?_
 refine Ops.split (t := 8) rfl (fun h1 => ?_) (fun h1 => ?_)
 ·
  refine Ops.skipg ⟨_, _, rfl, rfl, rfl⟩ rfl ?_
  refine Ops.skipg ⟨_, _, rfl, rfl, rfl⟩ rfl ?_
  refine Ops.skipg ⟨_, _, rfl, rfl, rfl⟩ rfl ?_
  refine Ops.pv (pv_pick_true rfl rfl) rfl ?_
  refine Ops.nil ?_
  refine Ends.seq ?_
  refine Wp.cond_true rfl ?_
  refine Wp.seq ?_
  refine Wp.region ?_
  refine Ops.pv (pv_assign rfl) rfl ?_
  refine Ops.nil ?_
  refine Ends.seq ?_
  refine Wp.ret ?_
  refine Ends.then_ret ?_
  exact Ends.ret (res1 rfl rfl) ⟨by simp_all [maskM, rightsOk], rfl⟩
 refine Ops.pvg ⟨_, _, rfl, rfl, rfl⟩ (pv_move rfl) rfl ?_
 refine Ops.efg ⟨_, _, rfl, rfl, rfl⟩ (ef_callr (tr_rightsOk b) rfl rfl) ?_
 rintro _ _ ⟨rfl, rfl⟩
 refine Ops.pvg ⟨_, _, rfl, rfl, rfl⟩ (pv_not_dec rfl) rfl ?_
 refine Ops.pv (pv_pick_false rfl rfl) rfl ?_
 refine Ops.nil ?_
 refine Ends.seq ?_
 refine Wp.cond_dect rfl (fun h2 => ?_) (fun h2 => ?_)
 ·
  refine Wp.seq ?_
  refine Wp.region ?_
  refine Ops.pv (pv_assign rfl) rfl ?_
  refine Ops.nil ?_
  refine Ends.seq ?_
  refine Wp.ret ?_
  refine Ends.then_ret ?_
  exact Ends.ret (res1 rfl rfl) ⟨by simp_all [maskM, rightsOk], rfl⟩
 refine Wp.skip ?_
 refine Ends.seq ?_
 refine Wp.seq ?_
 refine Wp.region ?_
 refine Ops.pv (pv_move rfl) rfl ?_
 refine Ops.pv (pv_move rfl) rfl ?_
 refine Ops.pv (pv_and rfl rfl rfl) rfl ?_
 refine Ops.pv (pv_assign rfl) rfl ?_
 refine Ops.nil ?_
 refine Ends.seq ?_
 refine Wp.ret ?_
 exact Ends.ret (res1 rfl rfl) ⟨by simp_all [maskM, rightsOk], rfl⟩
set_option maxHeartbeats 4000000 in
theorem tr_derive (c : CapM) (r bd g n : Int) : TrR Tryz.prog 86 [c.v, .int .i64 r, .int .u64 bd, .int .u64 g, .int .i64 n] ([]) (.tuple #[(derive c r bd g n).1.v, .int .i64 (derive c r bd g n).2]) := by
 refine Tr.enter Tryz.func86 rfl Tryz.ntmps86 rfl (fun W F => ?_)
 refine Wp.app ?_
 refine Wp.seq ?_
 refine Wp.region ?_
 refine Ops.ef rfl (ef_boxK rfl rfl) ?_
 rintro _ _ ⟨b1, rfl, rfl⟩
 refine Ops.ef rfl (ef_allocK tyZ25 rfl) ?_
 rintro _ _ ⟨b2, rfl, rfl⟩
 refine Ops.pv (pv_assign rfl) rfl ?_
 refine Ops.nil ?_
 refine Ends.seq ?_
 refine Wp.seq ?_
 refine Wp.seq ?_
 refine Wp.region ?_
 refine Ops.pv (pv_loadK [_, _, _, _, _, _] rfl rfl rfl ⟨rfl, rfl, rfl, rfl, rfl, rfl, trivial⟩) rfl ?_
 refine Ops.ef rfl (ef_callr (tr_check c) rfl rfl) ?_
 rintro _ _ ⟨rfl, rfl⟩
 refine Ops.pv (pv_assign rfl) rfl ?_
 refine Ops.nil ?_
 refine Ends.seq ?_
 refine Wp.seq ?_
 refine Wp.region ?_
 refine Ops.pv (pv_move rfl) rfl ?_
 refine Ops.pv (pv_neq rfl rfl) rfl ?_
 refine Ops.nil ?_
 refine Ends.seq ?_
 refine Wp.cond_dect rfl (fun h1 => ?_) (fun h1 => ?_)
 ·
  refine Wp.seq ?_
  refine Wp.region ?_
  refine Ops.pv (pv_build rfl) rfl ?_
  refine Ops.pv (pv_move rfl) rfl ?_
  refine Ops.ef rfl (ef_storeK rfl rfl rfl rfl) ?_
  rintro _ _ ⟨rfl, rfl⟩
  refine Ops.pv (pv_assign rfl) rfl ?_
  refine Ops.nil ?_
  refine Ends.seq ?_
  refine Wp.ret ?_
  refine Ends.then_ret ?_
  exact Ends.ret (res_list (rs := [.cell 10 25, .tmp 11]) rfl ⟨_, _, rfl, rv_cellK [_, _, _, _, _, _] rfl rfl rfl ⟨rfl, rfl, rfl, rfl, rfl, rfl, trivial⟩, ⟨_, _, rfl, rv_tmp rfl, rfl⟩⟩ rfl) ⟨by simp_all [derive, rightsOk, IntKind.bits], rfl⟩
 refine Wp.skip ?_
 refine Ends.seq ?_
 refine Wp.seq ?_
 refine Wp.seq ?_
 refine Wp.region ?_
 refine Ops.pv (pv_fieldAddr0 rfl rfl) rfl ?_
 refine Ops.pv (pv_load rfl rfl rfl) rfl ?_
 refine Ops.nil ?_
 refine Ends.seq ?_
 refine Wp.block ?_
 refine Wp.seq ?_
 refine Wp.region ?_
 refine Ops.pv (pv_eql rfl rfl) rfl ?_
 refine Ops.pv (pv_assign rfl) rfl ?_
 refine Ops.nil ?_
 refine Ends.seq ?_
 refine Wp.cond_dect rfl (fun h2 => ?_) (fun h2 => ?_)
 ·
  refine Wp.seq ?_
  refine Wp.region ?_
  refine Ops.pv (pv_build rfl) rfl ?_
  refine Ops.ef rfl (ef_storeK rfl rfl rfl rfl) ?_
  rintro _ _ ⟨rfl, rfl⟩
  refine Ops.pv (pv_assign rfl) rfl ?_
  refine Ops.nil ?_
  refine Ends.seq ?_
  refine Wp.ret ?_
  refine Ends.block_ret ?_
  refine Ends.then_ret ?_
  exact Ends.ret (res_list (rs := [.cell 10 25, .tmp 11]) rfl ⟨_, _, rfl, rv_cellK [_, _, _, _, _, _] rfl rfl rfl ⟨rfl, rfl, rfl, rfl, rfl, rfl, trivial⟩, ⟨_, _, rfl, rv_tmp rfl, rfl⟩⟩ rfl) ⟨by simp_all [derive, rightsOk, IntKind.bits], rfl⟩
 refine Wp.seq ?_
 refine Wp.seq ?_
 refine Wp.region ?_
 refine Ops.pv (pv_eql rfl rfl) rfl ?_
 refine Ops.pv (pv_assign rfl) rfl ?_
 refine Ops.nil ?_
 refine Ends.seq ?_
 refine Wp.cond_dect rfl (fun h3 => ?_) (fun h3 => ?_)
 ·
  refine Wp.skip ?_
  refine Ends.seq ?_
  refine Wp.cond_true rfl ?_
  refine Wp.seq ?_
  refine Wp.region ?_
  refine Ops.pv (pv_build rfl) rfl ?_
  refine Ops.ef rfl (ef_storeK rfl rfl rfl rfl) ?_
  rintro _ _ ⟨rfl, rfl⟩
  refine Ops.pv (pv_assign rfl) rfl ?_
  refine Ops.nil ?_
  refine Ends.seq ?_
  refine Wp.ret ?_
  refine Ends.block_ret ?_
  refine Ends.then_ret ?_
  exact Ends.ret (res_list (rs := [.cell 10 25, .tmp 11]) rfl ⟨_, _, rfl, rv_cellK [_, _, _, _, _, _] rfl rfl rfl ⟨rfl, rfl, rfl, rfl, rfl, rfl, trivial⟩, ⟨_, _, rfl, rv_tmp rfl, rfl⟩⟩ rfl) ⟨by simp_all [derive, rightsOk, IntKind.bits], rfl⟩
 refine Wp.seq ?_
 refine Wp.region ?_
 refine Ops.pv (pv_eql rfl rfl) rfl ?_
 refine Ops.pv (pv_assign rfl) rfl ?_
 refine Ops.nil ?_
 refine Ends.seq ?_
 refine Wp.cond_dect rfl (fun h4 => ?_) (fun h4 => ?_)
 ·
  refine Wp.skip ?_
  refine Ends.seq ?_
  refine Wp.cond_true rfl ?_
  refine Wp.seq ?_
  refine Wp.region ?_
  refine Ops.pv (pv_build rfl) rfl ?_
  refine Ops.ef rfl (ef_storeK rfl rfl rfl rfl) ?_
  rintro _ _ ⟨rfl, rfl⟩
  refine Ops.pv (pv_assign rfl) rfl ?_
  refine Ops.nil ?_
  refine Ends.seq ?_
  refine Wp.ret ?_
  refine Ends.block_ret ?_
  refine Ends.then_ret ?_
  exact Ends.ret (res_list (rs := [.cell 10 25, .tmp 11]) rfl ⟨_, _, rfl, rv_cellK [_, _, _, _, _, _] rfl rfl rfl ⟨rfl, rfl, rfl, rfl, rfl, rfl, trivial⟩, ⟨_, _, rfl, rv_tmp rfl, rfl⟩⟩ rfl) ⟨by simp_all [derive, rightsOk, IntKind.bits], rfl⟩
 refine Wp.region ?_
 refine Ops.pv (pv_eql rfl rfl) rfl ?_
 refine Ops.pv (pv_assign rfl) rfl ?_
 refine Ops.nil ?_
 refine Ends.seq ?_
 refine Wp.cond_dect rfl (fun h5 => ?_) (fun h5 => ?_)
 ·
  refine Wp.seq ?_
  refine Wp.region ?_
  refine Ops.pv (pv_build rfl) rfl ?_
  refine Ops.ef rfl (ef_storeK rfl rfl rfl rfl) ?_
  rintro _ _ ⟨rfl, rfl⟩
  refine Ops.pv (pv_assign rfl) rfl ?_
  refine Ops.nil ?_
  refine Ends.seq ?_
  refine Wp.ret ?_
  refine Ends.block_ret ?_
  refine Ends.then_ret ?_
  exact Ends.ret (res_list (rs := [.cell 10 25, .tmp 11]) rfl ⟨_, _, rfl, rv_cellK [_, _, _, _, _, _] rfl rfl rfl ⟨rfl, rfl, rfl, rfl, rfl, rfl, trivial⟩, ⟨_, _, rfl, rv_tmp rfl, rfl⟩⟩ rfl) ⟨by simp_all [derive, rightsOk, IntKind.bits], rfl⟩
 refine Wp.skip ?_
 refine Ends.block_normal ?_
 refine Ends.seq ?_
 refine Wp.seq ?_
 refine Wp.seq ?_
 refine Wp.region ?_
 refine Ops.pv (pv_move rfl) rfl ?_
 refine Ops.ef rfl (ef_callr (tr_rightsOk r) rfl rfl) ?_
 rintro _ _ ⟨rfl, rfl⟩
 refine Ops.pv (pv_not_dec rfl) rfl ?_
 refine Ops.nil ?_
 refine Ends.seq ?_
 refine Wp.cond_dect rfl (fun h6 => ?_) (fun h6 => ?_)
 ·
  refine Wp.seq ?_
  refine Wp.region ?_
  refine Ops.pv (pv_build rfl) rfl ?_
  refine Ops.ef rfl (ef_storeK rfl rfl rfl rfl) ?_
  rintro _ _ ⟨rfl, rfl⟩
  refine Ops.pv (pv_assign rfl) rfl ?_
  refine Ops.nil ?_
  refine Ends.seq ?_
  refine Wp.ret ?_
  refine Ends.then_ret ?_
  exact Ends.ret (res_list (rs := [.cell 10 25, .tmp 11]) rfl ⟨_, _, rfl, rv_cellK [_, _, _, _, _, _] rfl rfl rfl ⟨rfl, rfl, rfl, rfl, rfl, rfl, trivial⟩, ⟨_, _, rfl, rv_tmp rfl, rfl⟩⟩ rfl) ⟨by simp_all [derive, rightsOk, IntKind.bits], rfl⟩
 refine Wp.skip ?_
 refine Ends.seq ?_
 refine Wp.seq ?_
 refine Wp.seq ?_
 refine Wp.region ?_
 refine Ops.pv (pv_fieldAddr0 rfl rfl) rfl ?_
 refine Ops.pv (pv_load rfl rfl rfl) rfl ?_
 refine Ops.nil ?_
 refine Ends.seq ?_
 refine Wp.block ?_
 refine Wp.seq ?_
 refine Wp.region ?_
 refine Ops.pv (pv_eql rfl rfl) rfl ?_
 refine Ops.pv (pv_assign rfl) rfl ?_
 refine Ops.nil ?_
 refine Ends.seq ?_
 refine Wp.cond_dect rfl (fun h7 => ?_) (fun h7 => ?_)
 ·
  refine Wp.region ?_
  refine Ops.pv (pv_fieldAddr0 rfl rfl) rfl ?_
  refine Ops.pv (pv_load rfl rfl rfl) rfl ?_
  refine Ops.pv (pv_move rfl) rfl ?_
  refine Ops.ef rfl (ef_callr (tr_mask c.rights r) rfl rfl) ?_
  rintro _ _ ⟨rfl, rfl⟩
  refine Ops.pv (pv_fieldAddr0 rfl rfl) rfl ?_
  refine Ops.ef rfl (ef_store1 rfl rfl (by first | rfl | assumption) (by first | rfl | assumption)) ?_
  rintro _ _ ⟨rfl, rfl⟩
  refine Ops.nil ?_
  refine Ends.block_normal ?_
  refine Ends.seq ?_
  refine Wp.seq ?_
  refine Wp.region ?_
  refine Ops.pv (pv_loadK [_, _, _, _, _, _] rfl rfl rfl ⟨rfl, rfl, rfl, rfl, rfl, rfl, trivial⟩) rfl ?_
  refine Ops.ef rfl (ef_storeK rfl rfl rfl rfl) ?_
  rintro _ _ ⟨rfl, rfl⟩
  refine Ops.pv (pv_assign rfl) rfl ?_
  refine Ops.nil ?_
  refine Ends.seq ?_
  refine Wp.ret ?_
  exact Ends.ret (res_list (rs := [.cell 10 25, .tmp 11]) rfl ⟨_, _, rfl, rv_cellK [_, _, _, _, _, _] rfl rfl rfl ⟨rfl, rfl, rfl, rfl, rfl, rfl, trivial⟩, ⟨_, _, rfl, rv_tmp rfl, rfl⟩⟩ rfl) ⟨by simp_all [derive, rightsOk, IntKind.bits], rfl⟩
 refine Wp.seq ?_
 refine Wp.region ?_
 refine Ops.pv (pv_eql rfl rfl) rfl ?_
 refine Ops.pv (pv_assign rfl) rfl ?_
 refine Ops.nil ?_
 refine Ends.seq ?_
 refine Wp.cond_dect rfl (fun h8 => ?_) (fun h8 => ?_)
 ·
  refine Wp.seq ?_
  refine Wp.seq ?_
  refine Wp.region ?_
  refine Ops.pv (pv_move rfl) rfl ?_
  refine Ops.pv (pv_move rfl) rfl ?_
  refine Ops.ef rfl (ef_callr (tr_fits g n) rfl rfl) ?_
  rintro _ _ ⟨rfl, rfl⟩
  refine Ops.pv (pv_not rfl) rfl ?_
  refine Ops.nil ?_
  refine Ends.seq ?_
  refine Wp.cond_t rfl (fun h9 => ?_) (fun h9 => ?_)
  ·
   refine Wp.seq ?_
   refine Wp.region ?_
   refine Ops.pv (pv_build rfl) rfl ?_
   refine Ops.ef rfl (ef_storeK rfl rfl rfl rfl) ?_
   rintro _ _ ⟨rfl, rfl⟩
   refine Ops.pv (pv_assign rfl) rfl ?_
   refine Ops.nil ?_
   refine Ends.seq ?_
   refine Wp.ret ?_
   refine Ends.then_ret ?_
   refine Ends.block_ret ?_
   refine Ends.then_ret ?_
   exact Ends.ret (res_list (rs := [.cell 10 25, .tmp 11]) rfl ⟨_, _, rfl, rv_cellK [_, _, _, _, _, _] rfl rfl rfl ⟨rfl, rfl, rfl, rfl, rfl, rfl, trivial⟩, ⟨_, _, rfl, rv_tmp rfl, rfl⟩⟩ rfl) ⟨by simp_all [derive, rightsOk, IntKind.bits], rfl⟩
  refine Wp.skip ?_
  refine Ends.seq ?_
  refine Wp.region ?_
  refine Ops.pv (pv_move rfl) rfl ?_
  refine Ops.pv (pv_move rfl) rfl ?_
  refine Ops.pv (pv_fieldAddr0 rfl rfl) rfl ?_
  refine Ops.ef rfl (ef_store1 rfl rfl (by first | rfl | assumption) (by first | rfl | assumption)) ?_
  rintro _ _ ⟨rfl, rfl⟩
  refine Ops.pv (pv_fieldAddr0 rfl rfl) rfl ?_
  refine Ops.ef rfl (ef_store1 rfl rfl (by first | rfl | assumption) (by first | rfl | assumption)) ?_
  rintro _ _ ⟨rfl, rfl⟩
  refine Ops.nil ?_
  refine Ends.block_normal ?_
  refine Ends.seq ?_
  refine Wp.seq ?_
  refine Wp.region ?_
  refine Ops.pv (pv_loadK [_, _, _, _, _, _] rfl rfl rfl ⟨rfl, rfl, rfl, rfl, rfl, rfl, trivial⟩) rfl ?_
  refine Ops.ef rfl (ef_storeK rfl rfl rfl rfl) ?_
  rintro _ _ ⟨rfl, rfl⟩
  refine Ops.pv (pv_assign rfl) rfl ?_
  refine Ops.nil ?_
  refine Ends.seq ?_
  refine Wp.ret ?_
  exact Ends.ret (res_list (rs := [.cell 10 25, .tmp 11]) rfl ⟨_, _, rfl, rv_cellK [_, _, _, _, _, _] rfl rfl rfl ⟨rfl, rfl, rfl, rfl, rfl, rfl, trivial⟩, ⟨_, _, rfl, rv_tmp rfl, rfl⟩⟩ rfl) ⟨by simp_all [derive, rightsOk, IntKind.bits], rfl⟩
 refine Wp.seq ?_
 refine Wp.seq ?_
 refine Wp.region ?_
 refine Ops.pv (pv_eql rfl rfl) rfl ?_
 refine Ops.pv (pv_assign rfl) rfl ?_
 refine Ops.nil ?_
 refine Ends.seq ?_
 refine Wp.cond_dect rfl (fun h10 => ?_) (fun h10 => ?_)
 ·
  refine Wp.skip ?_
  refine Ends.seq ?_
  refine Wp.cond_true rfl ?_
  refine Wp.seq ?_
  refine Wp.region ?_
  refine Ops.pv (pv_fieldAddr0 rfl rfl) rfl ?_
  refine Ops.pv (pv_load rfl rfl rfl) rfl ?_
  refine Ops.pv (pv_move rfl) rfl ?_
  refine Ops.ef rfl (ef_callr (tr_mask c.rights r) rfl rfl) ?_
  rintro _ _ ⟨rfl, rfl⟩
  refine Ops.pv (pv_fieldAddr0 rfl rfl) rfl ?_
  refine Ops.ef rfl (ef_store1 rfl rfl (by first | rfl | assumption) (by first | rfl | assumption)) ?_
  rintro _ _ ⟨rfl, rfl⟩
  refine Ops.nil ?_
  refine Ends.seq ?_
  refine Wp.seq ?_
  refine Wp.seq ?_
  refine Wp.region ?_
  refine Ops.pv (pv_move rfl) rfl ?_
  refine Ops.pv (pv_neq rfl rfl) rfl ?_
  refine Ops.nil ?_
  refine Ends.seq ?_
  refine Wp.cond_dect rfl (fun h11 => ?_) (fun h11 => ?_)
  ·
   refine Wp.seq ?_
   refine Wp.seq ?_
   refine Wp.region ?_
   refine Ops.pv (pv_fieldAddr0 rfl rfl) rfl ?_
   refine Ops.pv (pv_load rfl rfl rfl) rfl ?_
   refine Ops.pv (pv_neq rfl rfl) rfl ?_
   refine Ops.nil ?_
   refine Ends.seq ?_
   refine Wp.cond_dect rfl (fun h12 => ?_) (fun h12 => ?_)
   ·
    refine Wp.seq ?_
    refine Wp.region ?_
    refine Ops.pv (pv_build rfl) rfl ?_
    refine Ops.ef rfl (ef_storeK rfl rfl rfl rfl) ?_
    rintro _ _ ⟨rfl, rfl⟩
    refine Ops.pv (pv_assign rfl) rfl ?_
    refine Ops.nil ?_
    refine Ends.seq ?_
    refine Wp.ret ?_
    refine Ends.then_ret ?_
    refine Ends.then_ret ?_
    refine Ends.block_ret ?_
    refine Ends.then_ret ?_
    exact Ends.ret (res_list (rs := [.cell 10 25, .tmp 11]) rfl ⟨_, _, rfl, rv_cellK [_, _, _, _, _, _] rfl rfl rfl ⟨rfl, rfl, rfl, rfl, rfl, rfl, trivial⟩, ⟨_, _, rfl, rv_tmp rfl, rfl⟩⟩ rfl) ⟨by simp_all [derive, rightsOk, IntKind.bits], rfl⟩
   refine Wp.skip ?_
   refine Ends.seq ?_
   refine Wp.region ?_
   refine Ops.pv (pv_move rfl) rfl ?_
   refine Ops.pv (pv_fieldAddr0 rfl rfl) rfl ?_
   refine Ops.ef rfl (ef_store1 rfl rfl (by first | rfl | assumption) (by first | rfl | assumption)) ?_
   rintro _ _ ⟨rfl, rfl⟩
   refine Ops.nil ?_
   refine Ends.seq ?_
   refine Wp.seq ?_
   refine Wp.region ?_
   refine Ops.pv (pv_fieldAddr0 rfl rfl) rfl ?_
   refine Ops.pv (pv_load rfl rfl rfl) rfl ?_
   refine Ops.pv (pv_shr rfl rfl (by omega) rfl) rfl ?_
   refine Ops.pv (pv_neq rfl rfl) rfl ?_
   refine Ops.nil ?_
   refine Ends.seq ?_
   refine Wp.cond_dect rfl (fun h13 => ?_) (fun h13 => ?_)
   ·
    refine Wp.seq ?_
    refine Wp.region ?_
    refine Ops.pv (pv_build rfl) rfl ?_
    refine Ops.ef rfl (ef_storeK rfl rfl rfl rfl) ?_
    rintro _ _ ⟨rfl, rfl⟩
    refine Ops.pv (pv_assign rfl) rfl ?_
    refine Ops.nil ?_
    refine Ends.seq ?_
    refine Wp.ret ?_
    refine Ends.block_ret ?_
    refine Ends.then_ret ?_
    exact Ends.ret (res_list (rs := [.cell 10 25, .tmp 11]) rfl ⟨_, _, rfl, rv_cellK [_, _, _, _, _, _] rfl rfl rfl ⟨rfl, rfl, rfl, rfl, rfl, rfl, trivial⟩, ⟨_, _, rfl, rv_tmp rfl, rfl⟩⟩ rfl) ⟨by simp_all [derive, rightsOk, IntKind.bits], rfl⟩
   refine Wp.skip ?_
   refine Ends.block_normal ?_
   refine Ends.seq ?_
   refine Wp.seq ?_
   refine Wp.region ?_
   refine Ops.pv (pv_loadK [_, _, _, _, _, _] rfl rfl rfl ⟨rfl, rfl, rfl, rfl, rfl, rfl, trivial⟩) rfl ?_
   refine Ops.ef rfl (ef_storeK rfl rfl rfl rfl) ?_
   rintro _ _ ⟨rfl, rfl⟩
   refine Ops.pv (pv_assign rfl) rfl ?_
   refine Ops.nil ?_
   refine Ends.seq ?_
   refine Wp.ret ?_
   exact Ends.ret (res_list (rs := [.cell 10 25, .tmp 11]) rfl ⟨_, _, rfl, rv_cellK [_, _, _, _, _, _] rfl rfl rfl ⟨rfl, rfl, rfl, rfl, rfl, rfl, trivial⟩, ⟨_, _, rfl, rv_tmp rfl, rfl⟩⟩ rfl) ⟨by simp_all [derive, rightsOk, IntKind.bits], rfl⟩
  refine Wp.skip ?_
  refine Ends.seq ?_
  refine Wp.seq ?_
  refine Wp.region ?_
  refine Ops.pv (pv_fieldAddr0 rfl rfl) rfl ?_
  refine Ops.pv (pv_load rfl rfl rfl) rfl ?_
  refine Ops.pv (pv_shr rfl rfl (by omega) rfl) rfl ?_
  refine Ops.pv (pv_neq rfl rfl) rfl ?_
  refine Ops.nil ?_
  refine Ends.seq ?_
  refine Wp.cond_dect rfl (fun h14 => ?_) (fun h14 => ?_)
  ·
   refine Wp.seq ?_
   refine Wp.region ?_
   refine Ops.pv (pv_build rfl) rfl ?_
   refine Ops.ef rfl (ef_storeK rfl rfl rfl rfl) ?_
   rintro _ _ ⟨rfl, rfl⟩
   refine Ops.pv (pv_assign rfl) rfl ?_
   refine Ops.nil ?_
   refine Ends.seq ?_
   refine Wp.ret ?_
   refine Ends.block_ret ?_
   refine Ends.then_ret ?_
   exact Ends.ret (res_list (rs := [.cell 10 25, .tmp 11]) rfl ⟨_, _, rfl, rv_cellK [_, _, _, _, _, _] rfl rfl rfl ⟨rfl, rfl, rfl, rfl, rfl, rfl, trivial⟩, ⟨_, _, rfl, rv_tmp rfl, rfl⟩⟩ rfl) ⟨by simp_all [derive, rightsOk, IntKind.bits], rfl⟩
  refine Wp.skip ?_
  refine Ends.block_normal ?_
  refine Ends.seq ?_
  refine Wp.seq ?_
  refine Wp.region ?_
  refine Ops.pv (pv_loadK [_, _, _, _, _, _] rfl rfl rfl ⟨rfl, rfl, rfl, rfl, rfl, rfl, trivial⟩) rfl ?_
  refine Ops.ef rfl (ef_storeK rfl rfl rfl rfl) ?_
  rintro _ _ ⟨rfl, rfl⟩
  refine Ops.pv (pv_assign rfl) rfl ?_
  refine Ops.nil ?_
  refine Ends.seq ?_
  refine Wp.ret ?_
  exact Ends.ret (res_list (rs := [.cell 10 25, .tmp 11]) rfl ⟨_, _, rfl, rv_cellK [_, _, _, _, _, _] rfl rfl rfl ⟨rfl, rfl, rfl, rfl, rfl, rfl, trivial⟩, ⟨_, _, rfl, rv_tmp rfl, rfl⟩⟩ rfl) ⟨by simp_all [derive, rightsOk, IntKind.bits], rfl⟩
 refine Wp.region ?_
 refine Ops.pv (pv_eql rfl rfl) rfl ?_
 refine Ops.pv (pv_assign rfl) rfl ?_
 refine Ops.nil ?_
 refine Ends.seq ?_
 refine Wp.cond_dect rfl (fun h15 => ?_) (fun h15 => ?_)
 ·
  refine Wp.seq ?_
  refine Wp.region ?_
  refine Ops.pv (pv_fieldAddr0 rfl rfl) rfl ?_
  refine Ops.pv (pv_load rfl rfl rfl) rfl ?_
  refine Ops.pv (pv_move rfl) rfl ?_
  refine Ops.ef rfl (ef_callr (tr_mask c.rights r) rfl rfl) ?_
  rintro _ _ ⟨rfl, rfl⟩
  refine Ops.pv (pv_fieldAddr0 rfl rfl) rfl ?_
  refine Ops.ef rfl (ef_store1 rfl rfl (by first | rfl | assumption) (by first | rfl | assumption)) ?_
  rintro _ _ ⟨rfl, rfl⟩
  refine Ops.nil ?_
  refine Ends.seq ?_
  refine Wp.seq ?_
  refine Wp.seq ?_
  refine Wp.region ?_
  refine Ops.pv (pv_move rfl) rfl ?_
  refine Ops.pv (pv_neq rfl rfl) rfl ?_
  refine Ops.nil ?_
  refine Ends.seq ?_
  refine Wp.cond_dect rfl (fun h16 => ?_) (fun h16 => ?_)
  ·
   refine Wp.seq ?_
   refine Wp.seq ?_
   refine Wp.region ?_
   refine Ops.pv (pv_fieldAddr0 rfl rfl) rfl ?_
   refine Ops.pv (pv_load rfl rfl rfl) rfl ?_
   refine Ops.pv (pv_neq rfl rfl) rfl ?_
   refine Ops.nil ?_
   refine Ends.seq ?_
   refine Wp.cond_dect rfl (fun h17 => ?_) (fun h17 => ?_)
   ·
    refine Wp.seq ?_
    refine Wp.region ?_
    refine Ops.pv (pv_build rfl) rfl ?_
    refine Ops.ef rfl (ef_storeK rfl rfl rfl rfl) ?_
    rintro _ _ ⟨rfl, rfl⟩
    refine Ops.pv (pv_assign rfl) rfl ?_
    refine Ops.nil ?_
    refine Ends.seq ?_
    refine Wp.ret ?_
    refine Ends.then_ret ?_
    refine Ends.then_ret ?_
    refine Ends.block_ret ?_
    refine Ends.then_ret ?_
    exact Ends.ret (res_list (rs := [.cell 10 25, .tmp 11]) rfl ⟨_, _, rfl, rv_cellK [_, _, _, _, _, _] rfl rfl rfl ⟨rfl, rfl, rfl, rfl, rfl, rfl, trivial⟩, ⟨_, _, rfl, rv_tmp rfl, rfl⟩⟩ rfl) ⟨by simp_all [derive, rightsOk, IntKind.bits], rfl⟩
   refine Wp.skip ?_
   refine Ends.seq ?_
   refine Wp.region ?_
   refine Ops.pv (pv_move rfl) rfl ?_
   refine Ops.pv (pv_fieldAddr0 rfl rfl) rfl ?_
   refine Ops.ef rfl (ef_store1 rfl rfl (by first | rfl | assumption) (by first | rfl | assumption)) ?_
   rintro _ _ ⟨rfl, rfl⟩
   refine Ops.nil ?_
   refine Ends.seq ?_
   refine Wp.seq ?_
   refine Wp.region ?_
   refine Ops.pv (pv_fieldAddr0 rfl rfl) rfl ?_
   refine Ops.pv (pv_load rfl rfl rfl) rfl ?_
   refine Ops.pv (pv_shr rfl rfl (by omega) rfl) rfl ?_
   refine Ops.pv (pv_neq rfl rfl) rfl ?_
   refine Ops.nil ?_
   refine Ends.seq ?_
   refine Wp.cond_dect rfl (fun h18 => ?_) (fun h18 => ?_)
   ·
    refine Wp.seq ?_
    refine Wp.region ?_
    refine Ops.pv (pv_build rfl) rfl ?_
    refine Ops.ef rfl (ef_storeK rfl rfl rfl rfl) ?_
    rintro _ _ ⟨rfl, rfl⟩
    refine Ops.pv (pv_assign rfl) rfl ?_
    refine Ops.nil ?_
    refine Ends.seq ?_
    refine Wp.ret ?_
    refine Ends.block_ret ?_
    refine Ends.then_ret ?_
    exact Ends.ret (res_list (rs := [.cell 10 25, .tmp 11]) rfl ⟨_, _, rfl, rv_cellK [_, _, _, _, _, _] rfl rfl rfl ⟨rfl, rfl, rfl, rfl, rfl, rfl, trivial⟩, ⟨_, _, rfl, rv_tmp rfl, rfl⟩⟩ rfl) ⟨by simp_all [derive, rightsOk, IntKind.bits], rfl⟩
   refine Wp.skip ?_
   refine Ends.block_normal ?_
   refine Ends.seq ?_
   refine Wp.seq ?_
   refine Wp.region ?_
   refine Ops.pv (pv_loadK [_, _, _, _, _, _] rfl rfl rfl ⟨rfl, rfl, rfl, rfl, rfl, rfl, trivial⟩) rfl ?_
   refine Ops.ef rfl (ef_storeK rfl rfl rfl rfl) ?_
   rintro _ _ ⟨rfl, rfl⟩
   refine Ops.pv (pv_assign rfl) rfl ?_
   refine Ops.nil ?_
   refine Ends.seq ?_
   refine Wp.ret ?_
   exact Ends.ret (res_list (rs := [.cell 10 25, .tmp 11]) rfl ⟨_, _, rfl, rv_cellK [_, _, _, _, _, _] rfl rfl rfl ⟨rfl, rfl, rfl, rfl, rfl, rfl, trivial⟩, ⟨_, _, rfl, rv_tmp rfl, rfl⟩⟩ rfl) ⟨by simp_all [derive, rightsOk, IntKind.bits], rfl⟩
  refine Wp.skip ?_
  refine Ends.seq ?_
  refine Wp.seq ?_
  refine Wp.region ?_
  refine Ops.pv (pv_fieldAddr0 rfl rfl) rfl ?_
  refine Ops.pv (pv_load rfl rfl rfl) rfl ?_
  refine Ops.pv (pv_shr rfl rfl (by omega) rfl) rfl ?_
  refine Ops.pv (pv_neq rfl rfl) rfl ?_
  refine Ops.nil ?_
  refine Ends.seq ?_
  refine Wp.cond_dect rfl (fun h19 => ?_) (fun h19 => ?_)
  ·
   refine Wp.seq ?_
   refine Wp.region ?_
   refine Ops.pv (pv_build rfl) rfl ?_
   refine Ops.ef rfl (ef_storeK rfl rfl rfl rfl) ?_
   rintro _ _ ⟨rfl, rfl⟩
   refine Ops.pv (pv_assign rfl) rfl ?_
   refine Ops.nil ?_
   refine Ends.seq ?_
   refine Wp.ret ?_
   refine Ends.block_ret ?_
   refine Ends.then_ret ?_
   exact Ends.ret (res_list (rs := [.cell 10 25, .tmp 11]) rfl ⟨_, _, rfl, rv_cellK [_, _, _, _, _, _] rfl rfl rfl ⟨rfl, rfl, rfl, rfl, rfl, rfl, trivial⟩, ⟨_, _, rfl, rv_tmp rfl, rfl⟩⟩ rfl) ⟨by simp_all [derive, rightsOk, IntKind.bits], rfl⟩
  refine Wp.skip ?_
  refine Ends.block_normal ?_
  refine Ends.seq ?_
  refine Wp.seq ?_
  refine Wp.region ?_
  refine Ops.pv (pv_loadK [_, _, _, _, _, _] rfl rfl rfl ⟨rfl, rfl, rfl, rfl, rfl, rfl, trivial⟩) rfl ?_
  refine Ops.ef rfl (ef_storeK rfl rfl rfl rfl) ?_
  rintro _ _ ⟨rfl, rfl⟩
  refine Ops.pv (pv_assign rfl) rfl ?_
  refine Ops.nil ?_
  refine Ends.seq ?_
  refine Wp.ret ?_
  exact Ends.ret (res_list (rs := [.cell 10 25, .tmp 11]) rfl ⟨_, _, rfl, rv_cellK [_, _, _, _, _, _] rfl rfl rfl ⟨rfl, rfl, rfl, rfl, rfl, rfl, trivial⟩, ⟨_, _, rfl, rv_tmp rfl, rfl⟩⟩ rfl) ⟨by simp_all [derive, rightsOk, IntKind.bits], rfl⟩
 refine Wp.skip ?_
 refine Ends.block_normal ?_
 refine Ends.seq ?_
 refine Wp.seq ?_
 refine Wp.region ?_
 refine Ops.pv (pv_loadK [_, _, _, _, _, _] rfl rfl rfl ⟨rfl, rfl, rfl, rfl, rfl, rfl, trivial⟩) rfl ?_
 refine Ops.ef rfl (ef_storeK rfl rfl rfl rfl) ?_
 rintro _ _ ⟨rfl, rfl⟩
 refine Ops.pv (pv_assign rfl) rfl ?_
 refine Ops.nil ?_
 refine Ends.seq ?_
 refine Wp.ret ?_
 exact Ends.ret (res_list (rs := [.cell 10 25, .tmp 11]) rfl ⟨_, _, rfl, rv_cellK [_, _, _, _, _, _] rfl rfl rfl ⟨rfl, rfl, rfl, rfl, rfl, rfl, trivial⟩, ⟨_, _, rfl, rv_tmp rfl, rfl⟩⟩ rfl) ⟨by simp_all [derive, rightsOk, IntKind.bits], rfl⟩
theorem tr_mNew  : Tr Tryz.prog 5 [] ([]) (fun v L' => ∃ cb, v = cpP cb ∧ CapsH 0 PS.new cb L') := by
 refine Tr.enter Tryz.func5 rfl Tryz.ntmps5 rfl (fun W F => ?_)
 refine Wp.app ?_
 refine Wp.seq ?_
 refine Wp.region ?_
 refine Ops.pv (pv_assign rfl) rfl ?_
 refine Ops.nil ?_
 refine Ends.seq ?_
 refine Wp.seq ?_
 refine Wp.region ?_
 refine Ops.ef rfl (ef_call sf_new rfl rfl) ?_
 rintro _ _ ⟨_, Q1, ⟨sb1, rfl, hS1⟩, rfl, rfl⟩
 refine Ops.app ?_
 skip
 refine Ops.pv (pv_build rfl) rfl ?_
 refine Ops.ef rfl (ef_call tr_fNew rfl rfl) ?_
 rintro _ _ ⟨_, R1, ⟨tb1, rfl, hT1⟩, rfl, rfl⟩
 refine Ops.app ?_
 skip
 refine Ops.pv (pv_build rfl) rfl ?_
 refine Ops.ef rfl (ef_boxK rfl rfl) ?_
 rintro _ _ ⟨b1, rfl, rfl⟩
 refine Ops.pv (pv_assign rfl) rfl ?_
 refine Ops.nil ?_
 refine Ends.seq ?_
 refine Wp.ret ?_
 exact Ends.ret (L' := cBlk b1 sb1 tb1 :: (Q1 ++ R1)) (res1 rfl rfl) ⟨b1, rfl, sb1, tb1, Q1, R1, hS1, hT1, rfl⟩
theorem tr_smNode (l : List DN) (sb : Nat) (Ls : Hp) (hS : StF l sb Ls) (x r : Int) : Tr Tryz.prog 29 [.agg #[stP sb], .int .i64 x, .int .i64 r] (Ls) (fun u L' => u = .int .i64 (dadd l x r).1 ∧ StF (dadd l x r).2 sb L') := by
 refine Tr.enter Tryz.func29 rfl Tryz.ntmps29 rfl (fun W F => ?_)
 refine Wp.app ?_
 refine Wp.seq ?_
 refine Wp.region ?_
 refine Ops.ef rfl (ef_boxK rfl rfl) ?_
 rintro _ _ ⟨b1, rfl, rfl⟩
 refine Ops.pv (pv_assign rfl) rfl ?_
 refine Ops.nil ?_
 refine Ends.seq ?_
 refine Wp.seq ?_
 refine Wp.region ?_
 refine Ops.pv (pv_fieldAddr0 rfl rfl) rfl ?_
 refine Ops.pv (pv_load rfl rfl rfl) rfl ?_
 refine Ops.pv (pv_move rfl) rfl ?_
 refine Ops.pv (pv_move rfl) rfl ?_
 refine Ops.ef rfl (ef_call (sf_add hS x r) rfl rfl) ?_
 rintro _ _ ⟨_, Q1, ⟨rfl, hS1⟩, rfl, rfl⟩
 refine Ops.app ?_
 skip
 refine Ops.pv (pv_assign rfl) rfl ?_
 refine Ops.nil ?_
 refine Ends.seq ?_
 refine Wp.ret ?_
 exact Ends.ret (L' := Q1) (res1 rfl rfl) ⟨rfl, hS1⟩
theorem tr_smClear (l : List DN) (sb : Nat) (Ls : Hp) (hS : StF l sb Ls) (x : Int) : Tr Tryz.prog 31 [.agg #[stP sb], .int .i64 x] (Ls) (fun u L' => u = .int .i64 (ddrop l x).1 ∧ StF (ddrop l x).2 sb L') := by
 refine Tr.enter Tryz.func31 rfl Tryz.ntmps31 rfl (fun W F => ?_)
 refine Wp.app ?_
 refine Wp.seq ?_
 refine Wp.region ?_
 refine Ops.ef rfl (ef_boxK rfl rfl) ?_
 rintro _ _ ⟨b1, rfl, rfl⟩
 refine Ops.pv (pv_assign rfl) rfl ?_
 refine Ops.nil ?_
 refine Ends.seq ?_
 refine Wp.seq ?_
 refine Wp.region ?_
 refine Ops.pv (pv_fieldAddr0 rfl rfl) rfl ?_
 refine Ops.pv (pv_load rfl rfl rfl) rfl ?_
 refine Ops.pv (pv_move rfl) rfl ?_
 refine Ops.ef rfl (ef_call (sf_drop hS x) rfl rfl) ?_
 rintro _ _ ⟨_, Q1, ⟨rfl, hS1⟩, rfl, rfl⟩
 refine Ops.app ?_
 skip
 refine Ops.pv (pv_assign rfl) rfl ?_
 refine Ops.nil ?_
 refine Ends.seq ?_
 refine Wp.ret ?_
 exact Ends.ret (L' := Q1) (res1 rfl rfl) ⟨rfl, hS1⟩
theorem tr_mSource (n cb : Nat) (L : Hp) (p : PS) (hH : CapsH n p cb L) (so : SlotM) : TrR Tryz.prog 90 [cpP cb, slotV so] (L) (.tuple #[(mSource p so).1.v, .int .i64 (mSource p so).2]) := by
 obtain ⟨sb, tb, Ls, Lt, hS, hT, rfl⟩ := hH
 refine Tr.enter Tryz.func90 rfl Tryz.ntmps90 rfl (fun W F => ?_)
 refine Wp.app ?_
 refine Wp.seq ?_
 refine Wp.region ?_
 refine Ops.ef rfl (ef_boxK rfl rfl) ?_
 rintro _ _ ⟨b1, rfl, rfl⟩
 refine Ops.ef rfl (ef_allocK tyZ25 rfl) ?_
 rintro _ _ ⟨b2, rfl, rfl⟩
 refine Ops.pv (pv_assign rfl) rfl ?_
 refine Ops.nil ?_
 refine Ends.seq ?_
 refine Wp.seq ?_
 refine AnyH.start ((b1, .cells [.int .i64 so.1, .int .i64 so.2].toArray 31) :: cBlk cb sb tb :: []) 13 rfl ?_
 refine Tk 0 rfl rfl (pv_move rfl) rfl ?_
 refine Tk 1 rfl rfl (pv_nilCheck rfl) rfl ?_
 refine Tk 2 rfl rfl (pv_fieldAddr0 rfl rfl) rfl ?_
 refine Tk 3 rfl rfl (pv_fieldAddr0 rfl rfl) rfl ?_
 refine Tk 4 rfl rfl (pv_load rfl rfl rfl) rfl ?_
 refine Tk 5 rfl rfl (pv_loadK [_, _] rfl rfl rfl ⟨rfl, rfl, trivial⟩) rfl ?_
 refine AnyH.two 6 10 (by kernel_rfl) ?_ ?_
 ·
  refine Turn.ef rfl rfl (ef_callr (sf_get hS so) rfl rfl) ?_ ?_
  ·
   rintro _ _ ⟨rfl, rfl⟩; infer_instance
  rintro _ _ ⟨rfl, rfl⟩
  refine Tk 7 rfl rfl (pv_move rfl) rfl ?_
  refine Tk 8 rfl rfl (pv_extract rfl rfl) rfl ?_
  refine Tk 9 rfl rfl (pv_extract rfl rfl) rfl ?_
  refine AnyH.one 10 (by kernel_rfl) ?_
  refine Turn.ef rfl rfl (ef_allocK tyZ25 rfl) ?_ ?_
  ·
   rintro _ _ ⟨b3, rfl, rfl⟩; infer_instance
  rintro _ _ ⟨b3, rfl, rfl⟩
  refine AnyH.one 11 (by kernel_rfl) ?_
  refine Turn.ef rfl rfl (ef_storeK rfl rfl rfl rfl) ?_ ?_
  ·
   rintro _ _ ⟨rfl, rfl⟩; infer_instance
  rintro _ _ ⟨rfl, rfl⟩
  refine Tk 12 rfl rfl (pv_assign rfl) rfl ?_
  refine AnyH.done (by kernel_rfl) ?_
  refine Ends.seq ?_
  refine Wp.seq ?_
  refine Wp.seq ?_
  refine Wp.region ?_
  refine Ops.pv (pv_move rfl) rfl ?_
  refine Ops.pv (pv_eql rfl rfl) rfl ?_
  refine Ops.pv (pv_move rfl) rfl ?_
  refine Ops.pvc rfl rfl (fun hg => pv_fieldAddr0 rfl rfl) rfl ?_
  refine Ops.pvc rfl rfl (fun hg => Pv.setE (t := 21) rfl (cv_pos hg) (pv_load rfl rfl rfl)) rfl ?_
  refine Ops.pvc rfl rfl (fun hg => Pv.setE (t := 21) rfl (cv_pos hg) (Pv.setE (t := 22) rfl (cv_pos hg) (pv_eql rfl rfl))) rfl ?_
  refine Ops.pv (pv_pick_and rfl rfl) rfl ?_
  refine Ops.nil ?_
  refine Ends.seq ?_
  refine Wp.cond_dect rfl (fun h1 => ?_) (fun h1 => ?_)
  ·
   refine Wp.region ?_
   refine Ops.pv (pv_assign rfl) rfl ?_
   refine Ops.nil ?_
   refine Ends.seq ?_
   refine Wp.seq ?_
   refine Wp.region ?_
   refine Ops.pv (pv_loadK [_, _, _, _, _, _] rfl rfl rfl ⟨rfl, rfl, rfl, rfl, rfl, rfl, trivial⟩) rfl ?_
   refine Ops.pv (pv_move rfl) rfl ?_
   refine Ops.ef rfl (ef_storeK rfl rfl rfl rfl) ?_
   rintro _ _ ⟨rfl, rfl⟩
   refine Ops.pv (pv_assign rfl) rfl ?_
   refine Ops.nil ?_
   refine Ends.seq ?_
   refine Wp.ret ?_
   have he : mSource p so = ((dget p.l so).1, 3) := if_pos (by assumption)
   exact Ends.ret (res_list (rs := [.cell 4 25, .tmp 5]) rfl ⟨_, _, rfl, rv_cellK [_, _, _, _, _, _] rfl rfl rfl ⟨rfl, rfl, rfl, rfl, rfl, rfl, trivial⟩, ⟨_, _, rfl, rv_tmp rfl, rfl⟩⟩ rfl) ⟨by rw [he], rfl⟩
  refine Wp.skip ?_
  refine Ends.seq ?_
  refine Wp.seq ?_
  refine Wp.region ?_
  refine Ops.pv (pv_loadK [_, _, _, _, _, _] rfl rfl rfl ⟨rfl, rfl, rfl, rfl, rfl, rfl, trivial⟩) rfl ?_
  refine Ops.pv (pv_move rfl) rfl ?_
  refine Ops.ef rfl (ef_storeK rfl rfl rfl rfl) ?_
  rintro _ _ ⟨rfl, rfl⟩
  refine Ops.pv (pv_assign rfl) rfl ?_
  refine Ops.nil ?_
  refine Ends.seq ?_
  refine Wp.ret ?_
  have he : mSource p so = dget p.l so := if_neg (by assumption)
  exact Ends.ret (res_list (rs := [.cell 4 25, .tmp 5]) rfl ⟨_, _, rfl, rv_cellK [_, _, _, _, _, _] rfl rfl rfl ⟨rfl, rfl, rfl, rfl, rfl, rfl, trivial⟩, ⟨_, _, rfl, rv_tmp rfl, rfl⟩⟩ rfl) ⟨by rw [he], rfl⟩
 refine Turn.ef rfl rfl (ef_allocK tyZ25 rfl) ?_ ?_
 ·
  rintro _ _ ⟨b4, rfl, rfl⟩; infer_instance
 rintro _ _ ⟨b4, rfl, rfl⟩
 refine AnyH.one 6 (by kernel_rfl) ?_
 refine Turn.ef rfl rfl (ef_callr (sf_get hS so) rfl rfl) ?_ ?_
 ·
  rintro _ _ ⟨rfl, rfl⟩; infer_instance
 rintro _ _ ⟨rfl, rfl⟩
 refine Tk 7 rfl rfl (pv_move rfl) rfl ?_
 refine Tk 8 rfl rfl (pv_extract rfl rfl) rfl ?_
 refine Tk 9 rfl rfl (pv_extract rfl rfl) rfl ?_
 refine AnyH.one 11 (by kernel_rfl) ?_
 refine Turn.ef rfl rfl (ef_storeK rfl rfl rfl rfl) ?_ ?_
 ·
  rintro _ _ ⟨rfl, rfl⟩; infer_instance
 rintro _ _ ⟨rfl, rfl⟩
 refine Tk 12 rfl rfl (pv_assign rfl) rfl ?_
 refine AnyH.done (by kernel_rfl) ?_
 refine Ends.seq ?_
 refine Wp.seq ?_
 refine Wp.seq ?_
 refine Wp.region ?_
 refine Ops.pv (pv_move rfl) rfl ?_
 refine Ops.pv (pv_eql rfl rfl) rfl ?_
 refine Ops.pv (pv_move rfl) rfl ?_
 refine Ops.pvc rfl rfl (fun hg => pv_fieldAddr0 rfl rfl) rfl ?_
 refine Ops.pvc rfl rfl (fun hg => Pv.setE (t := 21) rfl (cv_pos hg) (pv_load rfl rfl rfl)) rfl ?_
 refine Ops.pvc rfl rfl (fun hg => Pv.setE (t := 21) rfl (cv_pos hg) (Pv.setE (t := 22) rfl (cv_pos hg) (pv_eql rfl rfl))) rfl ?_
 refine Ops.pv (pv_pick_and rfl rfl) rfl ?_
 refine Ops.nil ?_
 refine Ends.seq ?_
 refine Wp.cond_dect rfl (fun h2 => ?_) (fun h2 => ?_)
 ·
  refine Wp.region ?_
  refine Ops.pv (pv_assign rfl) rfl ?_
  refine Ops.nil ?_
  refine Ends.seq ?_
  refine Wp.seq ?_
  refine Wp.region ?_
  refine Ops.pv (pv_loadK [_, _, _, _, _, _] rfl rfl rfl ⟨rfl, rfl, rfl, rfl, rfl, rfl, trivial⟩) rfl ?_
  refine Ops.pv (pv_move rfl) rfl ?_
  refine Ops.ef rfl (ef_storeK rfl rfl rfl rfl) ?_
  rintro _ _ ⟨rfl, rfl⟩
  refine Ops.pv (pv_assign rfl) rfl ?_
  refine Ops.nil ?_
  refine Ends.seq ?_
  refine Wp.ret ?_
  have he : mSource p so = ((dget p.l so).1, 3) := if_pos (by assumption)
  exact Ends.ret (res_list (rs := [.cell 4 25, .tmp 5]) rfl ⟨_, _, rfl, rv_cellK [_, _, _, _, _, _] rfl rfl rfl ⟨rfl, rfl, rfl, rfl, rfl, rfl, trivial⟩, ⟨_, _, rfl, rv_tmp rfl, rfl⟩⟩ rfl) ⟨by rw [he], rfl⟩
 refine Wp.skip ?_
 refine Ends.seq ?_
 refine Wp.seq ?_
 refine Wp.region ?_
 refine Ops.pv (pv_loadK [_, _, _, _, _, _] rfl rfl rfl ⟨rfl, rfl, rfl, rfl, rfl, rfl, trivial⟩) rfl ?_
 refine Ops.pv (pv_move rfl) rfl ?_
 refine Ops.ef rfl (ef_storeK rfl rfl rfl rfl) ?_
 rintro _ _ ⟨rfl, rfl⟩
 refine Ops.pv (pv_assign rfl) rfl ?_
 refine Ops.nil ?_
 refine Ends.seq ?_
 refine Wp.ret ?_
 have he : mSource p so = dget p.l so := if_neg (by assumption)
 exact Ends.ret (res_list (rs := [.cell 4 25, .tmp 5]) rfl ⟨_, _, rfl, rv_cellK [_, _, _, _, _, _] rfl rfl rfl ⟨rfl, rfl, rfl, rfl, rfl, rfl, trivial⟩, ⟨_, _, rfl, rv_tmp rfl, rfl⟩⟩ rfl) ⟨by rw [he], rfl⟩
theorem tr_mPlace (n cb : Nat) (L : Hp) (p : PS) (hH : CapsH n p cb L) (so : SlotM) : TrR Tryz.prog 91 [cpP cb, slotV so] (L) (.int .i64 (mPlace p so)) := by
 obtain ⟨sb, tb, Ls, Lt, hS, hT, rfl⟩ := hH
 refine Tr.enter Tryz.func91 rfl Tryz.ntmps91 rfl (fun W F => ?_)
 refine Wp.app ?_
 refine Wp.seq ?_
 refine Wp.region ?_
 refine Ops.ef rfl (ef_boxK rfl rfl) ?_
 rintro _ _ ⟨b1, rfl, rfl⟩
 refine Ops.pv (pv_assign rfl) rfl ?_
 refine Ops.nil ?_
 refine Ends.seq ?_
 refine Wp.seq ?_
 refine AnyH.start ((b1, .cells [.int .i64 so.1, .int .i64 so.2].toArray 31) :: cBlk cb sb tb :: []) 13 rfl ?_
 refine Tk 0 rfl rfl (pv_move rfl) rfl ?_
 refine Tk 1 rfl rfl (pv_nilCheck rfl) rfl ?_
 refine Tk 2 rfl rfl (pv_fieldAddr0 rfl rfl) rfl ?_
 refine Tk 3 rfl rfl (pv_fieldAddr0 rfl rfl) rfl ?_
 refine Tk 4 rfl rfl (pv_load rfl rfl rfl) rfl ?_
 refine Tk 5 rfl rfl (pv_loadK [_, _] rfl rfl rfl ⟨rfl, rfl, trivial⟩) rfl ?_
 refine AnyH.two 6 10 (by kernel_rfl) ?_ ?_
 ·
  refine Turn.ef rfl rfl (ef_callr (sf_get hS so) rfl rfl) ?_ ?_
  ·
   rintro _ _ ⟨rfl, rfl⟩; infer_instance
  rintro _ _ ⟨rfl, rfl⟩
  refine Tk 7 rfl rfl (pv_move rfl) rfl ?_
  refine Tk 8 rfl rfl (pv_extract rfl rfl) rfl ?_
  refine Tk 9 rfl rfl (pv_extract rfl rfl) rfl ?_
  refine AnyH.one 10 (by kernel_rfl) ?_
  refine Turn.ef rfl rfl (ef_allocK tyZ25 rfl) ?_ ?_
  ·
   rintro _ _ ⟨b2, rfl, rfl⟩; infer_instance
  rintro _ _ ⟨b2, rfl, rfl⟩
  refine AnyH.one 11 (by kernel_rfl) ?_
  refine Turn.ef rfl rfl (ef_storeK rfl rfl rfl rfl) ?_ ?_
  ·
   rintro _ _ ⟨rfl, rfl⟩; infer_instance
  rintro _ _ ⟨rfl, rfl⟩
  refine Tk 12 rfl rfl (pv_assign rfl) rfl ?_
  refine AnyH.done (by kernel_rfl) ?_
  refine Ends.seq ?_
  refine Wp.seq ?_
  refine Wp.seq ?_
  refine Wp.region ?_
  refine Ops.pv (pv_move rfl) rfl ?_
  refine Ops.pv (pv_eql rfl rfl) rfl ?_
  refine Ops.pv (pv_move rfl) rfl ?_
  refine Ops.pvc rfl rfl (fun hg => pv_fieldAddr0 rfl rfl) rfl ?_
  refine Ops.pvc rfl rfl (fun hg => Pv.setE (t := 20) rfl (cv_pos hg) (pv_load rfl rfl rfl)) rfl ?_
  refine Ops.pvc rfl rfl (fun hg => Pv.setE (t := 20) rfl (cv_pos hg) (Pv.setE (t := 21) rfl (cv_pos hg) (pv_neq rfl rfl))) rfl ?_
  refine Ops.pv (pv_pick_and rfl rfl) rfl ?_
  refine Ops.nil ?_
  refine Ends.seq ?_
  refine Wp.cond_dect rfl (fun h1 => ?_) (fun h1 => ?_)
  ·
   refine Wp.region ?_
   refine Ops.pv (pv_assign rfl) rfl ?_
   refine Ops.nil ?_
   refine Ends.seq ?_
   refine Wp.seq ?_
   refine Wp.region ?_
   refine Ops.pv (pv_move rfl) rfl ?_
   refine Ops.pv (pv_assign rfl) rfl ?_
   refine Ops.nil ?_
   refine Ends.seq ?_
   refine Wp.ret ?_
   have he : mPlace p so = 4 := if_pos (by assumption)
   exact Ends.ret (res1 rfl rfl) ⟨by rw [he], rfl⟩
  refine Wp.skip ?_
  refine Ends.seq ?_
  refine Wp.seq ?_
  refine Wp.region ?_
  refine Ops.pv (pv_move rfl) rfl ?_
  refine Ops.pv (pv_assign rfl) rfl ?_
  refine Ops.nil ?_
  refine Ends.seq ?_
  refine Wp.ret ?_
  have he : mPlace p so = (dget p.l so).2 := if_neg (by assumption)
  exact Ends.ret (res1 rfl rfl) ⟨by rw [he], rfl⟩
 refine Turn.ef rfl rfl (ef_allocK tyZ25 rfl) ?_ ?_
 ·
  rintro _ _ ⟨b3, rfl, rfl⟩; infer_instance
 rintro _ _ ⟨b3, rfl, rfl⟩
 refine AnyH.one 6 (by kernel_rfl) ?_
 refine Turn.ef rfl rfl (ef_callr (sf_get hS so) rfl rfl) ?_ ?_
 ·
  rintro _ _ ⟨rfl, rfl⟩; infer_instance
 rintro _ _ ⟨rfl, rfl⟩
 refine Tk 7 rfl rfl (pv_move rfl) rfl ?_
 refine Tk 8 rfl rfl (pv_extract rfl rfl) rfl ?_
 refine Tk 9 rfl rfl (pv_extract rfl rfl) rfl ?_
 refine AnyH.one 11 (by kernel_rfl) ?_
 refine Turn.ef rfl rfl (ef_storeK rfl rfl rfl rfl) ?_ ?_
 ·
  rintro _ _ ⟨rfl, rfl⟩; infer_instance
 rintro _ _ ⟨rfl, rfl⟩
 refine Tk 12 rfl rfl (pv_assign rfl) rfl ?_
 refine AnyH.done (by kernel_rfl) ?_
 refine Ends.seq ?_
 refine Wp.seq ?_
 refine Wp.seq ?_
 refine Wp.region ?_
 refine Ops.pv (pv_move rfl) rfl ?_
 refine Ops.pv (pv_eql rfl rfl) rfl ?_
 refine Ops.pv (pv_move rfl) rfl ?_
 refine Ops.pvc rfl rfl (fun hg => pv_fieldAddr0 rfl rfl) rfl ?_
 refine Ops.pvc rfl rfl (fun hg => Pv.setE (t := 20) rfl (cv_pos hg) (pv_load rfl rfl rfl)) rfl ?_
 refine Ops.pvc rfl rfl (fun hg => Pv.setE (t := 20) rfl (cv_pos hg) (Pv.setE (t := 21) rfl (cv_pos hg) (pv_neq rfl rfl))) rfl ?_
 refine Ops.pv (pv_pick_and rfl rfl) rfl ?_
 refine Ops.nil ?_
 refine Ends.seq ?_
 refine Wp.cond_dect rfl (fun h2 => ?_) (fun h2 => ?_)
 ·
  refine Wp.region ?_
  refine Ops.pv (pv_assign rfl) rfl ?_
  refine Ops.nil ?_
  refine Ends.seq ?_
  refine Wp.seq ?_
  refine Wp.region ?_
  refine Ops.pv (pv_move rfl) rfl ?_
  refine Ops.pv (pv_assign rfl) rfl ?_
  refine Ops.nil ?_
  refine Ends.seq ?_
  refine Wp.ret ?_
  have he : mPlace p so = 4 := if_pos (by assumption)
  exact Ends.ret (res1 rfl rfl) ⟨by rw [he], rfl⟩
 refine Wp.skip ?_
 refine Ends.seq ?_
 refine Wp.seq ?_
 refine Wp.region ?_
 refine Ops.pv (pv_move rfl) rfl ?_
 refine Ops.pv (pv_assign rfl) rfl ?_
 refine Ops.nil ?_
 refine Ends.seq ?_
 refine Wp.ret ?_
 have he : mPlace p so = (dget p.l so).2 := if_neg (by assumption)
 exact Ends.ret (res1 rfl rfl) ⟨by rw [he], rfl⟩
theorem tr_mBoth (n cb : Nat) (L : Hp) (p : PS) (hH : CapsH n p cb L) (so de : SlotM) : TrR Tryz.prog 81 [cpP cb, slotV so, slotV de] (L) (.tuple #[(mBoth p so de).1.v, .int .i64 (mBoth p so de).2]) := by
 refine Tr.enter Tryz.func81 rfl Tryz.ntmps81 rfl (fun W F => ?_)
 refine Wp.app ?_
 refine Wp.seq ?_
 refine Wp.region ?_
 refine Ops.ef rfl (ef_boxK rfl rfl) ?_
 rintro _ _ ⟨b1, rfl, rfl⟩
 refine Ops.ef rfl (ef_boxK rfl rfl) ?_
 rintro _ _ ⟨b2, rfl, rfl⟩
 refine Ops.ef rfl (ef_allocK tyZ25 rfl) ?_
 rintro _ _ ⟨b3, rfl, rfl⟩
 refine Ops.pv (pv_assign rfl) rfl ?_
 refine Ops.nil ?_
 refine Ends.seq ?_
 refine Wp.seq ?_
 refine Wp.region ?_
 refine Ops.pv (pv_move rfl) rfl ?_
 refine Ops.pv (pv_loadK [_, _] rfl rfl rfl ⟨rfl, rfl, trivial⟩) rfl ?_
 refine Ops.ef rfl (ef_callr (tr_mSource n cb L p hH so) rfl rfl) ?_
 rintro _ _ ⟨rfl, rfl⟩
 refine Ops.pv (pv_move rfl) rfl ?_
 refine Ops.pv (pv_extract rfl rfl) rfl ?_
 refine Ops.pv (pv_extract rfl rfl) rfl ?_
 refine Ops.ef rfl (ef_allocK tyZ25 rfl) ?_
 rintro _ _ ⟨b4, rfl, rfl⟩
 refine Ops.ef rfl (ef_storeK rfl rfl rfl rfl) ?_
 rintro _ _ ⟨rfl, rfl⟩
 refine Ops.pv (pv_assign rfl) rfl ?_
 refine Ops.nil ?_
 refine Ends.seq ?_
 refine Wp.seq ?_
 refine Wp.seq ?_
 refine Wp.region ?_
 refine Ops.pv (pv_move rfl) rfl ?_
 refine Ops.pv (pv_eql rfl rfl) rfl ?_
 refine Ops.nil ?_
 refine Ends.seq ?_
 refine Wp.cond_dect rfl (fun h1 => ?_) (fun h1 => ?_)
 ·
  refine Wp.region ?_
  refine Ops.pv (pv_move rfl) rfl ?_
  refine Ops.pv (pv_loadK [_, _] rfl rfl rfl ⟨rfl, rfl, trivial⟩) rfl ?_
  refine Ops.ef rfl (ef_callr (tr_mPlace n cb L p hH de) rfl rfl) ?_
  rintro _ _ ⟨rfl, rfl⟩
  refine Ops.pv (pv_assign rfl) rfl ?_
  refine Ops.nil ?_
  refine Ends.seq ?_
  refine Wp.seq ?_
  refine Wp.region ?_
  refine Ops.pv (pv_loadK [_, _, _, _, _, _] rfl rfl rfl ⟨rfl, rfl, rfl, rfl, rfl, rfl, trivial⟩) rfl ?_
  refine Ops.pv (pv_move rfl) rfl ?_
  refine Ops.ef rfl (ef_storeK rfl rfl rfl rfl) ?_
  rintro _ _ ⟨rfl, rfl⟩
  refine Ops.pv (pv_assign rfl) rfl ?_
  refine Ops.nil ?_
  refine Ends.seq ?_
  refine Wp.ret ?_
  have he : mBoth p so de = ((mSource p so).1, mPlace p de) := by unfold mBoth; rw [if_pos (by assumption)]
  exact Ends.ret (res_list (rs := [.cell 6 25, .tmp 7]) rfl ⟨_, _, rfl, rv_cellK [_, _, _, _, _, _] rfl rfl rfl ⟨rfl, rfl, rfl, rfl, rfl, rfl, trivial⟩, ⟨_, _, rfl, rv_tmp rfl, rfl⟩⟩ rfl) ⟨by rw [he], rfl⟩
 refine Wp.skip ?_
 refine Ends.seq ?_
 refine Wp.seq ?_
 refine Wp.region ?_
 refine Ops.pv (pv_loadK [_, _, _, _, _, _] rfl rfl rfl ⟨rfl, rfl, rfl, rfl, rfl, rfl, trivial⟩) rfl ?_
 refine Ops.pv (pv_move rfl) rfl ?_
 refine Ops.ef rfl (ef_storeK rfl rfl rfl rfl) ?_
 rintro _ _ ⟨rfl, rfl⟩
 refine Ops.pv (pv_assign rfl) rfl ?_
 refine Ops.nil ?_
 refine Ends.seq ?_
 refine Wp.ret ?_
 have he : mBoth p so de = ((mSource p so).1, (mSource p so).2) := by unfold mBoth; rw [if_neg (by assumption)]
 exact Ends.ret (res_list (rs := [.cell 6 25, .tmp 7]) rfl ⟨_, _, rfl, rv_cellK [_, _, _, _, _, _] rfl rfl rfl ⟨rfl, rfl, rfl, rfl, rfl, rfl, trivial⟩, ⟨_, _, rfl, rv_tmp rfl, rfl⟩⟩ rfl) ⟨by rw [he], rfl⟩
theorem tr_mPar (n cb : Nat) (L : Hp) (p : PS) (hH : CapsH n p cb L) (so : SlotM) : TrR Tryz.prog 53 [cpP cb, slotV so] (L) (.tuple #[slotV (ftPar p.F so), .bool (ftParB p.F so)]) := by
 obtain ⟨sb, tb, Ls, Lt, hS, hT, rfl⟩ := hH
 refine Tr.enter Tryz.func53 rfl Tryz.ntmps53 rfl (fun W F => ?_)
 refine Wp.app ?_
 refine Wp.seq ?_
 refine Wp.region ?_
 refine Ops.ef rfl (ef_boxK rfl rfl) ?_
 rintro _ _ ⟨b1, rfl, rfl⟩
 refine Ops.ef rfl (ef_allocK tyZ31 rfl) ?_
 rintro _ _ ⟨b2, rfl, rfl⟩
 refine Ops.pv (pv_assign rfl) rfl ?_
 refine Ops.nil ?_
 refine Ends.seq ?_
 refine Wp.seq ?_
 refine AnyH.start ((b1, .cells [.int .i64 so.1, .int .i64 so.2].toArray 31) :: cBlk cb sb tb :: []) 10 rfl ?_
 refine Tk 0 rfl rfl (pv_move rfl) rfl ?_
 refine Tk 1 rfl rfl (pv_nilCheck rfl) rfl ?_
 refine Tk 2 rfl rfl (pv_fieldAddr0 rfl rfl) rfl ?_
 refine Tk 3 rfl rfl (pv_load rfl rfl rfl) rfl ?_
 refine Tk 4 rfl rfl (pv_loadK [_, _] rfl rfl rfl ⟨rfl, rfl, trivial⟩) rfl ?_
 refine AnyH.one 5 (by kernel_rfl) ?_
 refine Turn.ef rfl rfl (ef_callr (tr_fPar hT so) rfl rfl) ?_ ?_
 ·
  rintro _ _ ⟨rfl, rfl⟩; infer_instance
 rintro _ _ ⟨rfl, rfl⟩
 refine Tk 6 rfl rfl (pv_extract rfl rfl) rfl ?_
 refine Tk 7 rfl rfl (pv_extract rfl rfl) rfl ?_
 refine AnyH.one 8 (by kernel_rfl) ?_
 refine Turn.ef rfl rfl (ef_storeK rfl rfl rfl rfl) ?_ ?_
 ·
  rintro _ _ ⟨rfl, rfl⟩; infer_instance
 rintro _ _ ⟨rfl, rfl⟩
 refine Tk 9 rfl rfl (pv_assign rfl) rfl ?_
 refine AnyH.done (by kernel_rfl) ?_
 refine Ends.seq ?_
 refine Wp.ret ?_
 exact Ends.ret (res_list (rs := [.cell 4 31, .tmp 5]) rfl ⟨_, _, rfl, rv_cellK [_, _] rfl rfl rfl ⟨rfl, rfl, trivial⟩, ⟨_, _, rfl, rv_tmp rfl, rfl⟩⟩ rfl) ⟨rfl, rfl⟩
theorem tr_mKin (n cb : Nat) (L : Hp) (p : PS) (hH : CapsH n p cb L) (hn : n ≤ 2 ^ 19) (so : SlotM) : Tr Tryz.prog 14 [cpP cb, slotV so] (L) (fun u L' => ∃ K, Slc 31 2 u (ftKin p.F so).length (slotsCells (ftKin p.F so)) K ∧ L' = K ++ L) := by
 obtain ⟨sb, tb, Ls, Lt, hS, hT, rfl⟩ := hH
 refine Tr.enter Tryz.func14 rfl Tryz.ntmps14 rfl (fun W F => ?_)
 refine Wp.app ?_
 refine Wp.seq ?_
 refine Wp.region ?_
 refine Ops.ef rfl (ef_boxK rfl rfl) ?_
 rintro _ _ ⟨b1, rfl, rfl⟩
 refine Ops.pv (pv_assign rfl) rfl ?_
 refine Ops.nil ?_
 refine Ends.seq ?_
 refine Wp.seq ?_
 refine AnyH.start ((b1, .cells [.int .i64 so.1, .int .i64 so.2].toArray 31) :: cBlk cb sb tb :: []) 7 rfl ?_
 refine Tk 0 rfl rfl (pv_move rfl) rfl ?_
 refine Tk 1 rfl rfl (pv_nilCheck rfl) rfl ?_
 refine Tk 2 rfl rfl (pv_fieldAddr0 rfl rfl) rfl ?_
 refine Tk 3 rfl rfl (pv_load rfl rfl rfl) rfl ?_
 refine Tk 4 rfl rfl (pv_loadK [_, _] rfl rfl rfl ⟨rfl, rfl, trivial⟩) rfl ?_
 refine AnyH.one 5 (by kernel_rfl) ?_
 refine Turn.ef rfl rfl (ef_call (tr_fKin hT (by omega) so) rfl rfl) ?_ ?_
 ·
  rintro _ _ ⟨_, _, ⟨C1, hc1, rfl⟩, rfl, rfl⟩; infer_instance
 rintro _ _ ⟨_, _, ⟨C1, hc1, rfl⟩, rfl, rfl⟩
 refine AnyH.app ?_
 obtain ⟨pp1, qq1, rfl⟩ := hc1.form
 refine Tk 6 rfl rfl (pv_assign rfl) rfl ?_
 refine AnyH.done (by kernel_rfl) ?_
 refine Ends.seq ?_
 refine Wp.ret ?_
 exact Ends.ret (L' := C1 ++ (cBlk cb sb tb :: (Ls ++ Lt))) (res1 rfl rfl) ⟨C1, hc1, rfl⟩
theorem tr_mKids (n cb : Nat) (L : Hp) (p : PS) (hH : CapsH n p cb L) (hn : n ≤ 2 ^ 19) (so : SlotM) : Tr Tryz.prog 55 [cpP cb, slotV so] (L) (fun u L' => ∃ K, Slc 31 2 u (ftKids p.F so).length (slotsCells (ftKids p.F so)) K ∧ L' = K ++ L) := by
 obtain ⟨sb, tb, Ls, Lt, hS, hT, rfl⟩ := hH
 refine Tr.enter Tryz.func55 rfl Tryz.ntmps55 rfl (fun W F => ?_)
 refine Wp.app ?_
 refine Wp.seq ?_
 refine Wp.region ?_
 refine Ops.ef rfl (ef_boxK rfl rfl) ?_
 rintro _ _ ⟨b1, rfl, rfl⟩
 refine Ops.pv (pv_assign rfl) rfl ?_
 refine Ops.nil ?_
 refine Ends.seq ?_
 refine Wp.seq ?_
 refine AnyH.start ((b1, .cells [.int .i64 so.1, .int .i64 so.2].toArray 31) :: cBlk cb sb tb :: []) 7 rfl ?_
 refine Tk 0 rfl rfl (pv_move rfl) rfl ?_
 refine Tk 1 rfl rfl (pv_nilCheck rfl) rfl ?_
 refine Tk 2 rfl rfl (pv_fieldAddr0 rfl rfl) rfl ?_
 refine Tk 3 rfl rfl (pv_load rfl rfl rfl) rfl ?_
 refine Tk 4 rfl rfl (pv_loadK [_, _] rfl rfl rfl ⟨rfl, rfl, trivial⟩) rfl ?_
 refine AnyH.one 5 (by kernel_rfl) ?_
 refine Turn.ef rfl rfl (ef_call (tr_fKids hT (by omega) so) rfl rfl) ?_ ?_
 ·
  rintro _ _ ⟨_, _, ⟨C1, hc1, rfl⟩, rfl, rfl⟩; infer_instance
 rintro _ _ ⟨_, _, ⟨C1, hc1, rfl⟩, rfl, rfl⟩
 refine AnyH.app ?_
 obtain ⟨pp1, qq1, rfl⟩ := hc1.form
 refine Tk 6 rfl rfl (pv_assign rfl) rfl ?_
 refine AnyH.done (by kernel_rfl) ?_
 refine Ends.seq ?_
 refine Wp.ret ?_
 exact Ends.ret (L' := C1 ++ (cBlk cb sb tb :: (Ls ++ Lt))) (res1 rfl rfl) ⟨C1, hc1, rfl⟩
theorem tr_mPlant (n cb : Nat) (L : Hp) (p : PS) (hH : CapsH n p cb L) (so : SlotM) (c : CapM) : Tr Tryz.prog 33 [cpP cb, slotV so, c.v] (L) (fun u L' => u = .int .i64 (mPlant p so c).1 ∧ CapsH (n + 1) (mPlant p so c).2 cb L') := by
 obtain ⟨sb, tb, Ls, Lt, hS, hT, rfl⟩ := hH
 refine Tr.enter Tryz.func33 rfl Tryz.ntmps33 rfl (fun W F => ?_)
 refine Wp.app ?_
 refine Wp.seq ?_
 refine Wp.region ?_
 refine Ops.ef rfl (ef_boxK rfl rfl) ?_
 rintro _ _ ⟨b1, rfl, rfl⟩
 refine Ops.ef rfl (ef_boxK rfl rfl) ?_
 rintro _ _ ⟨b2, rfl, rfl⟩
 refine Ops.pv (pv_assign rfl) rfl ?_
 refine Ops.nil ?_
 refine Ends.seq ?_
 refine Wp.seq ?_
 refine AnyH.start ((b2, .cells c.cells.toArray 25) :: (b1, .cells [.int .i64 so.1, .int .i64 so.2].toArray 31) :: cBlk cb sb tb :: []) 9 rfl ?_
 refine Tk 0 rfl rfl (pv_move rfl) rfl ?_
 refine Tk 1 rfl rfl (pv_nilCheck rfl) rfl ?_
 refine Tk 2 rfl rfl (pv_fieldAddr0 rfl rfl) rfl ?_
 refine Tk 3 rfl rfl (pv_fieldAddr0 rfl rfl) rfl ?_
 refine Tk 4 rfl rfl (pv_load rfl rfl rfl) rfl ?_
 refine Tk 5 rfl rfl (pv_loadK [_, _] rfl rfl rfl ⟨rfl, rfl, trivial⟩) rfl ?_
 refine Tk 6 rfl rfl (pv_loadK [_, _, _, _, _, _] rfl rfl rfl ⟨rfl, rfl, rfl, rfl, rfl, rfl, trivial⟩) rfl ?_
 refine AnyH.one 7 (by kernel_rfl) ?_
 refine Turn.ef rfl rfl (ef_call (sf_put hS so c) rfl rfl) ?_ ?_
 ·
  rintro _ _ ⟨_, Q1, ⟨rfl, hS2⟩, rfl, rfl⟩; infer_instance
 rintro _ _ ⟨_, Q1, ⟨rfl, hS2⟩, rfl, rfl⟩
 refine AnyH.app ?_
 skip
 refine Tk 8 rfl rfl (pv_assign rfl) rfl ?_
 refine AnyH.done (by kernel_rfl) ?_
 refine Ends.seq ?_
 refine Wp.seq ?_
 refine Wp.seq ?_
 refine Wp.region ?_
 refine Ops.pv (pv_move rfl) rfl ?_
 refine Ops.pv (pv_eql rfl rfl) rfl ?_
 refine Ops.nil ?_
 refine Ends.seq ?_
 refine Wp.cond_dect rfl (fun h1 => ?_) (fun h1 => ?_)
 ·
  refine AnyH.start ((b1, .cells [.int .i64 so.1, .int .i64 so.2].toArray 31) :: cBlk cb sb tb :: []) 6 rfl ?_
  refine Tk 0 rfl rfl (pv_move rfl) rfl ?_
  refine Tk 1 rfl rfl (pv_nilCheck rfl) rfl ?_
  refine Tk 2 rfl rfl (pv_fieldAddr0 rfl rfl) rfl ?_
  refine Tk 3 rfl rfl (pv_load rfl rfl rfl) rfl ?_
  refine Tk 4 rfl rfl (pv_loadK [_, _] rfl rfl rfl ⟨rfl, rfl, trivial⟩) rfl ?_
  refine AnyH.one 5 (by kernel_rfl) ?_
  refine Turn.ef rfl rfl (ef_call (tr_fRoot hT so) rfl rfl) ?_ ?_
  ·
   rintro _ _ ⟨_, R1, ⟨rfl, hT2⟩, rfl, rfl⟩; infer_instance
  rintro _ _ ⟨_, R1, ⟨rfl, hT2⟩, rfl, rfl⟩
  refine AnyH.app ?_
  skip
  refine AnyH.done (by kernel_rfl) ?_
  refine Ends.seq ?_
  refine Wp.seq ?_
  refine Wp.region ?_
  refine Ops.pv (pv_move rfl) rfl ?_
  refine Ops.pv (pv_assign rfl) rfl ?_
  refine Ops.nil ?_
  refine Ends.seq ?_
  refine Wp.ret ?_
  have he : mPlant p so c = ((dput p.l so c).1, ⟨(dput p.l so c).2, (ftRoot p.F so).2⟩) := by unfold mPlant; rw [if_pos (by assumption)]
  rw [he]
  exact Ends.ret (L' := cBlk cb sb tb :: (Q1 ++ R1)) (res1 rfl rfl) ⟨rfl, sb, tb, Q1, R1, hS2, hT2, rfl⟩
 refine Wp.skip ?_
 refine Ends.seq ?_
 refine Wp.seq ?_
 refine Wp.region ?_
 refine Ops.pv (pv_move rfl) rfl ?_
 refine Ops.pv (pv_assign rfl) rfl ?_
 refine Ops.nil ?_
 refine Ends.seq ?_
 refine Wp.ret ?_
 have he : mPlant p so c = ((dput p.l so c).1, ⟨(dput p.l so c).2, p.F⟩) := by unfold mPlant; rw [if_neg (by assumption)]
 rw [he]
 exact Ends.ret (L' := cBlk cb sb tb :: (Q1 ++ Lt)) (res1 rfl rfl) ⟨rfl, sb, tb, Q1, Lt, hS2, hT.more (by omega), rfl⟩
theorem tr_mChild (n cb : Nat) (L : Hp) (p : PS) (hH : CapsH n p cb L) (hn : n ≤ 2 ^ 19) (so de : SlotM) (c : CapM) : Tr Tryz.prog 35 [cpP cb, slotV so, slotV de, c.v] (L) (fun u L' => u = .int .i64 (mChild p so de c).1 ∧ CapsH (n + 1) (mChild p so de c).2 cb L') := by
 have hH0 := hH
 obtain ⟨sb, tb, Ls, Lt, hS, hT, rfl⟩ := hH
 refine Tr.enter Tryz.func35 rfl Tryz.ntmps35 rfl (fun W F => ?_)
 refine Wp.app ?_
 refine Wp.seq ?_
 refine Wp.region ?_
 refine Ops.ef rfl (ef_boxK rfl rfl) ?_
 rintro _ _ ⟨b1, rfl, rfl⟩
 refine Ops.ef rfl (ef_boxK rfl rfl) ?_
 rintro _ _ ⟨b2, rfl, rfl⟩
 refine Ops.ef rfl (ef_boxK rfl rfl) ?_
 rintro _ _ ⟨b3, rfl, rfl⟩
 refine Ops.pv (pv_assign rfl) rfl ?_
 refine Ops.nil ?_
 refine Ends.seq ?_
 refine Wp.seq ?_
 refine Wp.seq ?_
 refine Wp.region ?_
 refine Ops.pv (pv_move rfl) rfl ?_
 refine Ops.pv (pv_loadK [_, _] rfl rfl rfl ⟨rfl, rfl, trivial⟩) rfl ?_
 refine Ops.pv (pv_loadK [_, _] rfl rfl rfl ⟨rfl, rfl, trivial⟩) rfl ?_
 refine Ops.ef rfl (ef_callr (tr_mBoth n cb (cBlk cb sb tb :: (Ls ++ Lt)) p hH0 so de) rfl rfl) ?_
 rintro _ _ ⟨rfl, rfl⟩
 refine Ops.pv (pv_move rfl) rfl ?_
 refine Ops.pv (pv_extract rfl rfl) rfl ?_
 refine Ops.pv (pv_extract rfl rfl) rfl ?_
 refine Ops.ef rfl (ef_allocK tyZ25 rfl) ?_
 rintro _ _ ⟨b4, rfl, rfl⟩
 refine Ops.ef rfl (ef_storeK rfl rfl rfl rfl) ?_
 rintro _ _ ⟨rfl, rfl⟩
 refine Ops.pv (pv_assign rfl) rfl ?_
 refine Ops.nil ?_
 refine Ends.seq ?_
 refine Wp.seq ?_
 refine Wp.region ?_
 refine Ops.pv (pv_move rfl) rfl ?_
 refine Ops.pv (pv_neq rfl rfl) rfl ?_
 refine Ops.nil ?_
 refine Ends.seq ?_
 refine Wp.cond_dect rfl (fun h1 => ?_) (fun h1 => ?_)
 ·
  refine Wp.seq ?_
  refine Wp.region ?_
  refine Ops.pv (pv_move rfl) rfl ?_
  refine Ops.pv (pv_assign rfl) rfl ?_
  refine Ops.nil ?_
  refine Ends.seq ?_
  refine Wp.ret ?_
  refine Ends.then_ret ?_
  have he : mChild p so de c = ((mBoth p so de).2, p) := by unfold mChild; rw [if_pos (by assumption)]
  rw [he]
  exact Ends.ret (L' := (cBlk cb sb tb :: (Ls ++ Lt))) (res1 rfl rfl) ⟨rfl, sb, tb, Ls, Lt, hS, hT.more (by omega), rfl⟩
 refine Wp.skip ?_
 refine Ends.seq ?_
 refine Wp.seq ?_
 refine AnyH.start ((b3, .cells c.cells.toArray 25) :: (b2, .cells [.int .i64 de.1, .int .i64 de.2].toArray 31) :: cBlk cb sb tb :: []) 9 rfl ?_
 refine Tk 0 rfl rfl (pv_move rfl) rfl ?_
 refine Tk 1 rfl rfl (pv_nilCheck rfl) rfl ?_
 refine Tk 2 rfl rfl (pv_fieldAddr0 rfl rfl) rfl ?_
 refine Tk 3 rfl rfl (pv_fieldAddr0 rfl rfl) rfl ?_
 refine Tk 4 rfl rfl (pv_load rfl rfl rfl) rfl ?_
 refine Tk 5 rfl rfl (pv_loadK [_, _] rfl rfl rfl ⟨rfl, rfl, trivial⟩) rfl ?_
 refine Tk 6 rfl rfl (pv_loadK [_, _, _, _, _, _] rfl rfl rfl ⟨rfl, rfl, rfl, rfl, rfl, rfl, trivial⟩) rfl ?_
 refine AnyH.one 7 (by kernel_rfl) ?_
 refine Turn.ef rfl rfl (ef_call (sf_put hS de c) rfl rfl) ?_ ?_
 ·
  rintro _ _ ⟨_, Q1, ⟨rfl, hS2⟩, rfl, rfl⟩; infer_instance
 rintro _ _ ⟨_, Q1, ⟨rfl, hS2⟩, rfl, rfl⟩
 refine AnyH.app ?_
 skip
 refine Tk 8 rfl rfl (pv_assign rfl) rfl ?_
 refine AnyH.done (by kernel_rfl) ?_
 refine Ends.seq ?_
 refine Wp.seq ?_
 refine Wp.seq ?_
 refine Wp.region ?_
 refine Ops.pv (pv_move rfl) rfl ?_
 refine Ops.pv (pv_eql rfl rfl) rfl ?_
 refine Ops.nil ?_
 refine Ends.seq ?_
 refine Wp.cond_dect rfl (fun h2 => ?_) (fun h2 => ?_)
 ·
  refine AnyH.start ((b2, .cells [.int .i64 de.1, .int .i64 de.2].toArray 31) :: (b1, .cells [.int .i64 so.1, .int .i64 so.2].toArray 31) :: cBlk cb sb tb :: []) 7 rfl ?_
  refine Tk 0 rfl rfl (pv_move rfl) rfl ?_
  refine Tk 1 rfl rfl (pv_nilCheck rfl) rfl ?_
  refine Tk 2 rfl rfl (pv_fieldAddr0 rfl rfl) rfl ?_
  refine Tk 3 rfl rfl (pv_load rfl rfl rfl) rfl ?_
  refine Tk 4 rfl rfl (pv_loadK [_, _] rfl rfl rfl ⟨rfl, rfl, trivial⟩) rfl ?_
  refine Tk 5 rfl rfl (pv_loadK [_, _] rfl rfl rfl ⟨rfl, rfl, trivial⟩) rfl ?_
  refine AnyH.one 6 (by kernel_rfl) ?_
  refine Turn.ef rfl rfl (ef_call (tr_fChild hT (by omega) so de) rfl rfl) ?_ ?_
  ·
   rintro _ _ ⟨_, R1, ⟨rfl, hT2⟩, rfl, rfl⟩; infer_instance
  rintro _ _ ⟨_, R1, ⟨rfl, hT2⟩, rfl, rfl⟩
  refine AnyH.app ?_
  skip
  refine AnyH.done (by kernel_rfl) ?_
  refine Ends.seq ?_
  refine Wp.seq ?_
  refine Wp.region ?_
  refine Ops.pv (pv_move rfl) rfl ?_
  refine Ops.pv (pv_assign rfl) rfl ?_
  refine Ops.nil ?_
  refine Ends.seq ?_
  refine Wp.ret ?_
  have he : mChild p so de c = ((dput p.l de c).1, ⟨(dput p.l de c).2, (ftChild p.F so de).2⟩) := by unfold mChild; rw [if_neg (by assumption), if_pos (by assumption)]
  rw [he]
  exact Ends.ret (L' := cBlk cb sb tb :: (Q1 ++ R1)) (res1 rfl rfl) ⟨rfl, sb, tb, Q1, R1, hS2, hT2, rfl⟩
 refine Wp.skip ?_
 refine Ends.seq ?_
 refine Wp.seq ?_
 refine Wp.region ?_
 refine Ops.pv (pv_move rfl) rfl ?_
 refine Ops.pv (pv_assign rfl) rfl ?_
 refine Ops.nil ?_
 refine Ends.seq ?_
 refine Wp.ret ?_
 have he : mChild p so de c = ((dput p.l de c).1, ⟨(dput p.l de c).2, p.F⟩) := by unfold mChild; rw [if_neg (by assumption), if_neg (by assumption)]
 rw [he]
 exact Ends.ret (L' := cBlk cb sb tb :: (Q1 ++ Lt)) (res1 rfl rfl) ⟨rfl, sb, tb, Q1, Lt, hS2, hT.more (by omega), rfl⟩
theorem CapsH.more {n m cb : Nat} {L : Hp} {p : PS} (h : CapsH n p cb L) (hm : n ≤ m) : CapsH m p cb L := by
 obtain ⟨sb, tb, Ls, Lt, hS, hT, rfl⟩ := h
 exact ⟨sb, tb, Ls, Lt, hS, hT.more hm, rfl⟩
theorem tr_mMint (n cb : Nat) (L : Hp) (p : PS) (hH : CapsH n p cb L) (hn : n ≤ 2 ^ 19) (so de : SlotM) (r bd g k : Int) : Tr Tryz.prog 39 [cpP cb, slotV so, slotV de, .int .i64 r, .int .u64 bd, .int .u64 g, .int .i64 k] (L) (fun u L' => u = .int .i64 (mMint p so de r bd g k).1 ∧ CapsH (n + 1) (mMint p so de r bd g k).2 cb L') := by
 refine Tr.enter Tryz.func39 rfl Tryz.ntmps39 rfl (fun W F => ?_)
 refine Wp.app ?_
 refine Wp.seq ?_
 refine Wp.region ?_
 refine Ops.ef rfl (ef_boxK rfl rfl) ?_
 rintro _ _ ⟨b1, rfl, rfl⟩
 refine Ops.ef rfl (ef_boxK rfl rfl) ?_
 rintro _ _ ⟨b2, rfl, rfl⟩
 refine Ops.pv (pv_assign rfl) rfl ?_
 refine Ops.nil ?_
 refine Ends.seq ?_
 refine Wp.seq ?_
 refine Wp.region ?_
 refine Ops.pv (pv_move rfl) rfl ?_
 refine Ops.pv (pv_loadK [_, _] rfl rfl rfl ⟨rfl, rfl, trivial⟩) rfl ?_
 refine Ops.pv (pv_loadK [_, _] rfl rfl rfl ⟨rfl, rfl, trivial⟩) rfl ?_
 refine Ops.ef rfl (ef_callr (tr_mBoth n cb L p hH so de) rfl rfl) ?_
 rintro _ _ ⟨rfl, rfl⟩
 refine Ops.pv (pv_move rfl) rfl ?_
 refine Ops.pv (pv_extract rfl rfl) rfl ?_
 refine Ops.pv (pv_extract rfl rfl) rfl ?_
 refine Ops.ef rfl (ef_allocK tyZ25 rfl) ?_
 rintro _ _ ⟨b3, rfl, rfl⟩
 refine Ops.ef rfl (ef_storeK rfl rfl rfl rfl) ?_
 rintro _ _ ⟨rfl, rfl⟩
 refine Ops.pv (pv_assign rfl) rfl ?_
 refine Ops.nil ?_
 refine Ends.seq ?_
 refine Wp.seq ?_
 refine Wp.seq ?_
 refine Wp.region ?_
 refine Ops.pv (pv_move rfl) rfl ?_
 refine Ops.pv (pv_neq rfl rfl) rfl ?_
 refine Ops.nil ?_
 refine Ends.seq ?_
 refine Wp.cond_dect rfl (fun h1 => ?_) (fun h1 => ?_)
 ·
  refine Wp.seq ?_
  refine Wp.region ?_
  refine Ops.pv (pv_move rfl) rfl ?_
  refine Ops.pv (pv_assign rfl) rfl ?_
  refine Ops.nil ?_
  refine Ends.seq ?_
  refine Wp.ret ?_
  refine Ends.then_ret ?_
  have he : mMint p so de r bd g k = ((mBoth p so de).2, p) := by unfold mMint; rw [if_pos (by assumption)]
  rw [he]
  exact Ends.ret (L' := L) (res1 rfl rfl) ⟨rfl, hH.more (by omega)⟩
 refine Wp.skip ?_
 refine Ends.seq ?_
 refine Wp.seq ?_
 refine Wp.region ?_
 refine Ops.pv (pv_loadK [_, _, _, _, _, _] rfl rfl rfl ⟨rfl, rfl, rfl, rfl, rfl, rfl, trivial⟩) rfl ?_
 refine Ops.pv (pv_move rfl) rfl ?_
 refine Ops.pv (pv_move rfl) rfl ?_
 refine Ops.pv (pv_move rfl) rfl ?_
 refine Ops.pv (pv_move rfl) rfl ?_
 refine Ops.ef rfl (ef_callr (tr_derive (mBoth p so de).1 r bd g k) rfl rfl) ?_
 rintro _ _ ⟨rfl, rfl⟩
 refine Ops.pv (pv_move rfl) rfl ?_
 refine Ops.pv (pv_extract rfl rfl) rfl ?_
 refine Ops.pv (pv_extract rfl rfl) rfl ?_
 refine Ops.ef rfl (ef_allocK tyZ25 rfl) ?_
 rintro _ _ ⟨b4, rfl, rfl⟩
 refine Ops.ef rfl (ef_storeK rfl rfl rfl rfl) ?_
 rintro _ _ ⟨rfl, rfl⟩
 refine Ops.pv (pv_assign rfl) rfl ?_
 refine Ops.nil ?_
 refine Ends.seq ?_
 refine Wp.seq ?_
 refine Wp.seq ?_
 refine Wp.region ?_
 refine Ops.pv (pv_move rfl) rfl ?_
 refine Ops.pv (pv_neq rfl rfl) rfl ?_
 refine Ops.nil ?_
 refine Ends.seq ?_
 refine Wp.cond_dect rfl (fun h2 => ?_) (fun h2 => ?_)
 ·
  refine Wp.seq ?_
  refine Wp.region ?_
  refine Ops.pv (pv_move rfl) rfl ?_
  refine Ops.pv (pv_assign rfl) rfl ?_
  refine Ops.nil ?_
  refine Ends.seq ?_
  refine Wp.ret ?_
  refine Ends.then_ret ?_
  have he : mMint p so de r bd g k = ((derive (mBoth p so de).1 r bd g k).2, p) := by unfold mMint; rw [if_neg (by assumption), if_pos (by assumption)]
  rw [he]
  exact Ends.ret (L' := L) (res1 rfl rfl) ⟨rfl, hH.more (by omega)⟩
 refine Wp.skip ?_
 refine Ends.seq ?_
 refine Wp.seq ?_
 refine Wp.region ?_
 refine Ops.pv (pv_move rfl) rfl ?_
 refine Ops.pv (pv_loadK [_, _] rfl rfl rfl ⟨rfl, rfl, trivial⟩) rfl ?_
 refine Ops.pv (pv_loadK [_, _] rfl rfl rfl ⟨rfl, rfl, trivial⟩) rfl ?_
 refine Ops.pv (pv_loadK [_, _, _, _, _, _] rfl rfl rfl ⟨rfl, rfl, rfl, rfl, rfl, rfl, trivial⟩) rfl ?_
 refine Ops.ef rfl (ef_call (tr_mChild n cb L p hH hn so de (derive (mBoth p so de).1 r bd g k).1) rfl rfl) ?_
 rintro _ _ ⟨_, Q1, ⟨rfl, hH2⟩, rfl, rfl⟩
 refine Ops.app ?_
 skip
 refine Ops.pv (pv_assign rfl) rfl ?_
 refine Ops.nil ?_
 refine Ends.seq ?_
 refine Wp.ret ?_
 have he : mMint p so de r bd g k = mChild p so de (derive (mBoth p so de).1 r bd g k).1 := by unfold mMint; rw [if_neg (by assumption), if_neg (by assumption)]
 rw [he]
 exact Ends.ret (L' := Q1) (res1 rfl rfl) ⟨rfl, hH2⟩
theorem tr_mCopy (n cb : Nat) (L : Hp) (p : PS) (hH : CapsH n p cb L) (hn : n ≤ 2 ^ 19) (so de : SlotM) (r : Int) : Tr Tryz.prog 37 [cpP cb, slotV so, slotV de, .int .i64 r] (L) (fun u L' => u = .int .i64 (mCopy p so de r).1 ∧ CapsH (n + 1) (mCopy p so de r).2 cb L') := by
 have hH0 := hH
 obtain ⟨sb, tb, Ls, Lt, hS, hT, rfl⟩ := hH
 refine Tr.enter Tryz.func37 rfl Tryz.ntmps37 rfl (fun W F => ?_)
 refine Wp.app ?_
 refine Wp.seq ?_
 refine Wp.region ?_
 refine Ops.ef rfl (ef_boxK rfl rfl) ?_
 rintro _ _ ⟨b1, rfl, rfl⟩
 refine Ops.ef rfl (ef_boxK rfl rfl) ?_
 rintro _ _ ⟨b2, rfl, rfl⟩
 refine Ops.pv (pv_assign rfl) rfl ?_
 refine Ops.nil ?_
 refine Ends.seq ?_
 refine Wp.seq ?_
 refine AnyH.start ((b1, .cells [.int .i64 so.1, .int .i64 so.2].toArray 31) :: cBlk cb sb tb :: []) 13 rfl ?_
 refine Tk 0 rfl rfl (pv_move rfl) rfl ?_
 refine Tk 1 rfl rfl (pv_nilCheck rfl) rfl ?_
 refine Tk 2 rfl rfl (pv_fieldAddr0 rfl rfl) rfl ?_
 refine Tk 3 rfl rfl (pv_fieldAddr0 rfl rfl) rfl ?_
 refine Tk 4 rfl rfl (pv_load rfl rfl rfl) rfl ?_
 refine Tk 5 rfl rfl (pv_loadK [_, _] rfl rfl rfl ⟨rfl, rfl, trivial⟩) rfl ?_
 refine AnyH.two 6 10 (by kernel_rfl) ?_ ?_
 ·
  refine Turn.ef rfl rfl (ef_callr (sf_get hS so) rfl rfl) ?_ ?_
  ·
   rintro _ _ ⟨rfl, rfl⟩; infer_instance
  rintro _ _ ⟨rfl, rfl⟩
  refine Tk 7 rfl rfl (pv_move rfl) rfl ?_
  refine Tk 8 rfl rfl (pv_extract rfl rfl) rfl ?_
  refine Tk 9 rfl rfl (pv_extract rfl rfl) rfl ?_
  refine AnyH.one 10 (by kernel_rfl) ?_
  refine Turn.ef rfl rfl (ef_allocK tyZ25 rfl) ?_ ?_
  ·
   rintro _ _ ⟨b3, rfl, rfl⟩; infer_instance
  rintro _ _ ⟨b3, rfl, rfl⟩
  refine AnyH.one 11 (by kernel_rfl) ?_
  refine Turn.ef rfl rfl (ef_storeK rfl rfl rfl rfl) ?_ ?_
  ·
   rintro _ _ ⟨rfl, rfl⟩; infer_instance
  rintro _ _ ⟨rfl, rfl⟩
  refine Tk 12 rfl rfl (pv_assign rfl) rfl ?_
  refine AnyH.done (by kernel_rfl) ?_
  refine Ends.seq ?_
  refine Wp.seq ?_
  refine Wp.region ?_
  refine Ops.pv (pv_move rfl) rfl ?_
  refine Ops.pv (pv_loadK [_, _] rfl rfl rfl ⟨rfl, rfl, trivial⟩) rfl ?_
  refine Ops.pv (pv_loadK [_, _] rfl rfl rfl ⟨rfl, rfl, trivial⟩) rfl ?_
  refine Ops.pv (pv_move rfl) rfl ?_
  refine Ops.pv (pv_fieldAddr0 rfl rfl) rfl ?_
  refine Ops.pv (pv_load rfl rfl rfl) rfl ?_
  refine Ops.pv (pv_fieldAddr0 rfl rfl) rfl ?_
  refine Ops.pv (pv_load rfl rfl rfl) rfl ?_
  refine Ops.ef rfl (ef_call (tr_mMint n cb (cBlk cb sb tb :: (Ls ++ Lt)) p hH0 hn so de r 0 (dget p.l so).1.guard (dget p.l so).1.bits) rfl rfl) ?_
  rintro _ _ ⟨_, Q1, ⟨rfl, hH2⟩, rfl, rfl⟩
  refine Ops.app ?_
  skip
  refine Ops.pv (pv_assign rfl) rfl ?_
  refine Ops.nil ?_
  refine Ends.seq ?_
  refine Wp.ret ?_
  exact Ends.ret (L' := Q1) (res1 rfl rfl) ⟨rfl, hH2⟩
 refine Turn.ef rfl rfl (ef_allocK tyZ25 rfl) ?_ ?_
 ·
  rintro _ _ ⟨b4, rfl, rfl⟩; infer_instance
 rintro _ _ ⟨b4, rfl, rfl⟩
 refine AnyH.one 6 (by kernel_rfl) ?_
 refine Turn.ef rfl rfl (ef_callr (sf_get hS so) rfl rfl) ?_ ?_
 ·
  rintro _ _ ⟨rfl, rfl⟩; infer_instance
 rintro _ _ ⟨rfl, rfl⟩
 refine Tk 7 rfl rfl (pv_move rfl) rfl ?_
 refine Tk 8 rfl rfl (pv_extract rfl rfl) rfl ?_
 refine Tk 9 rfl rfl (pv_extract rfl rfl) rfl ?_
 refine AnyH.one 11 (by kernel_rfl) ?_
 refine Turn.ef rfl rfl (ef_storeK rfl rfl rfl rfl) ?_ ?_
 ·
  rintro _ _ ⟨rfl, rfl⟩; infer_instance
 rintro _ _ ⟨rfl, rfl⟩
 refine Tk 12 rfl rfl (pv_assign rfl) rfl ?_
 refine AnyH.done (by kernel_rfl) ?_
 refine Ends.seq ?_
 refine Wp.seq ?_
 refine Wp.region ?_
 refine Ops.pv (pv_move rfl) rfl ?_
 refine Ops.pv (pv_loadK [_, _] rfl rfl rfl ⟨rfl, rfl, trivial⟩) rfl ?_
 refine Ops.pv (pv_loadK [_, _] rfl rfl rfl ⟨rfl, rfl, trivial⟩) rfl ?_
 refine Ops.pv (pv_move rfl) rfl ?_
 refine Ops.pv (pv_fieldAddr0 rfl rfl) rfl ?_
 refine Ops.pv (pv_load rfl rfl rfl) rfl ?_
 refine Ops.pv (pv_fieldAddr0 rfl rfl) rfl ?_
 refine Ops.pv (pv_load rfl rfl rfl) rfl ?_
 refine Ops.ef rfl (ef_call (tr_mMint n cb (cBlk cb sb tb :: (Ls ++ Lt)) p hH0 hn so de r 0 (dget p.l so).1.guard (dget p.l so).1.bits) rfl rfl) ?_
 rintro _ _ ⟨_, Q2, ⟨rfl, hH2⟩, rfl, rfl⟩
 refine Ops.app ?_
 skip
 refine Ops.pv (pv_assign rfl) rfl ?_
 refine Ops.nil ?_
 refine Ends.seq ?_
 refine Wp.ret ?_
 exact Ends.ret (L' := Q2) (res1 rfl rfl) ⟨rfl, hH2⟩
theorem tr_mCarry (n cb : Nat) (L : Hp) (p : PS) (hH : CapsH n p cb L) (so de : SlotM) (c : CapM) : Tr Tryz.prog 88 [cpP cb, slotV so, slotV de, c.v] (L) (fun u L' => u = .tuple #[] ∧ CapsH n (mCarry p so de c) cb L') := by
 obtain ⟨sb, tb, Ls, Lt, hS, hT, rfl⟩ := hH
 refine Tr.enter Tryz.func88 rfl Tryz.ntmps88 rfl (fun W F => ?_)
 refine Wp.app ?_
 refine Wp.seq ?_
 refine Wp.region ?_
 refine Ops.ef rfl (ef_boxK rfl rfl) ?_
 rintro _ _ ⟨b1, rfl, rfl⟩
 refine Ops.ef rfl (ef_boxK rfl rfl) ?_
 rintro _ _ ⟨b2, rfl, rfl⟩
 refine Ops.ef rfl (ef_boxK rfl rfl) ?_
 rintro _ _ ⟨b3, rfl, rfl⟩
 refine Ops.nil ?_
 refine Ends.seq ?_
 refine Wp.seq ?_
 refine AnyH.start ((b1, .cells [.int .i64 so.1, .int .i64 so.2].toArray 31) :: cBlk cb sb tb :: []) 7 rfl ?_
 refine Tk 0 rfl rfl (pv_move rfl) rfl ?_
 refine Tk 1 rfl rfl (pv_nilCheck rfl) rfl ?_
 refine Tk 2 rfl rfl (pv_fieldAddr0 rfl rfl) rfl ?_
 refine Tk 3 rfl rfl (pv_fieldAddr0 rfl rfl) rfl ?_
 refine Tk 4 rfl rfl (pv_load rfl rfl rfl) rfl ?_
 refine Tk 5 rfl rfl (pv_loadK [_, _] rfl rfl rfl ⟨rfl, rfl, trivial⟩) rfl ?_
 refine AnyH.one 6 (by kernel_rfl) ?_
 refine Turn.ef rfl rfl (ef_call (sf_take hS so) rfl rfl) ?_ ?_
 ·
  rintro _ _ ⟨_, Q1, ⟨rfl, hS2⟩, rfl, rfl⟩; infer_instance
 rintro _ _ ⟨_, Q1, ⟨rfl, hS2⟩, rfl, rfl⟩
 refine AnyH.app ?_
 skip
 refine AnyH.done (by kernel_rfl) ?_
 refine Ends.seq ?_
 refine Wp.seq ?_
 refine AnyH.start ((b3, .cells c.cells.toArray 25) :: (b2, .cells [.int .i64 de.1, .int .i64 de.2].toArray 31) :: cBlk cb sb tb :: []) 8 rfl ?_
 refine Tk 0 rfl rfl (pv_move rfl) rfl ?_
 refine Tk 1 rfl rfl (pv_nilCheck rfl) rfl ?_
 refine Tk 2 rfl rfl (pv_fieldAddr0 rfl rfl) rfl ?_
 refine Tk 3 rfl rfl (pv_fieldAddr0 rfl rfl) rfl ?_
 refine Tk 4 rfl rfl (pv_load rfl rfl rfl) rfl ?_
 refine Tk 5 rfl rfl (pv_loadK [_, _] rfl rfl rfl ⟨rfl, rfl, trivial⟩) rfl ?_
 refine Tk 6 rfl rfl (pv_loadK [_, _, _, _, _, _] rfl rfl rfl ⟨rfl, rfl, rfl, rfl, rfl, rfl, trivial⟩) rfl ?_
 refine AnyH.one 7 (by kernel_rfl) ?_
 refine Turn.ef rfl rfl (ef_call (sf_put hS2 de c) rfl rfl) ?_ ?_
 ·
  rintro _ _ ⟨_, Q2, ⟨rfl, hS3⟩, rfl, rfl⟩; infer_instance
 rintro _ _ ⟨_, Q2, ⟨rfl, hS3⟩, rfl, rfl⟩
 refine AnyH.app ?_
 skip
 refine AnyH.done (by kernel_rfl) ?_
 refine Ends.seq ?_
 refine AnyH.start ((b2, .cells [.int .i64 de.1, .int .i64 de.2].toArray 31) :: (b1, .cells [.int .i64 so.1, .int .i64 so.2].toArray 31) :: cBlk cb sb tb :: []) 7 rfl ?_
 refine Tk 0 rfl rfl (pv_move rfl) rfl ?_
 refine Tk 1 rfl rfl (pv_nilCheck rfl) rfl ?_
 refine Tk 2 rfl rfl (pv_fieldAddr0 rfl rfl) rfl ?_
 refine Tk 3 rfl rfl (pv_load rfl rfl rfl) rfl ?_
 refine Tk 4 rfl rfl (pv_loadK [_, _] rfl rfl rfl ⟨rfl, rfl, trivial⟩) rfl ?_
 refine Tk 5 rfl rfl (pv_loadK [_, _] rfl rfl rfl ⟨rfl, rfl, trivial⟩) rfl ?_
 refine AnyH.one 6 (by kernel_rfl) ?_
 refine Turn.ef rfl rfl (ef_call (tr_fMove hT so de) rfl rfl) ?_ ?_
 ·
  rintro _ _ ⟨_, R1, ⟨rfl, hT2⟩, rfl, rfl⟩; infer_instance
 rintro _ _ ⟨_, R1, ⟨rfl, hT2⟩, rfl, rfl⟩
 refine AnyH.app ?_
 skip
 refine AnyH.done (by kernel_rfl) ?_
 exact Ends.fin (L' := cBlk cb sb tb :: (Q2 ++ R1)) (res0 rfl) ⟨rfl, sb, tb, Q2, R1, hS3, hT2, rfl⟩
theorem tr_mMove (n cb : Nat) (L : Hp) (p : PS) (hH : CapsH n p cb L) (so de : SlotM) : Tr Tryz.prog 41 [cpP cb, slotV so, slotV de] (L) (fun u L' => u = .int .i64 (mMove p so de).1 ∧ CapsH (n + 0) (mMove p so de).2 cb L') := by
 refine Tr.enter Tryz.func41 rfl Tryz.ntmps41 rfl (fun W F => ?_)
 refine Wp.app ?_
 refine Wp.seq ?_
 refine Wp.region ?_
 refine Ops.ef rfl (ef_boxK rfl rfl) ?_
 rintro _ _ ⟨b1, rfl, rfl⟩
 refine Ops.ef rfl (ef_boxK rfl rfl) ?_
 rintro _ _ ⟨b2, rfl, rfl⟩
 refine Ops.pv (pv_assign rfl) rfl ?_
 refine Ops.nil ?_
 refine Ends.seq ?_
 refine Wp.seq ?_
 refine Wp.region ?_
 refine Ops.pv (pv_move rfl) rfl ?_
 refine Ops.pv (pv_loadK [_, _] rfl rfl rfl ⟨rfl, rfl, trivial⟩) rfl ?_
 refine Ops.pv (pv_loadK [_, _] rfl rfl rfl ⟨rfl, rfl, trivial⟩) rfl ?_
 refine Ops.ef rfl (ef_callr (tr_mBoth n cb L p hH so de) rfl rfl) ?_
 rintro _ _ ⟨rfl, rfl⟩
 refine Ops.pv (pv_move rfl) rfl ?_
 refine Ops.pv (pv_extract rfl rfl) rfl ?_
 refine Ops.pv (pv_extract rfl rfl) rfl ?_
 refine Ops.ef rfl (ef_allocK tyZ25 rfl) ?_
 rintro _ _ ⟨b3, rfl, rfl⟩
 refine Ops.ef rfl (ef_storeK rfl rfl rfl rfl) ?_
 rintro _ _ ⟨rfl, rfl⟩
 refine Ops.pv (pv_assign rfl) rfl ?_
 refine Ops.nil ?_
 refine Ends.seq ?_
 refine Wp.seq ?_
 refine Wp.seq ?_
 refine Wp.region ?_
 refine Ops.pv (pv_move rfl) rfl ?_
 refine Ops.pv (pv_eql rfl rfl) rfl ?_
 refine Ops.nil ?_
 refine Ends.seq ?_
 refine Wp.cond_dect rfl (fun h1 => ?_) (fun h1 => ?_)
 ·
  refine Wp.region ?_
  refine Ops.pv (pv_move rfl) rfl ?_
  refine Ops.pv (pv_loadK [_, _] rfl rfl rfl ⟨rfl, rfl, trivial⟩) rfl ?_
  refine Ops.pv (pv_loadK [_, _] rfl rfl rfl ⟨rfl, rfl, trivial⟩) rfl ?_
  refine Ops.pv (pv_loadK [_, _, _, _, _, _] rfl rfl rfl ⟨rfl, rfl, rfl, rfl, rfl, rfl, trivial⟩) rfl ?_
  refine Ops.ef rfl (ef_call (tr_mCarry n cb L p hH so de (mBoth p so de).1) rfl rfl) ?_
  rintro _ _ ⟨_, Q1, ⟨rfl, hH2⟩, rfl, rfl⟩
  refine Ops.app ?_
  skip
  refine Ops.nil ?_
  refine Ends.seq ?_
  refine Wp.seq ?_
  refine Wp.region ?_
  refine Ops.pv (pv_move rfl) rfl ?_
  refine Ops.pv (pv_assign rfl) rfl ?_
  refine Ops.nil ?_
  refine Ends.seq ?_
  refine Wp.ret ?_
  have he : mMove p so de = ((mBoth p so de).2, mCarry p so de (mBoth p so de).1) := by unfold mMove; rw [if_pos (by assumption)]
  rw [he]
  exact Ends.ret (L' := Q1) (res1 rfl rfl) ⟨rfl, hH2⟩
 refine Wp.skip ?_
 refine Ends.seq ?_
 refine Wp.seq ?_
 refine Wp.region ?_
 refine Ops.pv (pv_move rfl) rfl ?_
 refine Ops.pv (pv_assign rfl) rfl ?_
 refine Ops.nil ?_
 refine Ends.seq ?_
 refine Wp.ret ?_
 have he : mMove p so de = ((mBoth p so de).2, p) := by unfold mMove; rw [if_neg (by assumption)]
 rw [he]
 exact Ends.ret (L' := L) (res1 rfl rfl) ⟨rfl, hH⟩
theorem tr_mMutate (n cb : Nat) (L : Hp) (p : PS) (hH : CapsH n p cb L) (so de : SlotM) (g k : Int) : Tr Tryz.prog 43 [cpP cb, slotV so, slotV de, .int .u64 g, .int .i64 k] (L) (fun u L' => u = .int .i64 (mMutate p so de g k).1 ∧ CapsH (n + 0) (mMutate p so de g k).2 cb L') := by
 refine Tr.enter Tryz.func43 rfl Tryz.ntmps43 rfl (fun W F => ?_)
 refine Wp.app ?_
 refine Wp.seq ?_
 refine Wp.region ?_
 refine Ops.ef rfl (ef_boxK rfl rfl) ?_
 rintro _ _ ⟨b1, rfl, rfl⟩
 refine Ops.ef rfl (ef_boxK rfl rfl) ?_
 rintro _ _ ⟨b2, rfl, rfl⟩
 refine Ops.pv (pv_assign rfl) rfl ?_
 refine Ops.nil ?_
 refine Ends.seq ?_
 refine Wp.seq ?_
 refine Wp.region ?_
 refine Ops.pv (pv_move rfl) rfl ?_
 refine Ops.pv (pv_loadK [_, _] rfl rfl rfl ⟨rfl, rfl, trivial⟩) rfl ?_
 refine Ops.pv (pv_loadK [_, _] rfl rfl rfl ⟨rfl, rfl, trivial⟩) rfl ?_
 refine Ops.ef rfl (ef_callr (tr_mBoth n cb L p hH so de) rfl rfl) ?_
 rintro _ _ ⟨rfl, rfl⟩
 refine Ops.pv (pv_move rfl) rfl ?_
 refine Ops.pv (pv_extract rfl rfl) rfl ?_
 refine Ops.pv (pv_extract rfl rfl) rfl ?_
 refine Ops.ef rfl (ef_allocK tyZ25 rfl) ?_
 rintro _ _ ⟨b3, rfl, rfl⟩
 refine Ops.ef rfl (ef_storeK rfl rfl rfl rfl) ?_
 rintro _ _ ⟨rfl, rfl⟩
 refine Ops.pv (pv_assign rfl) rfl ?_
 refine Ops.nil ?_
 refine Ends.seq ?_
 refine Wp.seq ?_
 refine Wp.block ?_
 refine Wp.seq ?_
 refine Wp.region ?_
 refine Ops.pv (pv_move rfl) rfl ?_
 refine Ops.pv (pv_neq rfl rfl) rfl ?_
 refine Ops.pv (pv_assign rfl) rfl ?_
 refine Ops.nil ?_
 refine Ends.seq ?_
 refine Wp.cond_dect rfl (fun h1 => ?_) (fun h1 => ?_)
 ·
  refine Wp.seq ?_
  refine Wp.region ?_
  refine Ops.pv (pv_move rfl) rfl ?_
  refine Ops.pv (pv_assign rfl) rfl ?_
  refine Ops.nil ?_
  refine Ends.seq ?_
  refine Wp.ret ?_
  refine Ends.block_ret ?_
  refine Ends.then_ret ?_
  have he : mMutate p so de g k = ((mBoth p so de).2, p) := by unfold mMutate; rw [if_pos (by assumption)]
  rw [he]
  exact Ends.ret (L' := L) (res1 rfl rfl) ⟨rfl, hH⟩
 refine Wp.seq ?_
 refine Wp.region ?_
 refine Ops.pv (pv_fieldAddr0 rfl rfl) rfl ?_
 refine Ops.pv (pv_load rfl rfl rfl) rfl ?_
 refine Ops.pv (pv_neq rfl rfl) rfl ?_
 refine Ops.pv (pv_assign rfl) rfl ?_
 refine Ops.nil ?_
 refine Ends.seq ?_
 refine Wp.cond_dect rfl (fun h2 => ?_) (fun h2 => ?_)
 ·
  refine Wp.seq ?_
  refine Wp.region ?_
  refine Ops.pv (pv_assign rfl) rfl ?_
  refine Ops.nil ?_
  refine Ends.seq ?_
  refine Wp.ret ?_
  refine Ends.block_ret ?_
  refine Ends.then_ret ?_
  have he : mMutate p so de g k = (2, p) := by unfold mMutate; rw [if_neg (by assumption), if_pos (by assumption)]
  rw [he]
  exact Ends.ret (L' := L) (res1 rfl rfl) ⟨rfl, hH⟩
 refine Wp.skip ?_
 refine Ends.block_normal ?_
 refine Ends.seq ?_
 refine Wp.seq ?_
 refine Wp.region ?_
 refine Ops.pv (pv_loadK [_, _, _, _, _, _] rfl rfl rfl ⟨rfl, rfl, rfl, rfl, rfl, rfl, trivial⟩) rfl ?_
 refine Ops.pv (pv_move rfl) rfl ?_
 refine Ops.pv (pv_move rfl) rfl ?_
 refine Ops.ef rfl (ef_callr (tr_derive (mBoth p so de).1 0 0 g k) rfl rfl) ?_
 rintro _ _ ⟨rfl, rfl⟩
 refine Ops.pv (pv_move rfl) rfl ?_
 refine Ops.pv (pv_extract rfl rfl) rfl ?_
 refine Ops.pv (pv_extract rfl rfl) rfl ?_
 refine Ops.ef rfl (ef_storeK rfl rfl rfl rfl) ?_
 rintro _ _ ⟨rfl, rfl⟩
 refine Ops.pv (pv_assign rfl) rfl ?_
 refine Ops.nil ?_
 refine Ends.seq ?_
 refine Wp.seq ?_
 refine Wp.seq ?_
 refine Wp.region ?_
 refine Ops.pv (pv_move rfl) rfl ?_
 refine Ops.pv (pv_eql rfl rfl) rfl ?_
 refine Ops.nil ?_
 refine Ends.seq ?_
 refine Wp.cond_dect rfl (fun h3 => ?_) (fun h3 => ?_)
 ·
  refine Wp.region ?_
  refine Ops.pv (pv_move rfl) rfl ?_
  refine Ops.pv (pv_loadK [_, _] rfl rfl rfl ⟨rfl, rfl, trivial⟩) rfl ?_
  refine Ops.pv (pv_loadK [_, _] rfl rfl rfl ⟨rfl, rfl, trivial⟩) rfl ?_
  refine Ops.pv (pv_loadK [_, _, _, _, _, _] rfl rfl rfl ⟨rfl, rfl, rfl, rfl, rfl, rfl, trivial⟩) rfl ?_
  refine Ops.ef rfl (ef_call (tr_mCarry n cb L p hH so de (derive (mBoth p so de).1 0 0 g k).1) rfl rfl) ?_
  rintro _ _ ⟨_, Q1, ⟨rfl, hH2⟩, rfl, rfl⟩
  refine Ops.app ?_
  skip
  refine Ops.nil ?_
  refine Ends.seq ?_
  refine Wp.seq ?_
  refine Wp.region ?_
  refine Ops.pv (pv_move rfl) rfl ?_
  refine Ops.pv (pv_assign rfl) rfl ?_
  refine Ops.nil ?_
  refine Ends.seq ?_
  refine Wp.ret ?_
  have he : mMutate p so de g k = ((derive (mBoth p so de).1 0 0 g k).2, mCarry p so de (derive (mBoth p so de).1 0 0 g k).1) := by unfold mMutate; rw [if_neg (by assumption), if_neg (by assumption), if_pos (by assumption)]
  rw [he]
  exact Ends.ret (L' := Q1) (res1 rfl rfl) ⟨rfl, hH2⟩
 refine Wp.skip ?_
 refine Ends.seq ?_
 refine Wp.seq ?_
 refine Wp.region ?_
 refine Ops.pv (pv_move rfl) rfl ?_
 refine Ops.pv (pv_assign rfl) rfl ?_
 refine Ops.nil ?_
 refine Ends.seq ?_
 refine Wp.ret ?_
 have he : mMutate p so de g k = ((derive (mBoth p so de).1 0 0 g k).2, p) := by unfold mMutate; rw [if_neg (by assumption), if_neg (by assumption), if_neg (by assumption)]
 rw [he]
 exact Ends.ret (L' := L) (res1 rfl rfl) ⟨rfl, hH⟩
theorem tr_mTake (n cb : Nat) (L : Hp) (p : PS) (hH : CapsH n p cb L) (hn : n ≤ 2 ^ 19) (so : SlotM) : Tr Tryz.prog 47 [cpP cb, slotV so] (L) (fun u L' => u = .tuple #[(mTake p so).1.v, .int .i64 (mTake p so).2.1] ∧ CapsH n (mTake p so).2.2 cb L') := by
 obtain ⟨sb, tb, Ls, Lt, hS, hT, rfl⟩ := hH
 refine Tr.enter Tryz.func47 rfl Tryz.ntmps47 rfl (fun W F => ?_)
 refine Wp.app ?_
 refine Wp.seq ?_
 refine Wp.region ?_
 refine Ops.ef rfl (ef_boxK rfl rfl) ?_
 rintro _ _ ⟨b1, rfl, rfl⟩
 refine Ops.ef rfl (ef_allocK tyZ25 rfl) ?_
 rintro _ _ ⟨b2, rfl, rfl⟩
 refine Ops.pv (pv_assign rfl) rfl ?_
 refine Ops.nil ?_
 refine Ends.seq ?_
 refine Wp.seq ?_
 refine AnyH.start ((b1, .cells [.int .i64 so.1, .int .i64 so.2].toArray 31) :: cBlk cb sb tb :: []) 13 rfl ?_
 refine Tk 0 rfl rfl (pv_move rfl) rfl ?_
 refine Tk 1 rfl rfl (pv_nilCheck rfl) rfl ?_
 refine Tk 2 rfl rfl (pv_fieldAddr0 rfl rfl) rfl ?_
 refine Tk 3 rfl rfl (pv_fieldAddr0 rfl rfl) rfl ?_
 refine Tk 4 rfl rfl (pv_load rfl rfl rfl) rfl ?_
 refine Tk 5 rfl rfl (pv_loadK [_, _] rfl rfl rfl ⟨rfl, rfl, trivial⟩) rfl ?_
 refine AnyH.two 6 10 (by kernel_rfl) ?_ ?_
 ·
  refine Turn.ef rfl rfl (ef_call (sf_take hS so) rfl rfl) ?_ ?_
  ·
   rintro _ _ ⟨_, Q1, ⟨rfl, hS2⟩, rfl, rfl⟩; infer_instance
  rintro _ _ ⟨_, Q1, ⟨rfl, hS2⟩, rfl, rfl⟩
  refine AnyH.app ?_
  skip
  refine Tk 7 rfl rfl (pv_move rfl) rfl ?_
  refine Tk 8 rfl rfl (pv_extract rfl rfl) rfl ?_
  refine Tk 9 rfl rfl (pv_extract rfl rfl) rfl ?_
  refine AnyH.one 10 (by kernel_rfl) ?_
  refine Turn.ef rfl rfl (ef_allocK tyZ25 rfl) ?_ ?_
  ·
   rintro _ _ ⟨b3, rfl, rfl⟩; infer_instance
  rintro _ _ ⟨b3, rfl, rfl⟩
  refine AnyH.one 11 (by kernel_rfl) ?_
  refine Turn.ef rfl rfl (ef_storeK rfl rfl rfl rfl) ?_ ?_
  ·
   rintro _ _ ⟨rfl, rfl⟩; infer_instance
  rintro _ _ ⟨rfl, rfl⟩
  refine Tk 12 rfl rfl (pv_assign rfl) rfl ?_
  refine AnyH.done (by kernel_rfl) ?_
  refine Ends.seq ?_
  refine Wp.seq ?_
  refine Wp.seq ?_
  refine Wp.region ?_
  refine Ops.pv (pv_move rfl) rfl ?_
  refine Ops.pv (pv_eql rfl rfl) rfl ?_
  refine Ops.nil ?_
  refine Ends.seq ?_
  refine Wp.cond_dect rfl (fun h1 => ?_) (fun h1 => ?_)
  ·
   refine AnyH.start ((b1, .cells [.int .i64 so.1, .int .i64 so.2].toArray 31) :: cBlk cb sb tb :: []) 6 rfl ?_
   refine Tk 0 rfl rfl (pv_move rfl) rfl ?_
   refine Tk 1 rfl rfl (pv_nilCheck rfl) rfl ?_
   refine Tk 2 rfl rfl (pv_fieldAddr0 rfl rfl) rfl ?_
   refine Tk 3 rfl rfl (pv_load rfl rfl rfl) rfl ?_
   refine Tk 4 rfl rfl (pv_loadK [_, _] rfl rfl rfl ⟨rfl, rfl, trivial⟩) rfl ?_
   refine AnyH.one 5 (by kernel_rfl) ?_
   refine Turn.ef rfl rfl (ef_call (tr_fDrop hT (by omega) so) rfl rfl) ?_ ?_
   ·
    rintro _ _ ⟨_, R1, ⟨rfl, hT2⟩, rfl, rfl⟩; infer_instance
   rintro _ _ ⟨_, R1, ⟨rfl, hT2⟩, rfl, rfl⟩
   refine AnyH.app ?_
   skip
   refine AnyH.done (by kernel_rfl) ?_
   refine Ends.seq ?_
   refine Wp.seq ?_
   refine Wp.region ?_
   refine Ops.pv (pv_loadK [_, _, _, _, _, _] rfl rfl rfl ⟨rfl, rfl, rfl, rfl, rfl, rfl, trivial⟩) rfl ?_
   refine Ops.pv (pv_move rfl) rfl ?_
   refine Ops.ef rfl (ef_storeK rfl rfl rfl rfl) ?_
   rintro _ _ ⟨rfl, rfl⟩
   refine Ops.pv (pv_assign rfl) rfl ?_
   refine Ops.nil ?_
   refine Ends.seq ?_
   refine Wp.ret ?_
   have he : mTake p so = ((dtake p.l so).1, (dtake p.l so).2.1, ⟨(dtake p.l so).2.2, (ftDrop p.F so).2⟩) := by unfold mTake; rw [if_pos (by assumption)]
   rw [he]
   exact Ends.ret (L' := cBlk cb sb tb :: (Q1 ++ R1)) (res_list (rs := [.cell 4 25, .tmp 5]) rfl ⟨_, _, rfl, rv_cellK [_, _, _, _, _, _] rfl rfl rfl ⟨rfl, rfl, rfl, rfl, rfl, rfl, trivial⟩, ⟨_, _, rfl, rv_tmp rfl, rfl⟩⟩ rfl) ⟨rfl, sb, tb, Q1, R1, hS2, hT2, rfl⟩
  refine Wp.skip ?_
  refine Ends.seq ?_
  refine Wp.seq ?_
  refine Wp.region ?_
  refine Ops.pv (pv_loadK [_, _, _, _, _, _] rfl rfl rfl ⟨rfl, rfl, rfl, rfl, rfl, rfl, trivial⟩) rfl ?_
  refine Ops.pv (pv_move rfl) rfl ?_
  refine Ops.ef rfl (ef_storeK rfl rfl rfl rfl) ?_
  rintro _ _ ⟨rfl, rfl⟩
  refine Ops.pv (pv_assign rfl) rfl ?_
  refine Ops.nil ?_
  refine Ends.seq ?_
  refine Wp.ret ?_
  have he : mTake p so = ((dtake p.l so).1, (dtake p.l so).2.1, ⟨(dtake p.l so).2.2, p.F⟩) := by unfold mTake; rw [if_neg (by assumption)]
  rw [he]
  exact Ends.ret (L' := cBlk cb sb tb :: (Q1 ++ Lt)) (res_list (rs := [.cell 4 25, .tmp 5]) rfl ⟨_, _, rfl, rv_cellK [_, _, _, _, _, _] rfl rfl rfl ⟨rfl, rfl, rfl, rfl, rfl, rfl, trivial⟩, ⟨_, _, rfl, rv_tmp rfl, rfl⟩⟩ rfl) ⟨rfl, sb, tb, Q1, Lt, hS2, hT, rfl⟩
 refine Turn.ef rfl rfl (ef_allocK tyZ25 rfl) ?_ ?_
 ·
  rintro _ _ ⟨b4, rfl, rfl⟩; infer_instance
 rintro _ _ ⟨b4, rfl, rfl⟩
 refine AnyH.one 6 (by kernel_rfl) ?_
 refine Turn.ef rfl rfl (ef_call (sf_take hS so) rfl rfl) ?_ ?_
 ·
  rintro _ _ ⟨_, Q2, ⟨rfl, hS2⟩, rfl, rfl⟩; infer_instance
 rintro _ _ ⟨_, Q2, ⟨rfl, hS2⟩, rfl, rfl⟩
 refine AnyH.app ?_
 skip
 refine Tk 7 rfl rfl (pv_move rfl) rfl ?_
 refine Tk 8 rfl rfl (pv_extract rfl rfl) rfl ?_
 refine Tk 9 rfl rfl (pv_extract rfl rfl) rfl ?_
 refine AnyH.one 11 (by kernel_rfl) ?_
 refine Turn.ef rfl rfl (ef_storeK rfl rfl rfl rfl) ?_ ?_
 ·
  rintro _ _ ⟨rfl, rfl⟩; infer_instance
 rintro _ _ ⟨rfl, rfl⟩
 refine Tk 12 rfl rfl (pv_assign rfl) rfl ?_
 refine AnyH.done (by kernel_rfl) ?_
 refine Ends.seq ?_
 refine Wp.seq ?_
 refine Wp.seq ?_
 refine Wp.region ?_
 refine Ops.pv (pv_move rfl) rfl ?_
 refine Ops.pv (pv_eql rfl rfl) rfl ?_
 refine Ops.nil ?_
 refine Ends.seq ?_
 refine Wp.cond_dect rfl (fun h2 => ?_) (fun h2 => ?_)
 ·
  refine AnyH.start ((b1, .cells [.int .i64 so.1, .int .i64 so.2].toArray 31) :: cBlk cb sb tb :: []) 6 rfl ?_
  refine Tk 0 rfl rfl (pv_move rfl) rfl ?_
  refine Tk 1 rfl rfl (pv_nilCheck rfl) rfl ?_
  refine Tk 2 rfl rfl (pv_fieldAddr0 rfl rfl) rfl ?_
  refine Tk 3 rfl rfl (pv_load rfl rfl rfl) rfl ?_
  refine Tk 4 rfl rfl (pv_loadK [_, _] rfl rfl rfl ⟨rfl, rfl, trivial⟩) rfl ?_
  refine AnyH.one 5 (by kernel_rfl) ?_
  refine Turn.ef rfl rfl (ef_call (tr_fDrop hT (by omega) so) rfl rfl) ?_ ?_
  ·
   rintro _ _ ⟨_, R2, ⟨rfl, hT2⟩, rfl, rfl⟩; infer_instance
  rintro _ _ ⟨_, R2, ⟨rfl, hT2⟩, rfl, rfl⟩
  refine AnyH.app ?_
  skip
  refine AnyH.done (by kernel_rfl) ?_
  refine Ends.seq ?_
  refine Wp.seq ?_
  refine Wp.region ?_
  refine Ops.pv (pv_loadK [_, _, _, _, _, _] rfl rfl rfl ⟨rfl, rfl, rfl, rfl, rfl, rfl, trivial⟩) rfl ?_
  refine Ops.pv (pv_move rfl) rfl ?_
  refine Ops.ef rfl (ef_storeK rfl rfl rfl rfl) ?_
  rintro _ _ ⟨rfl, rfl⟩
  refine Ops.pv (pv_assign rfl) rfl ?_
  refine Ops.nil ?_
  refine Ends.seq ?_
  refine Wp.ret ?_
  have he : mTake p so = ((dtake p.l so).1, (dtake p.l so).2.1, ⟨(dtake p.l so).2.2, (ftDrop p.F so).2⟩) := by unfold mTake; rw [if_pos (by assumption)]
  rw [he]
  exact Ends.ret (L' := cBlk cb sb tb :: (Q2 ++ R2)) (res_list (rs := [.cell 4 25, .tmp 5]) rfl ⟨_, _, rfl, rv_cellK [_, _, _, _, _, _] rfl rfl rfl ⟨rfl, rfl, rfl, rfl, rfl, rfl, trivial⟩, ⟨_, _, rfl, rv_tmp rfl, rfl⟩⟩ rfl) ⟨rfl, sb, tb, Q2, R2, hS2, hT2, rfl⟩
 refine Wp.skip ?_
 refine Ends.seq ?_
 refine Wp.seq ?_
 refine Wp.region ?_
 refine Ops.pv (pv_loadK [_, _, _, _, _, _] rfl rfl rfl ⟨rfl, rfl, rfl, rfl, rfl, rfl, trivial⟩) rfl ?_
 refine Ops.pv (pv_move rfl) rfl ?_
 refine Ops.ef rfl (ef_storeK rfl rfl rfl rfl) ?_
 rintro _ _ ⟨rfl, rfl⟩
 refine Ops.pv (pv_assign rfl) rfl ?_
 refine Ops.nil ?_
 refine Ends.seq ?_
 refine Wp.ret ?_
 have he : mTake p so = ((dtake p.l so).1, (dtake p.l so).2.1, ⟨(dtake p.l so).2.2, p.F⟩) := by unfold mTake; rw [if_neg (by assumption)]
 rw [he]
 exact Ends.ret (L' := cBlk cb sb tb :: (Q2 ++ Lt)) (res_list (rs := [.cell 4 25, .tmp 5]) rfl ⟨_, _, rfl, rv_cellK [_, _, _, _, _, _] rfl rfl rfl ⟨rfl, rfl, rfl, rfl, rfl, rfl, trivial⟩, ⟨_, _, rfl, rv_tmp rfl, rfl⟩⟩ rfl) ⟨rfl, sb, tb, Q2, Lt, hS2, hT, rfl⟩
set_option maxHeartbeats 4000000 in
theorem tr_mRotate (n cb : Nat) (L : Hp) (p : PS) (hH : CapsH n p cb L) (de vo so : SlotM) : Tr Tryz.prog 45 [cpP cb, slotV de, slotV vo, slotV so] (L) (fun u L' => u = .int .i64 (mRotate p de vo so).1 ∧ CapsH (n + 0) (mRotate p de vo so).2 cb L') := by
 have hH0 := hH
 obtain ⟨sb, tb, Ls, Lt, hS, hT, rfl⟩ := hH
 refine Tr.enter Tryz.func45 rfl Tryz.ntmps45 rfl (fun W F => ?_)
 refine Wp.app ?_
 refine Wp.seq ?_
 refine Wp.region ?_
 refine Ops.ef rfl (ef_boxK rfl rfl) ?_
 rintro _ _ ⟨b1, rfl, rfl⟩
 refine Ops.ef rfl (ef_boxK rfl rfl) ?_
 rintro _ _ ⟨b2, rfl, rfl⟩
 refine Ops.ef rfl (ef_boxK rfl rfl) ?_
 rintro _ _ ⟨b3, rfl, rfl⟩
 refine Ops.pv (pv_assign rfl) rfl ?_
 refine Ops.nil ?_
 refine Ends.seq ?_
 refine Wp.seq ?_
 refine Wp.seq ?_
 refine Wp.region ?_
 refine Ops.pv (pv_loadK [_, _] rfl rfl rfl ⟨rfl, rfl, trivial⟩) rfl ?_
 refine Ops.pv (pv_loadK [_, _] rfl rfl rfl ⟨rfl, rfl, trivial⟩) rfl ?_
 refine Ops.pv (pv_eql_slot rfl rfl) rfl ?_
 refine Ops.pv (pv_move rfl) rfl ?_
 refine Ops.pvcn rfl rfl (fun hg => pv_loadK [_, _] rfl rfl rfl ⟨rfl, rfl, trivial⟩) rfl ?_
 refine Ops.pvcn rfl rfl (fun hg => Pv.setE (t := 17) rfl (cv_pos hg) (pv_loadK [_, _] rfl rfl rfl ⟨rfl, rfl, trivial⟩)) rfl ?_
 refine Ops.pvcn rfl rfl (fun hg => Pv.setE (t := 17) rfl (cv_pos hg) (Pv.setE (t := 18) rfl (cv_pos hg) (pv_eql_slot rfl rfl))) rfl ?_
 refine Ops.pv (pv_pick_or rfl rfl) rfl ?_
 refine Ops.nil ?_
 refine Ends.seq ?_
 refine Wp.cond_dect rfl (fun h1 => ?_) (fun h1 => ?_)
 ·
  refine Wp.seq ?_
  refine Wp.region ?_
  refine Ops.pv (pv_assign rfl) rfl ?_
  refine Ops.nil ?_
  refine Ends.seq ?_
  refine Wp.ret ?_
  refine Ends.then_ret ?_
  have he : mRotate p de vo so = (10, p) := by unfold mRotate; rw [if_pos (by assumption)]
  rw [he]
  exact Ends.ret (L' := (cBlk cb sb tb :: (Ls ++ Lt))) (res1 rfl rfl) ⟨rfl, sb, tb, Ls, Lt, hS, hT, rfl⟩
 refine Wp.skip ?_
 refine Ends.seq ?_
 refine Wp.seq ?_
 refine Wp.region ?_
 refine Ops.pv (pv_move rfl) rfl ?_
 refine Ops.pv (pv_loadK [_, _] rfl rfl rfl ⟨rfl, rfl, trivial⟩) rfl ?_
 refine Ops.ef rfl (ef_callr (tr_mSource n cb (cBlk cb sb tb :: (Ls ++ Lt)) p hH0 vo) rfl rfl) ?_
 rintro _ _ ⟨rfl, rfl⟩
 refine Ops.pv (pv_move rfl) rfl ?_
 refine Ops.pv (pv_extract rfl rfl) rfl ?_
 refine Ops.pv (pv_extract rfl rfl) rfl ?_
 refine Ops.ef rfl (ef_allocK tyZ25 rfl) ?_
 rintro _ _ ⟨b4, rfl, rfl⟩
 refine Ops.ef rfl (ef_storeK rfl rfl rfl rfl) ?_
 rintro _ _ ⟨rfl, rfl⟩
 refine Ops.pv (pv_assign rfl) rfl ?_
 refine Ops.nil ?_
 refine Ends.seq ?_
 refine Wp.seq ?_
 refine Wp.seq ?_
 refine Wp.region ?_
 refine Ops.pv (pv_move rfl) rfl ?_
 refine Ops.pv (pv_neq rfl rfl) rfl ?_
 refine Ops.nil ?_
 refine Ends.seq ?_
 refine Wp.cond_dect rfl (fun h2 => ?_) (fun h2 => ?_)
 ·
  refine Wp.seq ?_
  refine Wp.region ?_
  refine Ops.pv (pv_move rfl) rfl ?_
  refine Ops.pv (pv_assign rfl) rfl ?_
  refine Ops.nil ?_
  refine Ends.seq ?_
  refine Wp.ret ?_
  refine Ends.then_ret ?_
  have he : mRotate p de vo so = ((mSource p vo).2, p) := by unfold mRotate; rw [if_neg (by assumption), if_pos (by assumption)]
  rw [he]
  exact Ends.ret (L' := (cBlk cb sb tb :: (Ls ++ Lt))) (res1 rfl rfl) ⟨rfl, sb, tb, Ls, Lt, hS, hT, rfl⟩
 refine Wp.skip ?_
 refine Ends.seq ?_
 refine Wp.seq ?_
 refine Wp.region ?_
 refine Ops.pv (pv_move rfl) rfl ?_
 refine Ops.pv (pv_loadK [_, _] rfl rfl rfl ⟨rfl, rfl, trivial⟩) rfl ?_
 refine Ops.ef rfl (ef_callr (tr_mSource n cb (cBlk cb sb tb :: (Ls ++ Lt)) p hH0 so) rfl rfl) ?_
 rintro _ _ ⟨rfl, rfl⟩
 refine Ops.pv (pv_move rfl) rfl ?_
 refine Ops.pv (pv_extract rfl rfl) rfl ?_
 refine Ops.pv (pv_extract rfl rfl) rfl ?_
 refine Ops.ef rfl (ef_allocK tyZ25 rfl) ?_
 rintro _ _ ⟨b5, rfl, rfl⟩
 refine Ops.ef rfl (ef_storeK rfl rfl rfl rfl) ?_
 rintro _ _ ⟨rfl, rfl⟩
 refine Ops.pv (pv_assign rfl) rfl ?_
 refine Ops.nil ?_
 refine Ends.seq ?_
 refine Wp.seq ?_
 refine Wp.seq ?_
 refine Wp.region ?_
 refine Ops.pv (pv_move rfl) rfl ?_
 refine Ops.pv (pv_eql rfl rfl) rfl ?_
 refine Ops.pv (pv_move rfl) rfl ?_
 refine Ops.pvc rfl rfl (fun hg => pv_loadK [_, _] rfl rfl rfl ⟨rfl, rfl, trivial⟩) rfl ?_
 refine Ops.pvc rfl rfl (fun hg => Pv.setE (t := 39) rfl (cv_pos hg) (pv_loadK [_, _] rfl rfl rfl ⟨rfl, rfl, trivial⟩)) rfl ?_
 refine Ops.pvc rfl rfl (fun hg => Pv.setE (t := 39) rfl (cv_pos hg) (Pv.setE (t := 40) rfl (cv_pos hg) (pv_neq_slot rfl rfl))) rfl ?_
 refine Ops.pv (pv_pick_and rfl rfl) rfl ?_
 refine Ops.nil ?_
 refine Ends.seq ?_
 refine Wp.cond_dect rfl (fun h3 => ?_) (fun h3 => ?_)
 ·
  refine Wp.region ?_
  refine Ops.pv (pv_move rfl) rfl ?_
  refine Ops.pv (pv_loadK [_, _] rfl rfl rfl ⟨rfl, rfl, trivial⟩) rfl ?_
  refine Ops.ef rfl (ef_callr (tr_mPlace n cb (cBlk cb sb tb :: (Ls ++ Lt)) p hH0 de) rfl rfl) ?_
  rintro _ _ ⟨rfl, rfl⟩
  refine Ops.pv (pv_assign rfl) rfl ?_
  refine Ops.nil ?_
  refine Ends.seq ?_
  refine Wp.seq ?_
  refine Wp.seq ?_
  refine Wp.region ?_
  refine Ops.pv (pv_move rfl) rfl ?_
  refine Ops.pv (pv_neq rfl rfl) rfl ?_
  refine Ops.nil ?_
  refine Ends.seq ?_
  refine Wp.cond_dect rfl (fun h4 => ?_) (fun h4 => ?_)
  ·
   refine Wp.seq ?_
   refine Wp.region ?_
   refine Ops.pv (pv_move rfl) rfl ?_
   refine Ops.pv (pv_assign rfl) rfl ?_
   refine Ops.nil ?_
   refine Ends.seq ?_
   refine Wp.ret ?_
   refine Ends.then_ret ?_
   have he0 : mRotE p de so = mPlace p de := by unfold mRotE; rw [if_pos (by assumption)]
   have he : mRotate p de vo so = (mRotE p de so, p) := by unfold mRotate; rw [if_neg (by assumption), if_neg (by assumption), if_pos (by rw [he0]; assumption)]
   rw [he, he0]
   exact Ends.ret (L' := (cBlk cb sb tb :: (Ls ++ Lt))) (res1 rfl rfl) ⟨rfl, sb, tb, Ls, Lt, hS, hT, rfl⟩
  refine Wp.skip ?_
  refine Ends.seq ?_
  refine Wp.seq ?_
  refine Wp.region ?_
  refine Ops.pv (pv_build rfl) rfl ?_
  refine Ops.ef rfl (ef_allocK tyZ31 rfl) ?_
  rintro _ _ ⟨b6, rfl, rfl⟩
  refine Ops.ef rfl (ef_storeK rfl rfl rfl rfl) ?_
  rintro _ _ ⟨rfl, rfl⟩
  refine Ops.nil ?_
  refine Ends.seq ?_
  refine Wp.seq ?_
  refine AnyH.start ((b2, .cells [.int .i64 vo.1, .int .i64 vo.2].toArray 31) :: cBlk cb sb tb :: []) 7 rfl ?_
  refine Tk 0 rfl rfl (pv_move rfl) rfl ?_
  refine Tk 1 rfl rfl (pv_nilCheck rfl) rfl ?_
  refine Tk 2 rfl rfl (pv_fieldAddr0 rfl rfl) rfl ?_
  refine Tk 3 rfl rfl (pv_fieldAddr0 rfl rfl) rfl ?_
  refine Tk 4 rfl rfl (pv_load rfl rfl rfl) rfl ?_
  refine Tk 5 rfl rfl (pv_loadK [_, _] rfl rfl rfl ⟨rfl, rfl, trivial⟩) rfl ?_
  refine AnyH.one 6 (by kernel_rfl) ?_
  refine Turn.ef rfl rfl (ef_call (sf_take hS vo) rfl rfl) ?_ ?_
  ·
   rintro _ _ ⟨_, Q1, ⟨rfl, hS2⟩, rfl, rfl⟩; infer_instance
  rintro _ _ ⟨_, Q1, ⟨rfl, hS2⟩, rfl, rfl⟩
  refine AnyH.app ?_
  skip
  refine AnyH.done (by kernel_rfl) ?_
  refine Ends.seq ?_
  refine Wp.seq ?_
  refine AnyH.start ((b3, .cells [.int .i64 so.1, .int .i64 so.2].toArray 31) :: cBlk cb sb tb :: []) 7 rfl ?_
  refine Tk 0 rfl rfl (pv_move rfl) rfl ?_
  refine Tk 1 rfl rfl (pv_nilCheck rfl) rfl ?_
  refine Tk 2 rfl rfl (pv_fieldAddr0 rfl rfl) rfl ?_
  refine Tk 3 rfl rfl (pv_fieldAddr0 rfl rfl) rfl ?_
  refine Tk 4 rfl rfl (pv_load rfl rfl rfl) rfl ?_
  refine Tk 5 rfl rfl (pv_loadK [_, _] rfl rfl rfl ⟨rfl, rfl, trivial⟩) rfl ?_
  refine AnyH.one 6 (by kernel_rfl) ?_
  refine Turn.ef rfl rfl (ef_call (sf_take hS2 so) rfl rfl) ?_ ?_
  ·
   rintro _ _ ⟨_, Q2, ⟨rfl, hS3⟩, rfl, rfl⟩; infer_instance
  rintro _ _ ⟨_, Q2, ⟨rfl, hS3⟩, rfl, rfl⟩
  refine AnyH.app ?_
  skip
  refine AnyH.done (by kernel_rfl) ?_
  refine Ends.seq ?_
  refine Wp.seq ?_
  refine AnyH.start ((b4, .cells (mSource p vo).1.cells.toArray 25) :: (b1, .cells [.int .i64 de.1, .int .i64 de.2].toArray 31) :: cBlk cb sb tb :: []) 8 rfl ?_
  refine Tk 0 rfl rfl (pv_move rfl) rfl ?_
  refine Tk 1 rfl rfl (pv_nilCheck rfl) rfl ?_
  refine Tk 2 rfl rfl (pv_fieldAddr0 rfl rfl) rfl ?_
  refine Tk 3 rfl rfl (pv_fieldAddr0 rfl rfl) rfl ?_
  refine Tk 4 rfl rfl (pv_load rfl rfl rfl) rfl ?_
  refine Tk 5 rfl rfl (pv_loadK [_, _] rfl rfl rfl ⟨rfl, rfl, trivial⟩) rfl ?_
  refine Tk 6 rfl rfl (pv_loadK [_, _, _, _, _, _] rfl rfl rfl ⟨rfl, rfl, rfl, rfl, rfl, rfl, trivial⟩) rfl ?_
  refine AnyH.one 7 (by kernel_rfl) ?_
  refine Turn.ef rfl rfl (ef_call (sf_put hS3 de (mSource p vo).1) rfl rfl) ?_ ?_
  ·
   rintro _ _ ⟨_, Q3, ⟨rfl, hS4⟩, rfl, rfl⟩; infer_instance
  rintro _ _ ⟨_, Q3, ⟨rfl, hS4⟩, rfl, rfl⟩
  refine AnyH.app ?_
  skip
  refine AnyH.done (by kernel_rfl) ?_
  refine Ends.seq ?_
  refine Wp.seq ?_
  refine AnyH.start ((b5, .cells (mSource p so).1.cells.toArray 25) :: (b2, .cells [.int .i64 vo.1, .int .i64 vo.2].toArray 31) :: cBlk cb sb tb :: []) 8 rfl ?_
  refine Tk 0 rfl rfl (pv_move rfl) rfl ?_
  refine Tk 1 rfl rfl (pv_nilCheck rfl) rfl ?_
  refine Tk 2 rfl rfl (pv_fieldAddr0 rfl rfl) rfl ?_
  refine Tk 3 rfl rfl (pv_fieldAddr0 rfl rfl) rfl ?_
  refine Tk 4 rfl rfl (pv_load rfl rfl rfl) rfl ?_
  refine Tk 5 rfl rfl (pv_loadK [_, _] rfl rfl rfl ⟨rfl, rfl, trivial⟩) rfl ?_
  refine Tk 6 rfl rfl (pv_loadK [_, _, _, _, _, _] rfl rfl rfl ⟨rfl, rfl, rfl, rfl, rfl, rfl, trivial⟩) rfl ?_
  refine AnyH.one 7 (by kernel_rfl) ?_
  refine Turn.ef rfl rfl (ef_call (sf_put hS4 vo (mSource p so).1) rfl rfl) ?_ ?_
  ·
   rintro _ _ ⟨_, Q4, ⟨rfl, hS5⟩, rfl, rfl⟩; infer_instance
  rintro _ _ ⟨_, Q4, ⟨rfl, hS5⟩, rfl, rfl⟩
  refine AnyH.app ?_
  skip
  refine AnyH.done (by kernel_rfl) ?_
  refine Ends.seq ?_
  refine Wp.seq ?_
  refine AnyH.start ((b6, .cells [.int .i64 (-1), .int .i64 0].toArray 31) :: (b2, .cells [.int .i64 vo.1, .int .i64 vo.2].toArray 31) :: cBlk cb sb tb :: []) 7 rfl ?_
  refine Tk 0 rfl rfl (pv_move rfl) rfl ?_
  refine Tk 1 rfl rfl (pv_nilCheck rfl) rfl ?_
  refine Tk 2 rfl rfl (pv_fieldAddr0 rfl rfl) rfl ?_
  refine Tk 3 rfl rfl (pv_load rfl rfl rfl) rfl ?_
  refine Tk 4 rfl rfl (pv_loadK [_, _] rfl rfl rfl ⟨rfl, rfl, trivial⟩) rfl ?_
  refine Tk 5 rfl rfl (pv_loadK [_, _] rfl rfl rfl ⟨rfl, rfl, trivial⟩) rfl ?_
  refine AnyH.one 6 (by kernel_rfl) ?_
  refine Turn.ef rfl rfl (ef_call (tr_fMove hT vo (-1, 0)) rfl rfl) ?_ ?_
  ·
   rintro _ _ ⟨_, R1, ⟨rfl, hT2⟩, rfl, rfl⟩; infer_instance
  rintro _ _ ⟨_, R1, ⟨rfl, hT2⟩, rfl, rfl⟩
  refine AnyH.app ?_
  skip
  refine AnyH.done (by kernel_rfl) ?_
  refine Ends.seq ?_
  refine Wp.seq ?_
  refine AnyH.start ((b2, .cells [.int .i64 vo.1, .int .i64 vo.2].toArray 31) :: (b3, .cells [.int .i64 so.1, .int .i64 so.2].toArray 31) :: cBlk cb sb tb :: []) 7 rfl ?_
  refine Tk 0 rfl rfl (pv_move rfl) rfl ?_
  refine Tk 1 rfl rfl (pv_nilCheck rfl) rfl ?_
  refine Tk 2 rfl rfl (pv_fieldAddr0 rfl rfl) rfl ?_
  refine Tk 3 rfl rfl (pv_load rfl rfl rfl) rfl ?_
  refine Tk 4 rfl rfl (pv_loadK [_, _] rfl rfl rfl ⟨rfl, rfl, trivial⟩) rfl ?_
  refine Tk 5 rfl rfl (pv_loadK [_, _] rfl rfl rfl ⟨rfl, rfl, trivial⟩) rfl ?_
  refine AnyH.one 6 (by kernel_rfl) ?_
  refine Turn.ef rfl rfl (ef_call (tr_fMove hT2 so vo) rfl rfl) ?_ ?_
  ·
   rintro _ _ ⟨_, R2, ⟨rfl, hT3⟩, rfl, rfl⟩; infer_instance
  rintro _ _ ⟨_, R2, ⟨rfl, hT3⟩, rfl, rfl⟩
  refine AnyH.app ?_
  skip
  refine AnyH.done (by kernel_rfl) ?_
  refine Ends.seq ?_
  refine Wp.seq ?_
  refine AnyH.start ((b6, .cells [.int .i64 (-1), .int .i64 0].toArray 31) :: (b1, .cells [.int .i64 de.1, .int .i64 de.2].toArray 31) :: cBlk cb sb tb :: []) 7 rfl ?_
  refine Tk 0 rfl rfl (pv_move rfl) rfl ?_
  refine Tk 1 rfl rfl (pv_nilCheck rfl) rfl ?_
  refine Tk 2 rfl rfl (pv_fieldAddr0 rfl rfl) rfl ?_
  refine Tk 3 rfl rfl (pv_load rfl rfl rfl) rfl ?_
  refine Tk 4 rfl rfl (pv_loadK [_, _] rfl rfl rfl ⟨rfl, rfl, trivial⟩) rfl ?_
  refine Tk 5 rfl rfl (pv_loadK [_, _] rfl rfl rfl ⟨rfl, rfl, trivial⟩) rfl ?_
  refine AnyH.one 6 (by kernel_rfl) ?_
  refine Turn.ef rfl rfl (ef_call (tr_fMove hT3 (-1, 0) de) rfl rfl) ?_ ?_
  ·
   rintro _ _ ⟨_, R3, ⟨rfl, hT4⟩, rfl, rfl⟩; infer_instance
  rintro _ _ ⟨_, R3, ⟨rfl, hT4⟩, rfl, rfl⟩
  refine AnyH.app ?_
  skip
  refine AnyH.done (by kernel_rfl) ?_
  refine Ends.seq ?_
  refine Wp.seq ?_
  refine Wp.region ?_
  refine Ops.pv (pv_assign rfl) rfl ?_
  refine Ops.nil ?_
  refine Ends.seq ?_
  refine Wp.ret ?_
  have he0 : mRotE p de so = mPlace p de := by unfold mRotE; rw [if_pos (by assumption)]
  have he : mRotate p de vo so = (0, ⟨mRotL p.l de vo so (mSource p vo).1 (mSource p so).1, mRotF p.F de vo so⟩) := by unfold mRotate; rw [if_neg (by assumption), if_neg (by assumption), if_neg (by rw [he0]; assumption)]
  rw [he]
  exact Ends.ret (L' := cBlk cb sb tb :: (Q4 ++ R3)) (res1 rfl rfl) ⟨rfl, sb, tb, Q4, R3, hS5, hT4, rfl⟩
 refine Wp.skip ?_
 refine Ends.seq ?_
 refine Wp.seq ?_
 refine Wp.seq ?_
 refine Wp.region ?_
 refine Ops.pv (pv_move rfl) rfl ?_
 refine Ops.pv (pv_neq rfl rfl) rfl ?_
 refine Ops.nil ?_
 refine Ends.seq ?_
 refine Wp.cond_dect rfl (fun h5 => ?_) (fun h5 => ?_)
 ·
  refine Wp.seq ?_
  refine Wp.region ?_
  refine Ops.pv (pv_move rfl) rfl ?_
  refine Ops.pv (pv_assign rfl) rfl ?_
  refine Ops.nil ?_
  refine Ends.seq ?_
  refine Wp.ret ?_
  refine Ends.then_ret ?_
  have he0 : mRotE p de so = (mSource p so).2 := by unfold mRotE; rw [if_neg (by assumption)]
  have he : mRotate p de vo so = (mRotE p de so, p) := by unfold mRotate; rw [if_neg (by assumption), if_neg (by assumption), if_pos (by rw [he0]; assumption)]
  rw [he, he0]
  exact Ends.ret (L' := (cBlk cb sb tb :: (Ls ++ Lt))) (res1 rfl rfl) ⟨rfl, sb, tb, Ls, Lt, hS, hT, rfl⟩
 refine Wp.skip ?_
 refine Ends.seq ?_
 refine Wp.seq ?_
 refine Wp.region ?_
 refine Ops.pv (pv_build rfl) rfl ?_
 refine Ops.ef rfl (ef_allocK tyZ31 rfl) ?_
 rintro _ _ ⟨b7, rfl, rfl⟩
 refine Ops.ef rfl (ef_storeK rfl rfl rfl rfl) ?_
 rintro _ _ ⟨rfl, rfl⟩
 refine Ops.nil ?_
 refine Ends.seq ?_
 refine Wp.seq ?_
 refine AnyH.start ((b2, .cells [.int .i64 vo.1, .int .i64 vo.2].toArray 31) :: cBlk cb sb tb :: []) 7 rfl ?_
 refine Tk 0 rfl rfl (pv_move rfl) rfl ?_
 refine Tk 1 rfl rfl (pv_nilCheck rfl) rfl ?_
 refine Tk 2 rfl rfl (pv_fieldAddr0 rfl rfl) rfl ?_
 refine Tk 3 rfl rfl (pv_fieldAddr0 rfl rfl) rfl ?_
 refine Tk 4 rfl rfl (pv_load rfl rfl rfl) rfl ?_
 refine Tk 5 rfl rfl (pv_loadK [_, _] rfl rfl rfl ⟨rfl, rfl, trivial⟩) rfl ?_
 refine AnyH.one 6 (by kernel_rfl) ?_
 refine Turn.ef rfl rfl (ef_call (sf_take hS vo) rfl rfl) ?_ ?_
 ·
  rintro _ _ ⟨_, Q5, ⟨rfl, hS2⟩, rfl, rfl⟩; infer_instance
 rintro _ _ ⟨_, Q5, ⟨rfl, hS2⟩, rfl, rfl⟩
 refine AnyH.app ?_
 skip
 refine AnyH.done (by kernel_rfl) ?_
 refine Ends.seq ?_
 refine Wp.seq ?_
 refine AnyH.start ((b3, .cells [.int .i64 so.1, .int .i64 so.2].toArray 31) :: cBlk cb sb tb :: []) 7 rfl ?_
 refine Tk 0 rfl rfl (pv_move rfl) rfl ?_
 refine Tk 1 rfl rfl (pv_nilCheck rfl) rfl ?_
 refine Tk 2 rfl rfl (pv_fieldAddr0 rfl rfl) rfl ?_
 refine Tk 3 rfl rfl (pv_fieldAddr0 rfl rfl) rfl ?_
 refine Tk 4 rfl rfl (pv_load rfl rfl rfl) rfl ?_
 refine Tk 5 rfl rfl (pv_loadK [_, _] rfl rfl rfl ⟨rfl, rfl, trivial⟩) rfl ?_
 refine AnyH.one 6 (by kernel_rfl) ?_
 refine Turn.ef rfl rfl (ef_call (sf_take hS2 so) rfl rfl) ?_ ?_
 ·
  rintro _ _ ⟨_, Q6, ⟨rfl, hS3⟩, rfl, rfl⟩; infer_instance
 rintro _ _ ⟨_, Q6, ⟨rfl, hS3⟩, rfl, rfl⟩
 refine AnyH.app ?_
 skip
 refine AnyH.done (by kernel_rfl) ?_
 refine Ends.seq ?_
 refine Wp.seq ?_
 refine AnyH.start ((b4, .cells (mSource p vo).1.cells.toArray 25) :: (b1, .cells [.int .i64 de.1, .int .i64 de.2].toArray 31) :: cBlk cb sb tb :: []) 8 rfl ?_
 refine Tk 0 rfl rfl (pv_move rfl) rfl ?_
 refine Tk 1 rfl rfl (pv_nilCheck rfl) rfl ?_
 refine Tk 2 rfl rfl (pv_fieldAddr0 rfl rfl) rfl ?_
 refine Tk 3 rfl rfl (pv_fieldAddr0 rfl rfl) rfl ?_
 refine Tk 4 rfl rfl (pv_load rfl rfl rfl) rfl ?_
 refine Tk 5 rfl rfl (pv_loadK [_, _] rfl rfl rfl ⟨rfl, rfl, trivial⟩) rfl ?_
 refine Tk 6 rfl rfl (pv_loadK [_, _, _, _, _, _] rfl rfl rfl ⟨rfl, rfl, rfl, rfl, rfl, rfl, trivial⟩) rfl ?_
 refine AnyH.one 7 (by kernel_rfl) ?_
 refine Turn.ef rfl rfl (ef_call (sf_put hS3 de (mSource p vo).1) rfl rfl) ?_ ?_
 ·
  rintro _ _ ⟨_, Q7, ⟨rfl, hS4⟩, rfl, rfl⟩; infer_instance
 rintro _ _ ⟨_, Q7, ⟨rfl, hS4⟩, rfl, rfl⟩
 refine AnyH.app ?_
 skip
 refine AnyH.done (by kernel_rfl) ?_
 refine Ends.seq ?_
 refine Wp.seq ?_
 refine AnyH.start ((b5, .cells (mSource p so).1.cells.toArray 25) :: (b2, .cells [.int .i64 vo.1, .int .i64 vo.2].toArray 31) :: cBlk cb sb tb :: []) 8 rfl ?_
 refine Tk 0 rfl rfl (pv_move rfl) rfl ?_
 refine Tk 1 rfl rfl (pv_nilCheck rfl) rfl ?_
 refine Tk 2 rfl rfl (pv_fieldAddr0 rfl rfl) rfl ?_
 refine Tk 3 rfl rfl (pv_fieldAddr0 rfl rfl) rfl ?_
 refine Tk 4 rfl rfl (pv_load rfl rfl rfl) rfl ?_
 refine Tk 5 rfl rfl (pv_loadK [_, _] rfl rfl rfl ⟨rfl, rfl, trivial⟩) rfl ?_
 refine Tk 6 rfl rfl (pv_loadK [_, _, _, _, _, _] rfl rfl rfl ⟨rfl, rfl, rfl, rfl, rfl, rfl, trivial⟩) rfl ?_
 refine AnyH.one 7 (by kernel_rfl) ?_
 refine Turn.ef rfl rfl (ef_call (sf_put hS4 vo (mSource p so).1) rfl rfl) ?_ ?_
 ·
  rintro _ _ ⟨_, Q8, ⟨rfl, hS5⟩, rfl, rfl⟩; infer_instance
 rintro _ _ ⟨_, Q8, ⟨rfl, hS5⟩, rfl, rfl⟩
 refine AnyH.app ?_
 skip
 refine AnyH.done (by kernel_rfl) ?_
 refine Ends.seq ?_
 refine Wp.seq ?_
 refine AnyH.start ((b7, .cells [.int .i64 (-1), .int .i64 0].toArray 31) :: (b2, .cells [.int .i64 vo.1, .int .i64 vo.2].toArray 31) :: cBlk cb sb tb :: []) 7 rfl ?_
 refine Tk 0 rfl rfl (pv_move rfl) rfl ?_
 refine Tk 1 rfl rfl (pv_nilCheck rfl) rfl ?_
 refine Tk 2 rfl rfl (pv_fieldAddr0 rfl rfl) rfl ?_
 refine Tk 3 rfl rfl (pv_load rfl rfl rfl) rfl ?_
 refine Tk 4 rfl rfl (pv_loadK [_, _] rfl rfl rfl ⟨rfl, rfl, trivial⟩) rfl ?_
 refine Tk 5 rfl rfl (pv_loadK [_, _] rfl rfl rfl ⟨rfl, rfl, trivial⟩) rfl ?_
 refine AnyH.one 6 (by kernel_rfl) ?_
 refine Turn.ef rfl rfl (ef_call (tr_fMove hT vo (-1, 0)) rfl rfl) ?_ ?_
 ·
  rintro _ _ ⟨_, R4, ⟨rfl, hT2⟩, rfl, rfl⟩; infer_instance
 rintro _ _ ⟨_, R4, ⟨rfl, hT2⟩, rfl, rfl⟩
 refine AnyH.app ?_
 skip
 refine AnyH.done (by kernel_rfl) ?_
 refine Ends.seq ?_
 refine Wp.seq ?_
 refine AnyH.start ((b2, .cells [.int .i64 vo.1, .int .i64 vo.2].toArray 31) :: (b3, .cells [.int .i64 so.1, .int .i64 so.2].toArray 31) :: cBlk cb sb tb :: []) 7 rfl ?_
 refine Tk 0 rfl rfl (pv_move rfl) rfl ?_
 refine Tk 1 rfl rfl (pv_nilCheck rfl) rfl ?_
 refine Tk 2 rfl rfl (pv_fieldAddr0 rfl rfl) rfl ?_
 refine Tk 3 rfl rfl (pv_load rfl rfl rfl) rfl ?_
 refine Tk 4 rfl rfl (pv_loadK [_, _] rfl rfl rfl ⟨rfl, rfl, trivial⟩) rfl ?_
 refine Tk 5 rfl rfl (pv_loadK [_, _] rfl rfl rfl ⟨rfl, rfl, trivial⟩) rfl ?_
 refine AnyH.one 6 (by kernel_rfl) ?_
 refine Turn.ef rfl rfl (ef_call (tr_fMove hT2 so vo) rfl rfl) ?_ ?_
 ·
  rintro _ _ ⟨_, R5, ⟨rfl, hT3⟩, rfl, rfl⟩; infer_instance
 rintro _ _ ⟨_, R5, ⟨rfl, hT3⟩, rfl, rfl⟩
 refine AnyH.app ?_
 skip
 refine AnyH.done (by kernel_rfl) ?_
 refine Ends.seq ?_
 refine Wp.seq ?_
 refine AnyH.start ((b7, .cells [.int .i64 (-1), .int .i64 0].toArray 31) :: (b1, .cells [.int .i64 de.1, .int .i64 de.2].toArray 31) :: cBlk cb sb tb :: []) 7 rfl ?_
 refine Tk 0 rfl rfl (pv_move rfl) rfl ?_
 refine Tk 1 rfl rfl (pv_nilCheck rfl) rfl ?_
 refine Tk 2 rfl rfl (pv_fieldAddr0 rfl rfl) rfl ?_
 refine Tk 3 rfl rfl (pv_load rfl rfl rfl) rfl ?_
 refine Tk 4 rfl rfl (pv_loadK [_, _] rfl rfl rfl ⟨rfl, rfl, trivial⟩) rfl ?_
 refine Tk 5 rfl rfl (pv_loadK [_, _] rfl rfl rfl ⟨rfl, rfl, trivial⟩) rfl ?_
 refine AnyH.one 6 (by kernel_rfl) ?_
 refine Turn.ef rfl rfl (ef_call (tr_fMove hT3 (-1, 0) de) rfl rfl) ?_ ?_
 ·
  rintro _ _ ⟨_, R6, ⟨rfl, hT4⟩, rfl, rfl⟩; infer_instance
 rintro _ _ ⟨_, R6, ⟨rfl, hT4⟩, rfl, rfl⟩
 refine AnyH.app ?_
 skip
 refine AnyH.done (by kernel_rfl) ?_
 refine Ends.seq ?_
 refine Wp.seq ?_
 refine Wp.region ?_
 refine Ops.pv (pv_assign rfl) rfl ?_
 refine Ops.nil ?_
 refine Ends.seq ?_
 refine Wp.ret ?_
 have he0 : mRotE p de so = (mSource p so).2 := by unfold mRotE; rw [if_neg (by assumption)]
 have he : mRotate p de vo so = (0, ⟨mRotL p.l de vo so (mSource p vo).1 (mSource p so).1, mRotF p.F de vo so⟩) := by unfold mRotate; rw [if_neg (by assumption), if_neg (by assumption), if_neg (by rw [he0]; assumption)]
 rw [he]
 exact Ends.ret (L' := cBlk cb sb tb :: (Q8 ++ R6)) (res1 rfl rfl) ⟨rfl, sb, tb, Q8, R6, hS5, hT4, rfl⟩
end Go.Proofs.YtdodfnjmkpgdbaaGreat
end
section
set_option linter.unusedVariables false
set_option linter.unusedSimpArgs false
namespace Go.Proofs.YtdodfnjmkpgdbaaGreat
open Go.SL
theorem tr_next (bl bp p l : Nat) (n : Int) (hp : p < 2 ^ 64) (hl : l ≤ 16) : Tr Tryz.prog 126 [.int .i64 n, .pointer (some ⟨bl, 0, none⟩), .pointer (some ⟨bp, 0, none⟩)] ([(bl, .cells [.int .i64 l].toArray 3), (bp, .cells [.int .u64 p].toArray 23)]) (fun v L' => v = .tuple #[.int .u64 (nxtV p l n), .bool (nxtOk l n)] ∧ L' = [(bl, .cells [.int .i64 (nxtL l n)].toArray 3), (bp, .cells [.int .u64 p].toArray 23)]) := by
 refine Tr.enter Tryz.func126 rfl Tryz.ntmps126 rfl (fun W F => ?_)
 refine Wp.app ?_
 refine Wp.seq ?_
 refine Wp.region ?_
 refine Ops.pv (pv_assign rfl) rfl ?_
 refine Ops.pv (pv_assign rfl) rfl ?_
 refine Ops.nil ?_
 refine Ends.seq ?_
 refine Wp.seq ?_
 refine Wp.seq ?_
 refine Wp.region ?_
 refine Ops.pv (pv_move rfl) rfl ?_
 refine Ops.pv (pv_lss rfl rfl) rfl ?_
 refine Ops.pv (pv_move rfl) rfl ?_
 refine Ops.split (t := 8) rfl (fun h1 => ?_) (fun h1 => ?_)
 ·
  refine Ops.skipg ⟨_, _, rfl, rfl, rfl⟩ rfl ?_
  refine Ops.skipg ⟨_, _, rfl, rfl, rfl⟩ rfl ?_
  refine Ops.skipg ⟨_, _, rfl, rfl, rfl⟩ rfl ?_
  refine Ops.pv (pv_pick_true rfl rfl) rfl ?_
  refine Ops.nil ?_
  refine Ends.seq ?_
  refine Wp.cond_true rfl ?_
  refine Wp.seq ?_
  refine Wp.region ?_
  refine Ops.pv (pv_assign rfl) rfl ?_
  refine Ops.pv (pv_assign rfl) rfl ?_
  refine Ops.nil ?_
  refine Ends.seq ?_
  refine Wp.ret ?_
  refine Ends.then_ret ?_
  exact Ends.ret (L' := [(bl, .cells [.int .i64 l].toArray 3), (bp, .cells [.int .u64 p].toArray 23)]) (res2 rfl rfl rfl) ⟨by rw [nxtV, nxtOk, if_neg (by omega), decide_eq_false (by omega)]; rfl, by rw [nxtL, if_neg (by omega)]⟩
 refine Ops.pvg ⟨_, _, rfl, rfl, rfl⟩ (pv_move rfl) rfl ?_
 refine Ops.pvg ⟨_, _, rfl, rfl, rfl⟩ (pv_load rfl rfl rfl) rfl ?_
 refine Ops.pvg ⟨_, _, rfl, rfl, rfl⟩ (pv_gtr rfl rfl) rfl ?_
 refine Ops.pv (pv_pick_false rfl rfl) rfl ?_
 refine Ops.nil ?_
 refine Ends.seq ?_
 refine Wp.cond_dect rfl (fun h2 => ?_) (fun h2 => ?_)
 ·
  refine Wp.seq ?_
  refine Wp.region ?_
  refine Ops.pv (pv_assign rfl) rfl ?_
  refine Ops.pv (pv_assign rfl) rfl ?_
  refine Ops.nil ?_
  refine Ends.seq ?_
  refine Wp.ret ?_
  refine Ends.then_ret ?_
  exact Ends.ret (L' := [(bl, .cells [.int .i64 l].toArray 3), (bp, .cells [.int .u64 p].toArray 23)]) (res2 rfl rfl rfl) ⟨by rw [nxtV, nxtOk, if_neg (by omega), decide_eq_false (by omega)]; rfl, by rw [nxtL, if_neg (by omega)]⟩
 obtain ⟨k, rfl⟩ : ∃ k : Nat, n = k := ⟨n.toNat, by omega⟩
 have hk : 0 ≤ (k : Int) ∧ (k : Int) ≤ (l : Int) := by omega
 have hkl : ((l - k : Nat) : Int) = (l : Int) - k := by omega
 refine Wp.skip ?_
 refine Ends.seq ?_
 refine Wp.seq ?_
 refine Wp.region ?_
 refine Ops.pv (pv_load rfl rfl rfl) rfl ?_
 refine Ops.pv (pv_move rfl) rfl ?_
 refine Ops.pv (pv_sub rfl rfl (w64 (by omega) (by omega))) rfl ?_
 refine Ops.ef rfl (ef_store1 rfl rfl (by first | rfl | assumption) (by first | rfl | assumption)) ?_
 rintro _ _ ⟨rfl, rfl⟩
 refine Ops.nil ?_
 refine Ends.seq ?_
 refine Wp.seq ?_
 refine AnyH.startL 9 rfl ?_
 refine Tk 0 rfl rfl (pv_load rfl rfl rfl) rfl ?_
 refine Tk 1 rfl rfl (pv_load rfl rfl rfl) rfl ?_
 refine Tk 2 rfl rfl (pv_shr rfl rfl (by omega) rfl) rfl ?_
 refine Tk 3 rfl rfl (pv_move rfl) rfl ?_
 refine Tk 4 rfl rfl (pv_shl rfl rfl (by omega) rfl) rfl ?_
 refine Tk 5 rfl rfl (pv_sub rfl rfl rfl) rfl ?_
 refine Tk 6 rfl rfl (pv_and rfl rfl rfl) rfl ?_
 refine Tk 7 rfl rfl (pv_assign rfl) rfl ?_
 refine Tk 8 rfl rfl (pv_assign rfl) rfl ?_
 refine AnyH.done (by kernel_rfl) ?_
 refine Ends.seq ?_
 refine Wp.ret ?_
 refine Ends.setE (t := 4) rfl (congrArg (Value.int .u64) (bits_next hp hl (by omega))) ?_
 exact Ends.ret (L' := [(bl, .cells [.int .i64 (l - k)].toArray 3), (bp, .cells [.int .u64 p].toArray 23)]) (res2 rfl rfl rfl) ⟨by rw [nxtV, nxtOk, if_pos hk, decide_eq_true hk]; rfl, by rw [nxtL, if_pos hk, Int.toNat_natCast, hkl]⟩
set_option maxHeartbeats 2000000 in
theorem tr_resolve (sb : Nat) (S : StoreM) (root : CapM) (p : Nat) (depth : Int) (hw : S.Wf) (hp : p < 2 ^ 64) : TrR Tryz.prog 104 [.pointer (some ⟨sb, 0, none⟩), root.v, .int .u64 p, .int .i64 depth] (storeHp sb S) (.tuple #[slotV (resolveM S root p depth).1, .int .i64 (resolveM S root p depth).2.1, .int .i64 (resolveM S root p depth).2.2]) := by
 refine Tr.enter Tryz.func104 rfl Tryz.ntmps104 rfl (fun W F => ?_)
 refine Wp.app ?_
 refine Wp.seq ?_
 refine Wp.region ?_
 refine Ops.ef rfl (ef_boxK rfl rfl) ?_
 rintro _ _ ⟨b1, rfl, rfl⟩
 refine Ops.ef rfl (ef_box1 rfl rfl rfl) ?_
 rintro _ _ ⟨b2, rfl, rfl⟩
 refine Ops.ef rfl (ef_allocK tyZ31 rfl) ?_
 rintro _ _ ⟨b3, rfl, rfl⟩
 refine Ops.pv (pv_assign rfl) rfl ?_
 refine Ops.pv (pv_assign rfl) rfl ?_
 refine Ops.nil ?_
 refine Ends.seq ?_
 refine Wp.seq ?_
 refine Wp.block ?_
 refine Wp.seq ?_
 refine Wp.region ?_
 refine Ops.pv (pv_move rfl) rfl ?_
 refine Ops.pv (pv_lss rfl rfl) rfl ?_
 refine Ops.pv (pv_move rfl) rfl ?_
 refine Ops.split (t := 24) rfl (fun h1 => ?_) (fun h1 => ?_)
 ·
  refine Ops.skipg ⟨_, _, rfl, rfl, rfl⟩ rfl ?_
  refine Ops.skipg ⟨_, _, rfl, rfl, rfl⟩ rfl ?_
  refine Ops.pv (pv_pick_true rfl rfl) rfl ?_
  refine Ops.pv (pv_move rfl) rfl ?_
  refine Ops.skipg ⟨_, _, rfl, rfl, rfl⟩ rfl ?_
  refine Ops.skipg ⟨_, _, rfl, rfl, rfl⟩ rfl ?_
  refine Ops.skipg ⟨_, _, rfl, rfl, rfl⟩ rfl ?_
  refine Ops.skipg ⟨_, _, rfl, rfl, rfl⟩ rfl ?_
  refine Ops.pv (pv_pick_true rfl rfl) rfl ?_
  refine Ops.pv (pv_assign rfl) rfl ?_
  refine Ops.nil ?_
  refine Ends.seq ?_
  refine Wp.cond_true rfl ?_
  refine Wp.seq ?_
  refine Wp.region ?_
  refine Ops.pv (pv_build rfl) rfl ?_
  refine Ops.ef rfl (ef_storeK rfl rfl rfl rfl) ?_
  rintro _ _ ⟨rfl, rfl⟩
  refine Ops.pv (pv_assign rfl) rfl ?_
  refine Ops.pv (pv_assign rfl) rfl ?_
  refine Ops.nil ?_
  refine Ends.seq ?_
  refine Wp.ret ?_
  refine Ends.block_ret ?_
  refine Ends.then_ret ?_
  exact Ends.ret (res_list (rs := [.cell 8 31, .tmp 9, .tmp 10]) rfl ⟨_, _, rfl, rv_cellK [_, _] rfl rfl rfl ⟨rfl, rfl, trivial⟩, ⟨_, _, rfl, rv_tmp rfl, ⟨_, _, rfl, rv_tmp rfl, rfl⟩⟩⟩ rfl) ⟨by rw [resolve_e1 (.inl h1)]; rfl, rfl⟩
 refine Ops.pvg ⟨_, _, rfl, rfl, rfl⟩ (pv_move rfl) rfl ?_
 refine Ops.pvg ⟨_, _, rfl, rfl, rfl⟩ (pv_gtr rfl rfl) rfl ?_
 refine Ops.pv (pv_pick_false rfl rfl) rfl ?_
 refine Ops.pv (pv_move rfl) rfl ?_
 refine Ops.split (t := 28) rfl (fun h2 => ?_) (fun h2 => ?_)
 ·
  refine Ops.skipg ⟨_, _, rfl, rfl, rfl⟩ rfl ?_
  refine Ops.skipg ⟨_, _, rfl, rfl, rfl⟩ rfl ?_
  refine Ops.skipg ⟨_, _, rfl, rfl, rfl⟩ rfl ?_
  refine Ops.skipg ⟨_, _, rfl, rfl, rfl⟩ rfl ?_
  refine Ops.pv (pv_pick_true rfl rfl) rfl ?_
  refine Ops.pv (pv_assign rfl) rfl ?_
  refine Ops.nil ?_
  refine Ends.seq ?_
  refine Wp.cond_true rfl ?_
  refine Wp.seq ?_
  refine Wp.region ?_
  refine Ops.pv (pv_build rfl) rfl ?_
  refine Ops.ef rfl (ef_storeK rfl rfl rfl rfl) ?_
  rintro _ _ ⟨rfl, rfl⟩
  refine Ops.pv (pv_assign rfl) rfl ?_
  refine Ops.pv (pv_assign rfl) rfl ?_
  refine Ops.nil ?_
  refine Ends.seq ?_
  refine Wp.ret ?_
  refine Ends.block_ret ?_
  refine Ends.then_ret ?_
  exact Ends.ret (res_list (rs := [.cell 8 31, .tmp 9, .tmp 10]) rfl ⟨_, _, rfl, rv_cellK [_, _] rfl rfl rfl ⟨rfl, rfl, trivial⟩, ⟨_, _, rfl, rv_tmp rfl, ⟨_, _, rfl, rv_tmp rfl, rfl⟩⟩⟩ rfl) ⟨by rw [resolve_e1 (.inr h2)]; rfl, rfl⟩
 refine Ops.pvg ⟨_, _, rfl, rfl, rfl⟩ (pv_load rfl rfl rfl) rfl ?_
 refine Ops.pvg ⟨_, _, rfl, rfl, rfl⟩ (pv_move rfl) rfl ?_
 refine Ops.pvg ⟨_, _, rfl, rfl, rfl⟩ (pv_shr rfl rfl (by omega) rfl) rfl ?_
 refine Ops.pvg ⟨_, _, rfl, rfl, rfl⟩ (pv_neq rfl rfl) rfl ?_
 refine Ops.pv (pv_pick_false rfl rfl) rfl ?_
 refine Ops.pv (pv_assign rfl) rfl ?_
 refine Ops.nil ?_
 refine Ends.seq ?_
 refine Wp.cond_dect rfl (fun h3 => ?_) (fun h3 => ?_)
 ·
  refine Wp.seq ?_
  refine Wp.region ?_
  refine Ops.pv (pv_build rfl) rfl ?_
  refine Ops.ef rfl (ef_storeK rfl rfl rfl rfl) ?_
  rintro _ _ ⟨rfl, rfl⟩
  refine Ops.pv (pv_assign rfl) rfl ?_
  refine Ops.pv (pv_assign rfl) rfl ?_
  refine Ops.nil ?_
  refine Ends.seq ?_
  refine Wp.ret ?_
  refine Ends.block_ret ?_
  refine Ends.then_ret ?_
  exact Ends.ret (res_list (rs := [.cell 8 31, .tmp 9, .tmp 10]) rfl ⟨_, _, rfl, rv_cellK [_, _] rfl rfl rfl ⟨rfl, rfl, trivial⟩, ⟨_, _, rfl, rv_tmp rfl, ⟨_, _, rfl, rv_tmp rfl, rfl⟩⟩⟩ rfl) ⟨by rw [resolve_e1' h1 h2 h3]; rfl, rfl⟩
 refine Wp.seq ?_
 refine Wp.region ?_
 refine Ops.pv (pv_fieldAddr0 rfl rfl) rfl ?_
 refine Ops.pv (pv_load rfl rfl rfl) rfl ?_
 refine Ops.pv (pv_neq rfl rfl) rfl ?_
 refine Ops.pv (pv_assign rfl) rfl ?_
 refine Ops.nil ?_
 refine Ends.seq ?_
 refine Wp.cond_dect rfl (fun h4 => ?_) (fun h4 => ?_)
 ·
  refine Wp.seq ?_
  refine Wp.region ?_
  refine Ops.pv (pv_build rfl) rfl ?_
  refine Ops.ef rfl (ef_storeK rfl rfl rfl rfl) ?_
  rintro _ _ ⟨rfl, rfl⟩
  refine Ops.pv (pv_assign rfl) rfl ?_
  refine Ops.pv (pv_assign rfl) rfl ?_
  refine Ops.nil ?_
  refine Ends.seq ?_
  refine Wp.ret ?_
  refine Ends.block_ret ?_
  refine Ends.then_ret ?_
  exact Ends.ret (res_list (rs := [.cell 8 31, .tmp 9, .tmp 10]) rfl ⟨_, _, rfl, rv_cellK [_, _] rfl rfl rfl ⟨rfl, rfl, trivial⟩, ⟨_, _, rfl, rv_tmp rfl, ⟨_, _, rfl, rv_tmp rfl, rfl⟩⟩⟩ rfl) ⟨by rw [resolve_e2 h1 h2 h3 h4]; rfl, rfl⟩
 obtain ⟨k, rfl⟩ : ∃ k : Nat, depth = k := ⟨depth.toNat, by omega⟩
 refine Wp.skip ?_
 refine Ends.block_normal ?_
 refine Ends.seq ?_
 refine Wp.seq ?_
 refine Wp.region ?_
 refine Ops.pv (pv_move rfl) rfl ?_
 refine Ops.ef rfl (ef_alloc1 tyZ3 rfl rfl) ?_
 rintro _ _ ⟨b4, rfl, rfl⟩
 refine Ops.ef rfl (ef_store1 rfl rfl (by first | rfl | assumption) (by first | rfl | assumption)) ?_
 rintro _ _ ⟨rfl, rfl⟩
 refine Ops.nil ?_
 refine Ends.seq ?_
 refine Wp.seq ?_
 refine Wp.region ?_
 refine Ops.pv (pv_makeFunc rfl rfl) rfl ?_
 refine Ops.pv (pv_assign rfl) rfl ?_
 refine Ops.nil ?_
 refine Ends.seq ?_
 refine Wp.seq ?_
 refine Wp.region ?_
 refine Ops.pv (pv_loadK [_, _, _, _, _, _] rfl rfl rfl ⟨rfl, rfl, rfl, rfl, rfl, rfl, trivial⟩) rfl ?_
 refine Ops.ef rfl (ef_allocK tyZ25 rfl) ?_
 rintro _ _ ⟨b5, rfl, rfl⟩
 refine Ops.ef rfl (ef_storeK rfl rfl rfl rfl) ?_
 rintro _ _ ⟨rfl, rfl⟩
 refine Ops.nil ?_
 refine Ends.seq ?_
 refine Wp.block ?_
 refine Wp.loop (σ := Nat × CapM × Nat × Nat) (fun x => [(0, .pointer (some ⟨sb, 0, none⟩)), (8, .pointer (some ⟨b3, 0, none⟩)), (9, .int .i64 0), (10, .int .i64 0), (11, .pointer (some ⟨b4, 0, none⟩)), (12, .func (.func 126) #[] #[.pointer (some ⟨b4, 0, none⟩), .pointer (some ⟨b2, 0, none⟩)]), (13, .pointer (some ⟨x.1, 0, none⟩))]) (fun x => (x.1, .cells x.2.1.cells.toArray 25) :: (b4, .cells [.int .i64 x.2.2.1].toArray 3) :: (b3, .cells [.int .i64 0, .int .i64 0].toArray 31) :: (b2, .cells [.int .u64 p].toArray 23) :: (storeHp sb S ++ F)) (fun x => x.2.2.1 ≤ 16 ∧ x.2.2.1 < x.2.2.2 ∧ resolveM S root p (k : Int) = resLoop S p x.2.2.2 x.2.1 x.2.2.1) (fun x => x.2.2.2) (b5, root, k, k + 1) ?_ (by exact ⟨rfl, rfl, rfl, rfl, rfl, rfl, rfl, trivial⟩) (by exact fun w ho => Drop.own ho) ?_
 ·
  dsimp only; exact ⟨by omega, by omega, resolve_go h1 h2 h3 h4⟩
 rintro ⟨b5, c, l, m⟩ K ⟨hl, hlm, hres⟩ hK
 dsimp only at hl hlm hres hK ⊢
 obtain ⟨m, rfl⟩ : ∃ j, m = j + 1 := ⟨m - 1, by omega⟩
 have hl1 : nxtL l c.bits ≤ 16 := Nat.le_trans (nxtL_le _ _) hl
 have hv := nxtV_lt (p := p) (l := nxtL l c.bits) (n := S.radix c.object) hl1
 have hr0 := S.radix_nonneg c.object
 refine Wp.seq ?_
 refine Wp.block ?_
 refine Wp.seq ?_
 refine Wp.region ?_
 refine Ops.pv (pv_move rfl) rfl ?_
 refine Ops.pv (pv_fieldAddr0 rfl rfl) rfl ?_
 refine Ops.pv (pv_load rfl rfl rfl) rfl ?_
 refine Ops.ef rfl (ef_callr (tr_radix sb S _) rfl rfl) ?_
 rintro _ _ ⟨rfl, rfl⟩
 refine Ops.pv (pv_assign rfl) rfl ?_
 refine Ops.nil ?_
 refine Ends.seq ?_
 refine Wp.seq ?_
 refine Wp.region ?_
 refine Ops.pv (pv_move rfl) rfl ?_
 refine Ops.pv (pv_fieldAddr0 rfl rfl) rfl ?_
 refine Ops.pv (pv_load rfl rfl rfl) rfl ?_
 refine Ops.ef rfl (ef_callf rfl rfl (tr_next b4 b2 p l c.bits hp hl) rfl) ?_
 rintro _ _ ⟨_, _, ⟨rfl, rfl⟩, rfl, rfl⟩
 refine Ops.app ?_
 refine Ops.pv (pv_move rfl) rfl ?_
 refine Ops.pv (pv_extract rfl rfl) rfl ?_
 refine Ops.pv (pv_extract rfl rfl) rfl ?_
 refine Ops.pv (pv_assign rfl) rfl ?_
 refine Ops.pv (pv_assign rfl) rfl ?_
 refine Ops.nil ?_
 refine Ends.seq ?_
 refine Wp.seq ?_
 refine Wp.seq ?_
 refine Wp.region ?_
 refine Ops.pv (pv_move rfl) rfl ?_
 refine Ops.pv (pv_eql rfl rfl) rfl ?_
 refine Ops.pv (pv_move rfl) rfl ?_
 refine Ops.split (t := 56) rfl (fun h5 => ?_) (fun h5 => ?_)
 ·
  refine Ops.skipg ⟨_, _, rfl, rfl, rfl⟩ rfl ?_
  refine Ops.skipg ⟨_, _, rfl, rfl, rfl⟩ rfl ?_
  refine Ops.pv (pv_pick_true rfl rfl) rfl ?_
  refine Ops.pv (pv_move rfl) rfl ?_
  refine Ops.skipg ⟨_, _, rfl, rfl, rfl⟩ rfl ?_
  refine Ops.skipg ⟨_, _, rfl, rfl, rfl⟩ rfl ?_
  refine Ops.skipg ⟨_, _, rfl, rfl, rfl⟩ rfl ?_
  refine Ops.skipg ⟨_, _, rfl, rfl, rfl⟩ rfl ?_
  refine Ops.pv (pv_pick_true rfl rfl) rfl ?_
  refine Ops.nil ?_
  refine Ends.seq ?_
  refine Wp.cond_true rfl ?_
  refine Wp.seq ?_
  refine Wp.region ?_
  refine Ops.pv (pv_build rfl) rfl ?_
  refine Ops.ef rfl (ef_storeK rfl rfl rfl rfl) ?_
  rintro _ _ ⟨rfl, rfl⟩
  refine Ops.pv (pv_assign rfl) rfl ?_
  refine Ops.pv (pv_assign rfl) rfl ?_
  refine Ops.nil ?_
  refine Ends.seq ?_
  refine Wp.ret ?_
  refine Ends.then_ret ?_
  refine Ends.block_ret ?_
  refine Ends.then_ret ?_
  refine Ends.then_ret ?_
  refine Ends.block_ret ?_
  exact Ends.ret (res_list (rs := [.cell 8 31, .tmp 9, .tmp 10]) rfl ⟨_, _, rfl, rv_cellK [_, _] rfl rfl rfl ⟨rfl, rfl, trivial⟩, ⟨_, _, rfl, rv_tmp rfl, ⟨_, _, rfl, rv_tmp rfl, rfl⟩⟩⟩ rfl) ⟨by rw [hres, rl_e (.inl h5)]; rfl, rfl⟩
 refine Ops.pvg ⟨_, _, rfl, rfl, rfl⟩ (pv_move rfl) rfl ?_
 refine Ops.pvg ⟨_, _, rfl, rfl, rfl⟩ (pv_not_dec rfl) rfl ?_
 refine Ops.pv (pv_pick_false rfl rfl) rfl ?_
 refine Ops.pv (pv_move rfl) rfl ?_
 refine Ops.split (t := 60) rfl (fun h6 => ?_) (fun h6 => ?_)
 ·
  refine Ops.skipg ⟨_, _, rfl, rfl, rfl⟩ rfl ?_
  refine Ops.skipg ⟨_, _, rfl, rfl, rfl⟩ rfl ?_
  refine Ops.skipg ⟨_, _, rfl, rfl, rfl⟩ rfl ?_
  refine Ops.skipg ⟨_, _, rfl, rfl, rfl⟩ rfl ?_
  refine Ops.pv (pv_pick_true rfl rfl) rfl ?_
  refine Ops.nil ?_
  refine Ends.seq ?_
  refine Wp.cond_true rfl ?_
  refine Wp.seq ?_
  refine Wp.region ?_
  refine Ops.pv (pv_build rfl) rfl ?_
  refine Ops.ef rfl (ef_storeK rfl rfl rfl rfl) ?_
  rintro _ _ ⟨rfl, rfl⟩
  refine Ops.pv (pv_assign rfl) rfl ?_
  refine Ops.pv (pv_assign rfl) rfl ?_
  refine Ops.nil ?_
  refine Ends.seq ?_
  refine Wp.ret ?_
  refine Ends.then_ret ?_
  refine Ends.block_ret ?_
  refine Ends.then_ret ?_
  refine Ends.then_ret ?_
  refine Ends.block_ret ?_
  exact Ends.ret (res_list (rs := [.cell 8 31, .tmp 9, .tmp 10]) rfl ⟨_, _, rfl, rv_cellK [_, _] rfl rfl rfl ⟨rfl, rfl, trivial⟩, ⟨_, _, rfl, rv_tmp rfl, ⟨_, _, rfl, rv_tmp rfl, rfl⟩⟩⟩ rfl) ⟨by rw [hres, rl_e (.inr (.inl (decide_eq_false h6)))]; rfl, rfl⟩
 refine Ops.pvg ⟨_, _, rfl, rfl, rfl⟩ (pv_move rfl) rfl ?_
 refine Ops.pvg ⟨_, _, rfl, rfl, rfl⟩ (pv_fieldAddr0 rfl rfl) rfl ?_
 refine Ops.pvg ⟨_, _, rfl, rfl, rfl⟩ (pv_load rfl rfl rfl) rfl ?_
 refine Ops.pvg ⟨_, _, rfl, rfl, rfl⟩ (pv_neq rfl rfl) rfl ?_
 refine Ops.pv (pv_pick_false rfl rfl) rfl ?_
 refine Ops.nil ?_
 refine Ends.seq ?_
 refine Wp.cond_dect rfl (fun h7 => ?_) (fun h7 => ?_)
 ·
  refine Wp.seq ?_
  refine Wp.region ?_
  refine Ops.pv (pv_build rfl) rfl ?_
  refine Ops.ef rfl (ef_storeK rfl rfl rfl rfl) ?_
  rintro _ _ ⟨rfl, rfl⟩
  refine Ops.pv (pv_assign rfl) rfl ?_
  refine Ops.pv (pv_assign rfl) rfl ?_
  refine Ops.nil ?_
  refine Ends.seq ?_
  refine Wp.ret ?_
  refine Ends.then_ret ?_
  refine Ends.block_ret ?_
  refine Ends.then_ret ?_
  refine Ends.then_ret ?_
  refine Ends.block_ret ?_
  exact Ends.ret (res_list (rs := [.cell 8 31, .tmp 9, .tmp 10]) rfl ⟨_, _, rfl, rv_cellK [_, _] rfl rfl rfl ⟨rfl, rfl, trivial⟩, ⟨_, _, rfl, rv_tmp rfl, ⟨_, _, rfl, rv_tmp rfl, rfl⟩⟩⟩ rfl) ⟨by rw [hres, rl_e (.inr (.inr h7))]; rfl, rfl⟩
 refine Wp.skip ?_
 refine Ends.seq ?_
 refine Wp.seq ?_
 refine Wp.region ?_
 refine Ops.pv (pv_move rfl) rfl ?_
 refine Ops.pv (pv_move rfl) rfl ?_
 refine Ops.ef rfl (ef_callf rfl rfl (tr_next b4 b2 p (nxtL l c.bits) (S.radix c.object) hp hl1) rfl) ?_
 rintro _ _ ⟨_, _, ⟨rfl, rfl⟩, rfl, rfl⟩
 refine Ops.app ?_
 refine Ops.pv (pv_move rfl) rfl ?_
 refine Ops.pv (pv_extract rfl rfl) rfl ?_
 refine Ops.pv (pv_extract rfl rfl) rfl ?_
 refine Ops.pv (pv_assign rfl) rfl ?_
 refine Ops.pv (pv_assign rfl) rfl ?_
 refine Ops.nil ?_
 refine Ends.seq ?_
 refine Wp.seq ?_
 refine Wp.seq ?_
 refine Wp.region ?_
 refine Ops.pv (pv_move rfl) rfl ?_
 refine Ops.pv (pv_not_dec rfl) rfl ?_
 refine Ops.nil ?_
 refine Ends.seq ?_
 refine Wp.cond_dect rfl (fun h8 => ?_) (fun h8 => ?_)
 ·
  refine Wp.seq ?_
  refine Wp.region ?_
  refine Ops.pv (pv_build rfl) rfl ?_
  refine Ops.ef rfl (ef_storeK rfl rfl rfl rfl) ?_
  rintro _ _ ⟨rfl, rfl⟩
  refine Ops.pv (pv_assign rfl) rfl ?_
  refine Ops.pv (pv_assign rfl) rfl ?_
  refine Ops.nil ?_
  refine Ends.seq ?_
  refine Wp.ret ?_
  refine Ends.then_ret ?_
  refine Ends.block_ret ?_
  refine Ends.then_ret ?_
  refine Ends.then_ret ?_
  refine Ends.block_ret ?_
  exact Ends.ret (res_list (rs := [.cell 8 31, .tmp 9, .tmp 10]) rfl ⟨_, _, rfl, rv_cellK [_, _] rfl rfl rfl ⟨rfl, rfl, trivial⟩, ⟨_, _, rfl, rv_tmp rfl, ⟨_, _, rfl, rv_tmp rfl, rfl⟩⟩⟩ rfl) ⟨by rw [hres, rl_e2 (rl_n h5 h6 h7) (decide_eq_false h8)]; rfl, rfl⟩
 refine Wp.skip ?_
 refine Ends.seq ?_
 refine Wp.seq ?_
 refine Wp.region ?_
 refine Ops.pv (pv_fieldAddr0 rfl rfl) rfl ?_
 refine Ops.pv (pv_load rfl rfl rfl) rfl ?_
 refine Ops.pv (pv_move rfl) rfl ?_
 refine Ops.pv (pv_conv rfl (w64 (by omega) (by omega))) rfl ?_
 refine Ops.pv (pv_build rfl) rfl ?_
 refine Ops.ef rfl (ef_allocK tyZ31 rfl) ?_
 rintro _ _ ⟨b6, rfl, rfl⟩
 refine Ops.ef rfl (ef_storeK rfl rfl rfl rfl) ?_
 rintro _ _ ⟨rfl, rfl⟩
 refine Ops.nil ?_
 refine Ends.seq ?_
 refine Wp.seq ?_
 refine Wp.region ?_
 refine Ops.pv (pv_move rfl) rfl ?_
 refine Ops.pv (pv_loadK [_, _] rfl rfl rfl ⟨rfl, rfl, trivial⟩) rfl ?_
 refine Ops.ef rfl (ef_callr (tr_get sb S (c.object, (nxtV p (nxtL l c.bits) (S.radix c.object) : Int)) hw) rfl rfl) ?_
 rintro _ _ ⟨rfl, rfl⟩
 refine Ops.pv (pv_move rfl) rfl ?_
 refine Ops.pv (pv_extract rfl rfl) rfl ?_
 refine Ops.pv (pv_extract rfl rfl) rfl ?_
 refine Ops.ef rfl (ef_allocK tyZ25 rfl) ?_
 rintro _ _ ⟨b7, rfl, rfl⟩
 refine Ops.ef rfl (ef_storeK rfl rfl rfl rfl) ?_
 rintro _ _ ⟨rfl, rfl⟩
 refine Ops.pv (pv_assign rfl) rfl ?_
 refine Ops.nil ?_
 refine Ends.seq ?_
 refine Wp.seq ?_
 refine Wp.seq ?_
 refine Wp.region ?_
 refine Ops.pv (pv_load rfl rfl rfl) rfl ?_
 refine Ops.pv (pv_eql rfl rfl) rfl ?_
 refine Ops.pv (pv_move rfl) rfl ?_
 refine Ops.split (t := 89) rfl (fun h9 => ?_) (fun h9 => ?_)
 ·
  refine Ops.skipg ⟨_, _, rfl, rfl, rfl⟩ rfl ?_
  refine Ops.skipg ⟨_, _, rfl, rfl, rfl⟩ rfl ?_
  refine Ops.skipg ⟨_, _, rfl, rfl, rfl⟩ rfl ?_
  refine Ops.pv (pv_pick_true rfl rfl) rfl ?_
  refine Ops.nil ?_
  refine Ends.seq ?_
  refine Wp.cond_true rfl ?_
  refine Wp.seq ?_
  refine AnyH.start [(b6, .cells [.int .i64 c.object, .int .i64 (nxtV p (nxtL l c.bits) (S.radix c.object))].toArray 31), (b4, .cells [.int .i64 (nxtL (nxtL l c.bits) (S.radix c.object))].toArray 3)] 5 rfl ?_
  refine Tk 0 rfl rfl (pv_loadK [_, _] rfl rfl rfl ⟨rfl, rfl, trivial⟩) rfl ?_
  refine Tk 1 rfl rfl (pv_load rfl rfl rfl) rfl ?_
  refine AnyH.one 2 (by kernel_rfl) ?_
  refine Turn.ef rfl rfl (ef_storeK rfl rfl rfl rfl) ?_ ?_
  ·
   rintro _ _ ⟨rfl, rfl⟩; infer_instance
  rintro _ _ ⟨rfl, rfl⟩
  refine Tk 3 rfl rfl (pv_assign rfl) rfl ?_
  refine Tk 4 rfl rfl (pv_assign rfl) rfl ?_
  refine AnyH.done (by kernel_rfl) ?_
  refine Ends.seq ?_
  refine Wp.ret ?_
  refine Ends.then_ret ?_
  refine Ends.block_ret ?_
  refine Ends.then_ret ?_
  refine Ends.then_ret ?_
  refine Ends.block_ret ?_
  exact Ends.ret (res_list (rs := [.cell 8 31, .tmp 9, .tmp 10]) rfl ⟨_, _, rfl, rv_cellK [_, _] rfl rfl rfl ⟨rfl, rfl, trivial⟩, ⟨_, _, rfl, rv_tmp rfl, ⟨_, _, rfl, rv_tmp rfl, rfl⟩⟩⟩ rfl) ⟨by rw [hres, rl_f (rl_n h5 h6 h7) (fun h => h8 (of_decide_eq_false h)) (.inl (by omega))], rfl⟩
 refine Ops.pvg ⟨_, _, rfl, rfl, rfl⟩ (pv_fieldAddr0 rfl rfl) rfl ?_
 refine Ops.pvg ⟨_, _, rfl, rfl, rfl⟩ (pv_load rfl rfl rfl) rfl ?_
 refine Ops.pvg ⟨_, _, rfl, rfl, rfl⟩ (pv_neq rfl rfl) rfl ?_
 refine Ops.pv (pv_pick_false rfl rfl) rfl ?_
 refine Ops.nil ?_
 refine Ends.seq ?_
 refine Wp.cond_dect rfl (fun h10 => ?_) (fun h10 => ?_)
 ·
  refine Wp.seq ?_
  refine AnyH.start [(b6, .cells [.int .i64 c.object, .int .i64 (nxtV p (nxtL l c.bits) (S.radix c.object))].toArray 31), (b4, .cells [.int .i64 (nxtL (nxtL l c.bits) (S.radix c.object))].toArray 3)] 5 rfl ?_
  refine Tk 0 rfl rfl (pv_loadK [_, _] rfl rfl rfl ⟨rfl, rfl, trivial⟩) rfl ?_
  refine Tk 1 rfl rfl (pv_load rfl rfl rfl) rfl ?_
  refine AnyH.one 2 (by kernel_rfl) ?_
  refine Turn.ef rfl rfl (ef_storeK rfl rfl rfl rfl) ?_ ?_
  ·
   rintro _ _ ⟨rfl, rfl⟩; infer_instance
  rintro _ _ ⟨rfl, rfl⟩
  refine Tk 3 rfl rfl (pv_assign rfl) rfl ?_
  refine Tk 4 rfl rfl (pv_assign rfl) rfl ?_
  refine AnyH.done (by kernel_rfl) ?_
  refine Ends.seq ?_
  refine Wp.ret ?_
  refine Ends.then_ret ?_
  refine Ends.block_ret ?_
  refine Ends.then_ret ?_
  refine Ends.then_ret ?_
  refine Ends.block_ret ?_
  exact Ends.ret (res_list (rs := [.cell 8 31, .tmp 9, .tmp 10]) rfl ⟨_, _, rfl, rv_cellK [_, _] rfl rfl rfl ⟨rfl, rfl, trivial⟩, ⟨_, _, rfl, rv_tmp rfl, ⟨_, _, rfl, rv_tmp rfl, rfl⟩⟩⟩ rfl) ⟨by rw [hres, rl_f (rl_n h5 h6 h7) (fun h => h8 (of_decide_eq_false h)) (.inr h10)], rfl⟩
 refine Wp.skip ?_
 refine Ends.seq ?_
 refine Wp.region ?_
 refine Ops.pv (pv_loadK [_, _, _, _, _, _] rfl rfl rfl ⟨rfl, rfl, rfl, rfl, rfl, rfl, trivial⟩) rfl ?_
 refine Ops.ef rfl (ef_storeK rfl rfl rfl rfl) ?_
 rintro _ _ ⟨rfl, rfl⟩
 refine Ops.nil ?_
 refine Ends.block_normal ?_
 refine Ends.seq ?_
 refine Wp.seq ?_
 refine Wp.region ?_
 refine Ops.pv (pv_loadK [_, _, _, _, _, _] rfl rfl rfl ⟨rfl, rfl, rfl, rfl, rfl, rfl, trivial⟩) rfl ?_
 refine Ops.nil ?_
 refine Ends.seq ?_
 refine Wp.region ?_
 refine Ops.ef rfl (ef_allocK tyZ25 rfl) ?_
 rintro _ _ ⟨b8, rfl, rfl⟩
 refine Ops.ef rfl (ef_storeK rfl rfl rfl rfl) ?_
 rintro _ _ ⟨rfl, rfl⟩
 refine Ops.nil ?_
 refine Ends.goes ?_
 refine Goes.back (hK (b8, (S.get (c.object, (nxtV p (nxtL l c.bits) (S.radix c.object) : Int))).1, nxtL (nxtL l c.bits) (S.radix c.object), m) ⟨?_, ?_, ?_⟩ (by simp)) ⟨rfl, rfl, rfl, rfl, rfl, rfl, rfl, trivial⟩
 ·
  exact Nat.le_trans (nxtL_le _ _) hl1
 ·
  have hlt := nxtL_lt (decide_eq_true (Decidable.not_not.mp h8)) h5
  have hle := nxtL_le l c.bits
  dsimp only; omega
 rw [hres]; exact rl_g (rl_n h5 h6 h7) (fun h => h8 (of_decide_eq_false h)) (by rintro (h | h) <;> omega)
theorem tr_find (sb : Nat) (S : StoreM) (root : CapM) (p : Nat) (depth : Int) (hw : S.Wf) (hp : p < 2 ^ 64) : TrR Tryz.prog 64 [.pointer (some ⟨sb, 0, none⟩), root.v, .int .u64 p, .int .i64 depth] (storeHp sb S) (.tuple #[slotV (findM S root p depth).1, .int .i64 (findM S root p depth).2]) := by
 refine Tr.enter Tryz.func64 rfl Tryz.ntmps64 rfl (fun W F => ?_)
 refine Wp.app ?_
 refine Wp.seq ?_
 refine Wp.region ?_
 refine Ops.ef rfl (ef_boxK rfl rfl) ?_
 rintro _ _ ⟨b1, rfl, rfl⟩
 refine Ops.ef rfl (ef_allocK tyZ31 rfl) ?_
 rintro _ _ ⟨b2, rfl, rfl⟩
 refine Ops.pv (pv_assign rfl) rfl ?_
 refine Ops.nil ?_
 refine Ends.seq ?_
 refine Wp.seq ?_
 refine Wp.region ?_
 refine Ops.pv (pv_move rfl) rfl ?_
 refine Ops.pv (pv_loadK [_, _, _, _, _, _] rfl rfl rfl ⟨rfl, rfl, rfl, rfl, rfl, rfl, trivial⟩) rfl ?_
 refine Ops.pv (pv_move rfl) rfl ?_
 refine Ops.pv (pv_move rfl) rfl ?_
 refine Ops.ef rfl (ef_callr (tr_resolve sb S root p depth hw hp) rfl rfl) ?_
 rintro _ _ ⟨rfl, rfl⟩
 refine Ops.pv (pv_move rfl) rfl ?_
 refine Ops.pv (pv_extract rfl rfl) rfl ?_
 refine Ops.pv (pv_extract rfl rfl) rfl ?_
 refine Ops.pv (pv_extract rfl rfl) rfl ?_
 refine Ops.ef rfl (ef_allocK tyZ31 rfl) ?_
 rintro _ _ ⟨b3, rfl, rfl⟩
 refine Ops.ef rfl (ef_storeK rfl rfl rfl rfl) ?_
 rintro _ _ ⟨rfl, rfl⟩
 refine Ops.pv (pv_assign rfl) rfl ?_
 refine Ops.pv (pv_assign rfl) rfl ?_
 refine Ops.nil ?_
 refine Ends.seq ?_
 refine Wp.seq ?_
 refine Wp.seq ?_
 refine Wp.region ?_
 refine Ops.pv (pv_move rfl) rfl ?_
 refine Ops.pv (pv_eql rfl rfl) rfl ?_
 refine Ops.pv (pv_move rfl) rfl ?_
 refine Ops.split (t := 24) rfl (fun h1 => ?_) (fun h1 => ?_)
 ·
  refine Ops.pvg ⟨_, _, rfl, rfl, rfl⟩ (pv_move rfl) rfl ?_
  refine Ops.pvg ⟨_, _, rfl, rfl, rfl⟩ (pv_gtr rfl rfl) rfl ?_
  refine Ops.pv (pv_pick_true rfl rfl) rfl ?_
  refine Ops.nil ?_
  refine Ends.seq ?_
  refine Wp.cond_dect rfl (fun h2 => ?_) (fun h2 => ?_)
  ·
   refine Wp.region ?_
   refine Ops.pv (pv_assign rfl) rfl ?_
   refine Ops.nil ?_
   refine Ends.seq ?_
   refine Wp.seq ?_
   refine Wp.seq ?_
   refine Wp.region ?_
   refine Ops.pv (pv_move rfl) rfl ?_
   refine Ops.pv (pv_neq rfl rfl) rfl ?_
   refine Ops.nil ?_
   refine Ends.seq ?_
   refine Wp.cond_dect rfl (fun h3 => ?_) (fun h3 => ?_)
   ·
    refine Wp.seq ?_
    refine Wp.region ?_
    refine Ops.pv (pv_build rfl) rfl ?_
    refine Ops.pv (pv_move rfl) rfl ?_
    refine Ops.ef rfl (ef_storeK rfl rfl rfl rfl) ?_
    rintro _ _ ⟨rfl, rfl⟩
    refine Ops.pv (pv_assign rfl) rfl ?_
    refine Ops.nil ?_
    refine Ends.seq ?_
    refine Wp.ret ?_
    refine Ends.then_ret ?_
    exact Ends.ret (res_list (rs := [.cell 8 31, .tmp 9]) rfl ⟨_, _, rfl, rv_cellK [_, _] rfl rfl rfl ⟨rfl, rfl, trivial⟩, ⟨_, _, rfl, rv_tmp rfl, rfl⟩⟩ rfl) ⟨by rw [findM, if_neg (by omega), if_pos h2], rfl⟩
   refine Wp.skip ?_
   refine Ends.seq ?_
   refine Wp.seq ?_
   refine Wp.region ?_
   refine Ops.pv (pv_loadK [_, _] rfl rfl rfl ⟨rfl, rfl, trivial⟩) rfl ?_
   refine Ops.ef rfl (ef_storeK rfl rfl rfl rfl) ?_
   rintro _ _ ⟨rfl, rfl⟩
   refine Ops.pv (pv_assign rfl) rfl ?_
   refine Ops.nil ?_
   refine Ends.seq ?_
   refine Wp.ret ?_
   exact absurd (by decide : (6 : Int) ≠ 0) h3
  refine Wp.skip ?_
  refine Ends.seq ?_
  refine Wp.seq ?_
  refine Wp.seq ?_
  refine Wp.region ?_
  refine Ops.pv (pv_move rfl) rfl ?_
  refine Ops.pv (pv_neq rfl rfl) rfl ?_
  refine Ops.nil ?_
  refine Ends.seq ?_
  refine Wp.cond_dect rfl (fun h4 => ?_) (fun h4 => ?_)
  ·
   refine Wp.seq ?_
   refine Wp.region ?_
   refine Ops.pv (pv_build rfl) rfl ?_
   refine Ops.pv (pv_move rfl) rfl ?_
   refine Ops.ef rfl (ef_storeK rfl rfl rfl rfl) ?_
   rintro _ _ ⟨rfl, rfl⟩
   refine Ops.pv (pv_assign rfl) rfl ?_
   refine Ops.nil ?_
   refine Ends.seq ?_
   refine Wp.ret ?_
   refine Ends.then_ret ?_
   exact absurd h1 h4
  refine Wp.skip ?_
  refine Ends.seq ?_
  refine Wp.seq ?_
  refine Wp.region ?_
  refine Ops.pv (pv_loadK [_, _] rfl rfl rfl ⟨rfl, rfl, trivial⟩) rfl ?_
  refine Ops.ef rfl (ef_storeK rfl rfl rfl rfl) ?_
  rintro _ _ ⟨rfl, rfl⟩
  refine Ops.pv (pv_assign rfl) rfl ?_
  refine Ops.nil ?_
  refine Ends.seq ?_
  refine Wp.ret ?_
  exact Ends.ret (res_list (rs := [.cell 8 31, .tmp 9]) rfl ⟨_, _, rfl, rv_cellK [_, _] rfl rfl rfl ⟨rfl, rfl, trivial⟩, ⟨_, _, rfl, rv_tmp rfl, rfl⟩⟩ rfl) ⟨by rw [findM, if_neg h4, if_neg h2], rfl⟩
 refine Ops.skipg ⟨_, _, rfl, rfl, rfl⟩ rfl ?_
 refine Ops.skipg ⟨_, _, rfl, rfl, rfl⟩ rfl ?_
 refine Ops.pv (pv_pick_false rfl rfl) rfl ?_
 refine Ops.nil ?_
 refine Ends.seq ?_
 refine Wp.cond_false rfl ?_
 refine Wp.skip ?_
 refine Ends.seq ?_
 refine Wp.seq ?_
 refine Wp.seq ?_
 refine Wp.region ?_
 refine Ops.pv (pv_move rfl) rfl ?_
 refine Ops.pv (pv_neq rfl rfl) rfl ?_
 refine Ops.nil ?_
 refine Ends.seq ?_
 refine Wp.cond_dect rfl (fun h5 => ?_) (fun h5 => ?_)
 ·
  refine Wp.seq ?_
  refine Wp.region ?_
  refine Ops.pv (pv_build rfl) rfl ?_
  refine Ops.pv (pv_move rfl) rfl ?_
  refine Ops.ef rfl (ef_storeK rfl rfl rfl rfl) ?_
  rintro _ _ ⟨rfl, rfl⟩
  refine Ops.pv (pv_assign rfl) rfl ?_
  refine Ops.nil ?_
  refine Ends.seq ?_
  refine Wp.ret ?_
  refine Ends.then_ret ?_
  exact Ends.ret (res_list (rs := [.cell 8 31, .tmp 9]) rfl ⟨_, _, rfl, rv_cellK [_, _] rfl rfl rfl ⟨rfl, rfl, trivial⟩, ⟨_, _, rfl, rv_tmp rfl, rfl⟩⟩ rfl) ⟨by rw [findM, if_pos h1], rfl⟩
 refine Wp.skip ?_
 refine Ends.seq ?_
 refine Wp.seq ?_
 refine Wp.region ?_
 refine Ops.pv (pv_loadK [_, _] rfl rfl rfl ⟨rfl, rfl, trivial⟩) rfl ?_
 refine Ops.ef rfl (ef_storeK rfl rfl rfl rfl) ?_
 rintro _ _ ⟨rfl, rfl⟩
 refine Ops.pv (pv_assign rfl) rfl ?_
 refine Ops.nil ?_
 refine Ends.seq ?_
 refine Wp.ret ?_
 exact absurd h1 h5
end Go.Proofs.YtdodfnjmkpgdbaaGreat
end
section
set_option linter.unusedVariables false
set_option linter.unusedSimpArgs false
namespace Go.Proofs.YtdodfnjmkpgdbaaGreat
open Go.SL
theorem tr_front (p l : Nat) (n : Int) (h : 0 ≤ n ∧ n ≤ (l : Int)) (hl : l ≤ 16) : TrR Tryz.prog 105 [.int .u64 p, .int .i64 l, .int .i64 n] ([]) (.int .u64 (nxtV p l n)) := by
 refine Tr.enter Tryz.func105 rfl Tryz.ntmps105 rfl (fun W F => ?_)
 refine Wp.app ?_
 refine Wp.seq ?_
 refine Wp.region ?_
 refine Ops.pv (pv_assign rfl) rfl ?_
 refine Ops.nil ?_
 refine Ends.seq ?_
 refine Wp.seq ?_
 refine AnyH.startL 9 rfl ?_
 refine Tk 0 rfl rfl (pv_move rfl) rfl ?_
 refine Tk 1 rfl rfl (pv_move rfl) rfl ?_
 refine Tk 2 rfl rfl (pv_move rfl) rfl ?_
 refine Tk 3 rfl rfl (pv_sub rfl rfl (w64 (by omega) (by omega))) rfl ?_
 refine Tk 4 rfl rfl (pv_shr rfl rfl (by omega) rfl) rfl ?_
 refine Tk 5 rfl rfl (pv_move rfl) rfl ?_
 refine Tk 6 rfl rfl (pv_shl rfl rfl (by omega) rfl) rfl ?_
 refine Tk 7 rfl rfl (pv_rem rfl rfl (by obtain ⟨k, rfl⟩ : ∃ k : Nat, n = k := ⟨n.toNat, by omega⟩; rw [shl1 (by omega)]; have := Nat.two_pow_pos k; omega) (front_eq h hl)) rfl ?_
 refine Tk 8 rfl rfl (pv_assign rfl) rfl ?_
 refine AnyH.done (by kernel_rfl) ?_
 refine Ends.seq ?_
 refine Wp.ret ?_
 exact Ends.ret (res1 rfl rfl) ⟨rfl, rfl⟩
set_option maxHeartbeats 2000000 in
theorem tr_dresolve (uT : Value) (qb : Nat) (L : Hp) (S : StoreM) (ld : List DN) (hR : Rel S ld) (hH : DstH uT ld qb L) (root : CapM) (p : Nat) (depth : Int) : TrR Tryz.prog 63 [.pointer (some ⟨qb, 0, none⟩), root.v, .int .u64 p, .int .i64 depth] (L) (.tuple #[slotV (resolveM S root p depth).1, .int .i64 (resolveM S root p depth).2.1, .int .i64 (resolveM S root p depth).2.2]) := by
 refine Tr.enter Tryz.func63 rfl Tryz.ntmps63 rfl (fun W F => ?_)
 refine Wp.app ?_
 refine Wp.seq ?_
 refine Wp.region ?_
 refine Ops.ef rfl (ef_boxK rfl rfl) ?_
 rintro _ _ ⟨b1, rfl, rfl⟩
 refine Ops.ef rfl (ef_allocK tyZ31 rfl) ?_
 rintro _ _ ⟨b2, rfl, rfl⟩
 refine Ops.pv (pv_assign rfl) rfl ?_
 refine Ops.pv (pv_assign rfl) rfl ?_
 refine Ops.nil ?_
 refine Ends.seq ?_
 refine Wp.seq ?_
 refine Wp.seq ?_
 refine Wp.region ?_
 refine Ops.pv (pv_move rfl) rfl ?_
 refine Ops.pv (pv_lss rfl rfl) rfl ?_
 refine Ops.pv (pv_move rfl) rfl ?_
 refine Ops.pvcn rfl rfl (fun hg => pv_move rfl) rfl ?_
 refine Ops.pvcn rfl rfl (fun hg => Pv.setE (t := 21) rfl (cv_pos hg) (pv_gtr rfl rfl)) rfl ?_
 refine Ops.pv (pv_pick_or rfl rfl) rfl ?_
 refine Ops.pv (pv_move rfl) rfl ?_
 refine Ops.pvcn rfl rfl (fun hg => pv_move rfl) rfl ?_
 refine Ops.pvcn rfl rfl (fun hg => Pv.setE (t := 25) rfl (cv_pos hg) (pv_move rfl)) rfl ?_
 refine Ops.pvcn rfl rfl (fun hg => Pv.setE (t := 25) rfl (cv_pos hg) (Pv.setE (t := 26) rfl (cv_pos hg) (pv_shl rfl rfl (by omega) (shlI (by omega) (by omega))))) rfl ?_
 refine Ops.pvcn rfl rfl (fun hg => Pv.setE (t := 25) rfl (cv_pos hg) (Pv.setE (t := 26) rfl (cv_pos hg) (Pv.setE (t := 27) rfl (cv_pos hg) (pv_geq rfl rfl)))) rfl ?_
 refine Ops.pv (pv_pick_or rfl rfl) rfl ?_
 refine Ops.nil ?_
 refine Ends.seq ?_
 refine Wp.cond_dect rfl (fun h1 => ?_) (fun h1 => ?_)
 ·
  refine Wp.seq ?_
  refine Wp.region ?_
  refine Ops.pv (pv_build rfl) rfl ?_
  refine Ops.ef rfl (ef_storeK rfl rfl rfl rfl) ?_
  rintro _ _ ⟨rfl, rfl⟩
  refine Ops.pv (pv_assign rfl) rfl ?_
  refine Ops.pv (pv_assign rfl) rfl ?_
  refine Ops.nil ?_
  refine Ends.seq ?_
  refine Wp.ret ?_
  refine Ends.then_ret ?_
  exact Ends.ret (res_list (rs := [.cell 8 31, .tmp 9, .tmp 10]) rfl ⟨_, _, rfl, rv_cellK [_, _] rfl rfl rfl ⟨rfl, rfl, trivial⟩, ⟨_, _, rfl, rv_tmp rfl, ⟨_, _, rfl, rv_tmp rfl, rfl⟩⟩⟩ rfl) ⟨by rw [resolve_d1 (by assumption)]; rfl, rfl⟩
 refine Wp.skip ?_
 refine Ends.seq ?_
 refine Wp.seq ?_
 refine Wp.seq ?_
 refine Wp.region ?_
 refine Ops.pv (pv_fieldAddr0 rfl rfl) rfl ?_
 refine Ops.pv (pv_load rfl rfl rfl) rfl ?_
 refine Ops.pv (pv_neq rfl rfl) rfl ?_
 refine Ops.nil ?_
 refine Ends.seq ?_
 refine Wp.cond_dect rfl (fun hkd => ?_) (fun hkd => ?_)
 ·
  refine Wp.seq ?_
  refine Wp.region ?_
  refine Ops.pv (pv_build rfl) rfl ?_
  refine Ops.ef rfl (ef_storeK rfl rfl rfl rfl) ?_
  rintro _ _ ⟨rfl, rfl⟩
  refine Ops.pv (pv_assign rfl) rfl ?_
  refine Ops.pv (pv_assign rfl) rfl ?_
  refine Ops.nil ?_
  refine Ends.seq ?_
  refine Wp.ret ?_
  refine Ends.then_ret ?_
  exact Ends.ret (res_list (rs := [.cell 8 31, .tmp 9, .tmp 10]) rfl ⟨_, _, rfl, rv_cellK [_, _] rfl rfl rfl ⟨rfl, rfl, trivial⟩, ⟨_, _, rfl, rv_tmp rfl, ⟨_, _, rfl, rv_tmp rfl, rfl⟩⟩⟩ rfl) ⟨by rw [resolve_d2 (by assumption) (by assumption)]; rfl, rfl⟩
 obtain ⟨k, rfl⟩ : ∃ k : Nat, depth = k := ⟨depth.toNat, by omega⟩
 refine Wp.skip ?_
 refine Ends.seq ?_
 refine Wp.seq ?_
 refine Wp.region ?_
 refine Ops.pv (pv_loadK [_, _, _, _, _, _] rfl rfl rfl ⟨rfl, rfl, rfl, rfl, rfl, rfl, trivial⟩) rfl ?_
 refine Ops.ef rfl (ef_allocK tyZ25 rfl) ?_
 rintro _ _ ⟨b3, rfl, rfl⟩
 refine Ops.ef rfl (ef_storeK rfl rfl rfl rfl) ?_
 rintro _ _ ⟨rfl, rfl⟩
 refine Ops.nil ?_
 refine Ends.seq ?_
 refine Wp.seq ?_
 refine Wp.region ?_
 refine Ops.pv (pv_move rfl) rfl ?_
 refine Ops.pv (pv_assign rfl) rfl ?_
 refine Ops.nil ?_
 refine Ends.seq ?_
 refine Wp.seq ?_
 refine Wp.seq ?_
 refine Wp.region ?_
 refine Ops.pv (pv_assign rfl) rfl ?_
 refine Ops.nil ?_
 refine Ends.seq ?_
 refine Wp.block ?_
 refine Wp.loopK (σ := Nat × CapM × Nat × Nat) [(0, _), (2, _), (8, _), (11, _)] (fun s => [(12, .int .i64 s.2.2.1), (13, .int .i64 s.1)]) (fun s => (b3, .cells s.2.1.cells.toArray 25) :: (b2, .cells [.int .i64 0, .int .i64 0].toArray 31) :: (L ++ F)) (fun s => s.2.2.1 ≤ 16 ∧ s.2.2.1 < s.2.2.2 ∧ resolveM S root p (k : Int) = resLoop S p s.2.2.2 s.2.1 s.2.2.1 ∧ s.1 + s.2.2.1 ≤ 16) (fun s => s.2.2.2) (0, root, k, k + 1) ⟨by dsimp only; omega, by dsimp only; omega, resolve_dgo (by assumption) hkd, by dsimp only; omega⟩ ⟨rfl, rfl, rfl, rfl, trivial⟩ ⟨rfl, rfl, trivial⟩ (by intro w ho; (try dsimp only [List.nil_append, List.cons_append]); exact Drop.own ho) ?_
 rintro ⟨i, c, l, m⟩ KK ⟨hl, hlm, hres, hil⟩ hK
 dsimp only [List.cons_append, List.nil_append] at hK ⊢
 dsimp only at hl hlm hres hil ⊢
 obtain ⟨m, rfl⟩ : ∃ j, m = j + 1 := ⟨m - 1, by omega⟩
 refine Wp.seq ?_
 refine Wp.seq ?_
 refine Wp.region ?_
 refine Ops.pv (pv_move rfl) rfl ?_
 refine Ops.pv (pv_lss rfl rfl) rfl ?_
 refine Ops.nil ?_
 refine Ends.seq ?_
 refine Wp.cond_dect rfl (fun h3 => ?_) (fun h3 => ?_)
 ·
  refine Wp.skip ?_
  refine Ends.seq ?_
  refine Wp.seq ?_
  refine Wp.block ?_
  refine Wp.seq ?_
  refine Wp.region ?_
  refine Ops.pv (pv_move rfl) rfl ?_
  refine Ops.pv (pv_fieldAddr0 rfl rfl) rfl ?_
  refine Ops.pv (pv_load rfl rfl rfl) rfl ?_
  refine Ops.ef rfl (ef_callr (td_radix hR hH c.object) rfl rfl) ?_
  rintro _ _ ⟨rfl, rfl⟩
  refine Ops.pv (pv_assign rfl) rfl ?_
  refine Ops.nil ?_
  refine Ends.seq ?_
  refine Wp.seq ?_
  refine Wp.seq ?_
  refine AnyH.start ((b3, .cells c.cells.toArray 25) :: []) 31 rfl ?_
  refine Tk 0 rfl rfl (pv_move rfl) rfl ?_
  refine Tk 1 rfl rfl (pv_eql rfl rfl) rfl ?_
  refine Tk 2 rfl rfl (pv_move rfl) rfl ?_
  refine AnyH.takecn 3 rfl (by kernel_rfl) (by kernel_rfl) (by kernel_rfl) PF.pf rfl rfl (fun hg => pv_fieldAddr0 rfl rfl) rfl ?_
  refine AnyH.takecn 4 rfl (by kernel_rfl) (by kernel_rfl) (by kernel_rfl) PF.pf rfl rfl (fun hg => Pv.setE (t := 48) rfl (cv_pos hg) (pv_load rfl rfl rfl)) rfl ?_
  refine AnyH.takecn 5 rfl (by kernel_rfl) (by kernel_rfl) (by kernel_rfl) PF.pf rfl rfl (fun hg => Pv.setE (t := 48) rfl (cv_pos hg) (Pv.setE (t := 49) rfl (cv_pos hg) (pv_lss rfl rfl))) rfl ?_
  refine Tk 6 rfl rfl (pv_pick_or rfl rfl) rfl ?_
  refine Tk 7 rfl rfl (pv_move rfl) rfl ?_
  refine AnyH.takecn 8 rfl (by kernel_rfl) (by kernel_rfl) (by kernel_rfl) PF.pf rfl rfl (fun hg => pv_fieldAddr0 rfl rfl) rfl ?_
  refine AnyH.takecn 9 rfl (by kernel_rfl) (by kernel_rfl) (by kernel_rfl) PF.pf rfl rfl (fun hg => Pv.setE (t := 53) rfl (cv_pos hg) (pv_load rfl rfl rfl)) rfl ?_
  refine AnyH.takecn 10 rfl (by kernel_rfl) (by kernel_rfl) (by kernel_rfl) PF.pf rfl rfl (fun hg => Pv.setE (t := 53) rfl (cv_pos hg) (Pv.setE (t := 54) rfl (cv_pos hg) (pv_move rfl))) rfl ?_
  refine AnyH.takecn 11 rfl (by kernel_rfl) (by kernel_rfl) (by kernel_rfl) PF.pf rfl rfl (fun hg => Pv.setE (t := 53) rfl (cv_pos hg) (Pv.setE (t := 54) rfl (cv_pos hg) (Pv.setE (t := 55) rfl (cv_pos hg) (pv_gtr rfl rfl)))) rfl ?_
  refine Tk 12 rfl rfl (pv_pick_or rfl rfl) rfl ?_
  refine Tk 13 rfl rfl (pv_move rfl) rfl ?_
  refine AnyH.takecn 14 rfl (by kernel_rfl) (by kernel_rfl) (by kernel_rfl) PF.pf rfl rfl (fun hg => pv_move rfl) rfl ?_
  refine AnyH.takecn 15 rfl (by kernel_rfl) (by kernel_rfl) (by kernel_rfl) PF.pf rfl rfl (fun hg => Pv.setE (t := 59) rfl (cv_pos hg) (pv_fieldAddr0 rfl rfl)) rfl ?_
  refine AnyH.takecn 16 rfl (by kernel_rfl) (by kernel_rfl) (by kernel_rfl) PF.pf rfl rfl (fun hg => Pv.setE (t := 59) rfl (cv_pos hg) (Pv.setE (t := 60) rfl (cv_pos hg) (pv_load rfl rfl rfl))) rfl ?_
  refine AnyH.takecn 17 rfl (by kernel_rfl) (by kernel_rfl) (by kernel_rfl) PF.pf rfl rfl (fun hg => Pv.setE (t := 59) rfl (cv_pos hg) (Pv.setE (t := 60) rfl (cv_pos hg) (Pv.setE (t := 61) rfl (cv_pos hg) (pv_sub rfl rfl (w64 (by omega) (by omega)))))) rfl ?_
  refine AnyH.takecn 18 rfl (by kernel_rfl) (by kernel_rfl) (by kernel_rfl) PF.pf rfl rfl (fun hg => Pv.setE (t := 59) rfl (cv_pos hg) (Pv.setE (t := 60) rfl (cv_pos hg) (Pv.setE (t := 61) rfl (cv_pos hg) (Pv.setE (t := 62) rfl (cv_pos hg) (pv_move rfl))))) rfl ?_
  refine AnyH.takecn 19 rfl (by kernel_rfl) (by kernel_rfl) (by kernel_rfl) PF.pf rfl rfl (fun hg => Pv.setE (t := 59) rfl (cv_pos hg) (Pv.setE (t := 60) rfl (cv_pos hg) (Pv.setE (t := 61) rfl (cv_pos hg) (Pv.setE (t := 62) rfl (cv_pos hg) (Pv.setE (t := 63) rfl (cv_pos hg) (pv_lss rfl rfl)))))) rfl ?_
  refine Tk 20 rfl rfl (pv_pick_or rfl rfl) rfl ?_
  refine Tk 21 rfl rfl (pv_move rfl) rfl ?_
  refine AnyH.split (t := 66) rfl (fun h4 => ?_) (fun h4 => ?_)
  ·
   refine Ts 22 rfl ⟨_, _, rfl, rfl, rfl⟩ rfl ?_
   refine Ts 23 rfl ⟨_, _, rfl, rfl, rfl⟩ rfl ?_
   refine Ts 24 rfl ⟨_, _, rfl, rfl, rfl⟩ rfl ?_
   refine Ts 25 rfl ⟨_, _, rfl, rfl, rfl⟩ rfl ?_
   refine Ts 26 rfl ⟨_, _, rfl, rfl, rfl⟩ rfl ?_
   refine Ts 27 rfl ⟨_, _, rfl, rfl, rfl⟩ rfl ?_
   refine Ts 28 rfl ⟨_, _, rfl, rfl, rfl⟩ rfl ?_
   refine Ts 29 rfl ⟨_, _, rfl, rfl, rfl⟩ rfl ?_
   refine Tk 30 rfl rfl (pv_pick_true rfl rfl) rfl ?_
   refine AnyH.done (by kernel_rfl) ?_
   refine Ends.seq ?_
   refine Wp.cond_true rfl ?_
   refine Wp.seq ?_
   refine Wp.region ?_
   refine Ops.pv (pv_build rfl) rfl ?_
   refine Ops.ef rfl (ef_storeK rfl rfl rfl rfl) ?_
   rintro _ _ ⟨rfl, rfl⟩
   refine Ops.pv (pv_assign rfl) rfl ?_
   refine Ops.pv (pv_assign rfl) rfl ?_
   refine Ops.nil ?_
   refine Ends.seq ?_
   refine Wp.ret ?_
   refine Ends.then_ret ?_
   refine Ends.block_ret ?_
   refine Ends.then_ret ?_
   refine Ends.then_ret ?_
   refine Ends.block_ret ?_
   refine Ends.then_ret ?_
   exact Ends.ret (res_list (rs := [.cell 8 31, .tmp 9, .tmp 10]) rfl ⟨_, _, rfl, rv_cellK [_, _] rfl rfl rfl ⟨rfl, rfl, trivial⟩, ⟨_, _, rfl, rv_tmp rfl, ⟨_, _, rfl, rv_tmp rfl, rfl⟩⟩⟩ rfl) ⟨by rw [hres, dl_e (by assumption)]; rfl, rfl⟩
  refine Tk 22 rfl ⟨_, _, rfl, rfl, rfl⟩ (pv_move rfl) rfl ?_
  refine Tk 23 rfl ⟨_, _, rfl, rfl, rfl⟩ (pv_move rfl) rfl ?_
  refine Tk 24 rfl ⟨_, _, rfl, rfl, rfl⟩ (pv_fieldAddr0 rfl rfl) rfl ?_
  refine Tk 25 rfl ⟨_, _, rfl, rfl, rfl⟩ (pv_load rfl rfl rfl) rfl ?_
  refine Tk 27 rfl ⟨_, _, rfl, rfl, rfl⟩ (pv_fieldAddr0 rfl rfl) rfl ?_
  refine Tk 28 rfl ⟨_, _, rfl, rfl, rfl⟩ (pv_load rfl rfl rfl) rfl ?_
  refine AnyH.one 26 (by kernel_rfl) ?_
  refine Turn.ef rfl ⟨_, _, rfl, rfl, rfl⟩ (ef_callr (tr_front p l c.bits (by omega) hl) rfl rfl) ?_ ?_
  ·
   rintro _ _ ⟨rfl, rfl⟩; infer_instance
  rintro _ _ ⟨rfl, rfl⟩
  refine Tk 29 rfl ⟨_, _, rfl, rfl, rfl⟩ (pv_neq rfl rfl) rfl ?_
  refine Tk 30 rfl rfl (pv_pick_false rfl rfl) rfl ?_
  refine AnyH.done (by kernel_rfl) ?_
  refine Ends.seq ?_
  refine Wp.cond_dect rfl (fun hg => ?_) (fun hg => ?_)
  ·
   refine Wp.seq ?_
   refine Wp.region ?_
   refine Ops.pv (pv_build rfl) rfl ?_
   refine Ops.ef rfl (ef_storeK rfl rfl rfl rfl) ?_
   rintro _ _ ⟨rfl, rfl⟩
   refine Ops.pv (pv_assign rfl) rfl ?_
   refine Ops.pv (pv_assign rfl) rfl ?_
   refine Ops.nil ?_
   refine Ends.seq ?_
   refine Wp.ret ?_
   refine Ends.then_ret ?_
   refine Ends.block_ret ?_
   refine Ends.then_ret ?_
   refine Ends.then_ret ?_
   refine Ends.block_ret ?_
   refine Ends.then_ret ?_
   exact Ends.ret (res_list (rs := [.cell 8 31, .tmp 9, .tmp 10]) rfl ⟨_, _, rfl, rv_cellK [_, _] rfl rfl rfl ⟨rfl, rfl, trivial⟩, ⟨_, _, rfl, rv_tmp rfl, ⟨_, _, rfl, rv_tmp rfl, rfl⟩⟩⟩ rfl) ⟨by rw [hres, dl_e2 hg]; rfl, rfl⟩
  obtain ⟨hok, he1, hr2, he2⟩ := dl_ok (S := S) (l := l) (c := c) (by omega)
  have hbv := nxtV_lt (p := p) (l := nxtL l c.bits) (n := S.radix c.object) (Nat.le_trans (nxtL_le _ _) hl)
  have hr0 := S.radix_nonneg c.object
  refine Wp.skip ?_
  refine Ends.seq ?_
  refine Wp.seq ?_
  refine Wp.region ?_
  refine Ops.pv (pv_move rfl) rfl ?_
  refine Ops.pv (pv_fieldAddr0 rfl rfl) rfl ?_
  refine Ops.pv (pv_load rfl rfl rfl) rfl ?_
  refine Ops.pv (pv_sub rfl rfl (w64n (k := nxtL l c.bits) (by omega) (by omega))) rfl ?_
  refine Ops.pv (pv_assign rfl) rfl ?_
  refine Ops.nil ?_
  refine Ends.seq ?_
  refine Wp.seq ?_
  refine AnyH.start ((b3, .cells c.cells.toArray 25) :: []) 10 rfl ?_
  refine Tk 0 rfl rfl (pv_fieldAddr0 rfl rfl) rfl ?_
  refine Tk 1 rfl rfl (pv_load rfl rfl rfl) rfl ?_
  refine Tk 2 rfl rfl (pv_move rfl) rfl ?_
  refine Tk 3 rfl rfl (pv_move rfl) rfl ?_
  refine Tk 4 rfl rfl (pv_move rfl) rfl ?_
  refine AnyH.two 5 8 (by kernel_rfl) ?_ ?_
  ·
   refine Turn.ef rfl rfl (ef_callr (tr_front p (nxtL l c.bits) (S.radix c.object) hr2 (Nat.le_trans (nxtL_le _ _) hl)) rfl rfl) ?_ ?_
   ·
    rintro _ _ ⟨rfl, rfl⟩; infer_instance
   rintro _ _ ⟨rfl, rfl⟩
   refine Tk 6 rfl rfl (pv_conv rfl (w64n (k := nxtV p (nxtL l c.bits) (S.radix c.object)) rfl (by omega))) rfl ?_
   refine Tk 7 rfl rfl (pv_build rfl) rfl ?_
   refine AnyH.one 8 (by kernel_rfl) ?_
   refine Turn.ef rfl rfl (ef_allocK tyZ31 rfl) ?_ ?_
   ·
    rintro _ _ ⟨b4, rfl, rfl⟩; infer_instance
   rintro _ _ ⟨b4, rfl, rfl⟩
   refine AnyH.one 9 (by kernel_rfl) ?_
   refine Turn.ef rfl rfl (ef_storeK rfl rfl rfl rfl) ?_ ?_
   ·
    rintro _ _ ⟨rfl, rfl⟩; infer_instance
   rintro _ _ ⟨rfl, rfl⟩
   refine AnyH.done (by kernel_rfl) ?_
   refine Ends.seq ?_
   refine Wp.seq ?_
   refine Wp.region ?_
   refine Ops.pv (pv_move rfl) rfl ?_
   refine Ops.pv (pv_move rfl) rfl ?_
   refine Ops.pv (pv_sub rfl rfl (w64n (k := nxtL (nxtL l c.bits) (S.radix c.object)) (by omega) (by omega))) rfl ?_
   refine Ops.pv (pv_assign rfl) rfl ?_
   refine Ops.nil ?_
   refine Ends.seq ?_
   refine Wp.seq ?_
   refine Wp.region ?_
   refine Ops.pv (pv_move rfl) rfl ?_
   refine Ops.pv (pv_loadK [_, _] rfl rfl rfl ⟨rfl, rfl, trivial⟩) rfl ?_
   refine Ops.ef rfl (ef_callr (td_get hR hH (c.object, (nxtV p (nxtL l c.bits) (S.radix c.object) : Int))) rfl rfl) ?_
   rintro _ _ ⟨rfl, rfl⟩
   refine Ops.pv (pv_move rfl) rfl ?_
   refine Ops.pv (pv_extract rfl rfl) rfl ?_
   refine Ops.pv (pv_extract rfl rfl) rfl ?_
   refine Ops.ef rfl (ef_allocK tyZ25 rfl) ?_
   rintro _ _ ⟨b5, rfl, rfl⟩
   refine Ops.ef rfl (ef_storeK rfl rfl rfl rfl) ?_
   rintro _ _ ⟨rfl, rfl⟩
   refine Ops.pv (pv_assign rfl) rfl ?_
   refine Ops.nil ?_
   refine Ends.seq ?_
   refine Wp.seq ?_
   refine Wp.seq ?_
   refine Wp.region ?_
   refine Ops.pv (pv_move rfl) rfl ?_
   refine Ops.pv (pv_eql rfl rfl) rfl ?_
   refine Ops.pv (pv_move rfl) rfl ?_
   refine Ops.pvcn rfl rfl (fun hg => pv_fieldAddr0 rfl rfl) rfl ?_
   refine Ops.pvcn rfl rfl (fun hg => Pv.setE (t := 101) rfl (cv_pos hg) (pv_load rfl rfl rfl)) rfl ?_
   refine Ops.pvcn rfl rfl (fun hg => Pv.setE (t := 101) rfl (cv_pos hg) (Pv.setE (t := 102) rfl (cv_pos hg) (pv_neq rfl rfl))) rfl ?_
   refine Ops.pv (pv_pick_or rfl rfl) rfl ?_
   refine Ops.nil ?_
   refine Ends.seq ?_
   refine Wp.cond_dect rfl (fun h6 => ?_) (fun h6 => ?_)
   ·
    refine Wp.seq ?_
    refine Wp.region ?_
    refine Ops.pv (pv_loadK [_, _] rfl rfl rfl ⟨rfl, rfl, trivial⟩) rfl ?_
    refine Ops.pv (pv_move rfl) rfl ?_
    refine Ops.ef rfl (ef_storeK rfl rfl rfl rfl) ?_
    rintro _ _ ⟨rfl, rfl⟩
    refine Ops.pv (pv_assign rfl) rfl ?_
    refine Ops.pv (pv_assign rfl) rfl ?_
    refine Ops.nil ?_
    refine Ends.seq ?_
    refine Wp.ret ?_
    refine Ends.then_ret ?_
    refine Ends.block_ret ?_
    refine Ends.then_ret ?_
    refine Ends.then_ret ?_
    refine Ends.block_ret ?_
    refine Ends.then_ret ?_
    exact Ends.ret (res_list (rs := [.cell 8 31, .tmp 9, .tmp 10]) rfl ⟨_, _, rfl, rv_cellK [_, _] rfl rfl rfl ⟨rfl, rfl, trivial⟩, ⟨_, _, rfl, rv_tmp rfl, ⟨_, _, rfl, rv_tmp rfl, rfl⟩⟩⟩ rfl) ⟨by rw [hres, rl_f (dl_n (by omega) hg) (dl_n2 hr2) (by omega)], rfl⟩
   refine Wp.skip ?_
   refine Ends.seq ?_
   refine Wp.region ?_
   refine Ops.pv (pv_loadK [_, _, _, _, _, _] rfl rfl rfl ⟨rfl, rfl, rfl, rfl, rfl, rfl, trivial⟩) rfl ?_
   refine Ops.ef rfl (ef_storeK rfl rfl rfl rfl) ?_
   rintro _ _ ⟨rfl, rfl⟩
   refine Ops.nil ?_
   refine Ends.block_normal ?_
   refine Ends.seq ?_
   refine Wp.region ?_
   refine Ops.pv (pv_move rfl) rfl ?_
   refine Ops.pv (pv_add rfl rfl (w64 (by omega) (by omega))) rfl ?_
   refine Ops.pv (pv_assign rfl) rfl ?_
   refine Ops.nil ?_
   refine Ends.goes ?_
   refine Goes.back (hK (i + 1, (S.get (c.object, (nxtV p (nxtL l c.bits) (S.radix c.object) : Int))).1, nxtL (nxtL l c.bits) (S.radix c.object), m) ⟨by dsimp only; omega, by dsimp only; omega, ?_, by dsimp only; omega⟩ (by dsimp only; omega)) ⟨rfl, rfl, rfl, rfl, rfl, rfl, trivial⟩
   rw [hres]; exact rl_g (dl_n (by omega) hg) (dl_n2 hr2) (by rintro (h | h) <;> omega)
  refine Turn.ef rfl rfl (ef_allocK tyZ31 rfl) ?_ ?_
  ·
   rintro _ _ ⟨b6, rfl, rfl⟩; infer_instance
  rintro _ _ ⟨b6, rfl, rfl⟩
  refine AnyH.one 5 (by kernel_rfl) ?_
  refine Turn.ef rfl rfl (ef_callr (tr_front p (nxtL l c.bits) (S.radix c.object) hr2 (Nat.le_trans (nxtL_le _ _) hl)) rfl rfl) ?_ ?_
  ·
   rintro _ _ ⟨rfl, rfl⟩; infer_instance
  rintro _ _ ⟨rfl, rfl⟩
  refine Tk 6 rfl rfl (pv_conv rfl (w64n (k := nxtV p (nxtL l c.bits) (S.radix c.object)) rfl (by omega))) rfl ?_
  refine Tk 7 rfl rfl (pv_build rfl) rfl ?_
  refine AnyH.one 9 (by kernel_rfl) ?_
  refine Turn.ef rfl rfl (ef_storeK rfl rfl rfl rfl) ?_ ?_
  ·
   rintro _ _ ⟨rfl, rfl⟩; infer_instance
  rintro _ _ ⟨rfl, rfl⟩
  refine AnyH.done (by kernel_rfl) ?_
  refine Ends.seq ?_
  refine Wp.seq ?_
  refine Wp.region ?_
  refine Ops.pv (pv_move rfl) rfl ?_
  refine Ops.pv (pv_move rfl) rfl ?_
  refine Ops.pv (pv_sub rfl rfl (w64n (k := nxtL (nxtL l c.bits) (S.radix c.object)) (by omega) (by omega))) rfl ?_
  refine Ops.pv (pv_assign rfl) rfl ?_
  refine Ops.nil ?_
  refine Ends.seq ?_
  refine Wp.seq ?_
  refine Wp.region ?_
  refine Ops.pv (pv_move rfl) rfl ?_
  refine Ops.pv (pv_loadK [_, _] rfl rfl rfl ⟨rfl, rfl, trivial⟩) rfl ?_
  refine Ops.ef rfl (ef_callr (td_get hR hH (c.object, (nxtV p (nxtL l c.bits) (S.radix c.object) : Int))) rfl rfl) ?_
  rintro _ _ ⟨rfl, rfl⟩
  refine Ops.pv (pv_move rfl) rfl ?_
  refine Ops.pv (pv_extract rfl rfl) rfl ?_
  refine Ops.pv (pv_extract rfl rfl) rfl ?_
  refine Ops.ef rfl (ef_allocK tyZ25 rfl) ?_
  rintro _ _ ⟨b7, rfl, rfl⟩
  refine Ops.ef rfl (ef_storeK rfl rfl rfl rfl) ?_
  rintro _ _ ⟨rfl, rfl⟩
  refine Ops.pv (pv_assign rfl) rfl ?_
  refine Ops.nil ?_
  refine Ends.seq ?_
  refine Wp.seq ?_
  refine Wp.seq ?_
  refine Wp.region ?_
  refine Ops.pv (pv_move rfl) rfl ?_
  refine Ops.pv (pv_eql rfl rfl) rfl ?_
  refine Ops.pv (pv_move rfl) rfl ?_
  refine Ops.pvcn rfl rfl (fun hg => pv_fieldAddr0 rfl rfl) rfl ?_
  refine Ops.pvcn rfl rfl (fun hg => Pv.setE (t := 101) rfl (cv_pos hg) (pv_load rfl rfl rfl)) rfl ?_
  refine Ops.pvcn rfl rfl (fun hg => Pv.setE (t := 101) rfl (cv_pos hg) (Pv.setE (t := 102) rfl (cv_pos hg) (pv_neq rfl rfl))) rfl ?_
  refine Ops.pv (pv_pick_or rfl rfl) rfl ?_
  refine Ops.nil ?_
  refine Ends.seq ?_
  refine Wp.cond_dect rfl (fun h7 => ?_) (fun h7 => ?_)
  ·
   refine Wp.seq ?_
   refine Wp.region ?_
   refine Ops.pv (pv_loadK [_, _] rfl rfl rfl ⟨rfl, rfl, trivial⟩) rfl ?_
   refine Ops.pv (pv_move rfl) rfl ?_
   refine Ops.ef rfl (ef_storeK rfl rfl rfl rfl) ?_
   rintro _ _ ⟨rfl, rfl⟩
   refine Ops.pv (pv_assign rfl) rfl ?_
   refine Ops.pv (pv_assign rfl) rfl ?_
   refine Ops.nil ?_
   refine Ends.seq ?_
   refine Wp.ret ?_
   refine Ends.then_ret ?_
   refine Ends.block_ret ?_
   refine Ends.then_ret ?_
   refine Ends.then_ret ?_
   refine Ends.block_ret ?_
   refine Ends.then_ret ?_
   exact Ends.ret (res_list (rs := [.cell 8 31, .tmp 9, .tmp 10]) rfl ⟨_, _, rfl, rv_cellK [_, _] rfl rfl rfl ⟨rfl, rfl, trivial⟩, ⟨_, _, rfl, rv_tmp rfl, ⟨_, _, rfl, rv_tmp rfl, rfl⟩⟩⟩ rfl) ⟨by rw [hres, rl_f (dl_n (by omega) hg) (dl_n2 hr2) (by omega)], rfl⟩
  refine Wp.skip ?_
  refine Ends.seq ?_
  refine Wp.region ?_
  refine Ops.pv (pv_loadK [_, _, _, _, _, _] rfl rfl rfl ⟨rfl, rfl, rfl, rfl, rfl, rfl, trivial⟩) rfl ?_
  refine Ops.ef rfl (ef_storeK rfl rfl rfl rfl) ?_
  rintro _ _ ⟨rfl, rfl⟩
  refine Ops.nil ?_
  refine Ends.block_normal ?_
  refine Ends.seq ?_
  refine Wp.region ?_
  refine Ops.pv (pv_move rfl) rfl ?_
  refine Ops.pv (pv_add rfl rfl (w64 (by omega) (by omega))) rfl ?_
  refine Ops.pv (pv_assign rfl) rfl ?_
  refine Ops.nil ?_
  refine Ends.goes ?_
  refine Goes.back (hK (i + 1, (S.get (c.object, (nxtV p (nxtL l c.bits) (S.radix c.object) : Int))).1, nxtL (nxtL l c.bits) (S.radix c.object), m) ⟨by dsimp only; omega, by dsimp only; omega, ?_, by dsimp only; omega⟩ (by dsimp only; omega)) ⟨rfl, rfl, rfl, rfl, rfl, rfl, trivial⟩
  rw [hres]; exact rl_g (dl_n (by omega) hg) (dl_n2 hr2) (by rintro (h | h) <;> omega)
 refine Wp.exit ?_
 refine Ends.then_exit ?_
 refine Ends.then_exit ?_
 refine Ends.block_hit ?_
 refine Ends.seq ?_
 refine Wp.seq ?_
 refine Wp.region ?_
 refine Ops.pv (pv_build rfl) rfl ?_
 refine Ops.ef rfl (ef_storeK rfl rfl rfl rfl) ?_
 rintro _ _ ⟨rfl, rfl⟩
 refine Ops.pv (pv_assign rfl) rfl ?_
 refine Ops.pv (pv_assign rfl) rfl ?_
 refine Ops.nil ?_
 refine Ends.seq ?_
 refine Wp.ret ?_
 exfalso; omega
theorem tr_dfindA (uT : Value) (qb : Nat) (L : Hp) (S : StoreM) (ld : List DN) (hR : Rel S ld) (hH : DstH uT ld qb L) (root : CapM) (p : Nat) (depth : Int) : TrR Tryz.prog 19 [.pointer (some ⟨qb, 0, none⟩), root.v, .int .u64 p, .int .i64 depth] (L) (.tuple #[slotV (findM S root p depth).1, .int .i64 (findM S root p depth).2]) := by
 refine Tr.enter Tryz.func19 rfl Tryz.ntmps19 rfl (fun W F => ?_)
 refine Wp.app ?_
 refine Wp.seq ?_
 refine Wp.region ?_
 refine Ops.ef rfl (ef_boxK rfl rfl) ?_
 rintro _ _ ⟨b1, rfl, rfl⟩
 refine Ops.ef rfl (ef_allocK tyZ31 rfl) ?_
 rintro _ _ ⟨b2, rfl, rfl⟩
 refine Ops.pv (pv_assign rfl) rfl ?_
 refine Ops.nil ?_
 refine Ends.seq ?_
 refine Wp.seq ?_
 refine Wp.region ?_
 refine Ops.pv (pv_move rfl) rfl ?_
 refine Ops.pv (pv_loadK [_, _, _, _, _, _] rfl rfl rfl ⟨rfl, rfl, rfl, rfl, rfl, rfl, trivial⟩) rfl ?_
 refine Ops.pv (pv_move rfl) rfl ?_
 refine Ops.pv (pv_move rfl) rfl ?_
 refine Ops.ef rfl (ef_callr (tr_dresolve uT qb L S ld hR hH root p depth) rfl rfl) ?_
 rintro _ _ ⟨rfl, rfl⟩
 refine Ops.pv (pv_move rfl) rfl ?_
 refine Ops.pv (pv_extract rfl rfl) rfl ?_
 refine Ops.pv (pv_extract rfl rfl) rfl ?_
 refine Ops.pv (pv_extract rfl rfl) rfl ?_
 refine Ops.ef rfl (ef_allocK tyZ31 rfl) ?_
 rintro _ _ ⟨b3, rfl, rfl⟩
 refine Ops.ef rfl (ef_storeK rfl rfl rfl rfl) ?_
 rintro _ _ ⟨rfl, rfl⟩
 refine Ops.pv (pv_assign rfl) rfl ?_
 refine Ops.pv (pv_assign rfl) rfl ?_
 refine Ops.nil ?_
 refine Ends.seq ?_
 refine Wp.seq ?_
 refine Wp.block ?_
 refine Wp.seq ?_
 refine Wp.region ?_
 refine Ops.pv (pv_move rfl) rfl ?_
 refine Ops.pv (pv_neq rfl rfl) rfl ?_
 refine Ops.pv (pv_assign rfl) rfl ?_
 refine Ops.nil ?_
 refine Ends.seq ?_
 refine Wp.cond_dect rfl (fun h1 => ?_) (fun h1 => ?_)
 ·
  refine Wp.seq ?_
  refine Wp.region ?_
  refine Ops.pv (pv_build rfl) rfl ?_
  refine Ops.pv (pv_move rfl) rfl ?_
  refine Ops.ef rfl (ef_storeK rfl rfl rfl rfl) ?_
  rintro _ _ ⟨rfl, rfl⟩
  refine Ops.pv (pv_assign rfl) rfl ?_
  refine Ops.nil ?_
  refine Ends.seq ?_
  refine Wp.ret ?_
  refine Ends.block_ret ?_
  refine Ends.then_ret ?_
  exact Ends.ret (res_list (rs := [.cell 8 31, .tmp 9]) rfl ⟨_, _, rfl, rv_cellK [_, _] rfl rfl rfl ⟨rfl, rfl, trivial⟩, ⟨_, _, rfl, rv_tmp rfl, rfl⟩⟩ rfl) ⟨by rw [findM, if_pos (by assumption)], rfl⟩
 refine Wp.seq ?_
 refine Wp.region ?_
 refine Ops.pv (pv_move rfl) rfl ?_
 refine Ops.pv (pv_gtr rfl rfl) rfl ?_
 refine Ops.pv (pv_assign rfl) rfl ?_
 refine Ops.nil ?_
 refine Ends.seq ?_
 refine Wp.cond_dect rfl (fun h2 => ?_) (fun h2 => ?_)
 ·
  refine Wp.seq ?_
  refine Wp.region ?_
  refine Ops.pv (pv_build rfl) rfl ?_
  refine Ops.ef rfl (ef_storeK rfl rfl rfl rfl) ?_
  rintro _ _ ⟨rfl, rfl⟩
  refine Ops.pv (pv_assign rfl) rfl ?_
  refine Ops.nil ?_
  refine Ends.seq ?_
  refine Wp.ret ?_
  refine Ends.block_ret ?_
  refine Ends.then_ret ?_
  exact Ends.ret (res_list (rs := [.cell 8 31, .tmp 9]) rfl ⟨_, _, rfl, rv_cellK [_, _] rfl rfl rfl ⟨rfl, rfl, trivial⟩, ⟨_, _, rfl, rv_tmp rfl, rfl⟩⟩ rfl) ⟨by rw [findM, if_neg (by assumption), if_pos (by omega)], rfl⟩
 refine Wp.skip ?_
 refine Ends.block_normal ?_
 refine Ends.seq ?_
 refine Wp.seq ?_
 refine Wp.region ?_
 refine Ops.pv (pv_loadK [_, _] rfl rfl rfl ⟨rfl, rfl, trivial⟩) rfl ?_
 refine Ops.ef rfl (ef_storeK rfl rfl rfl rfl) ?_
 rintro _ _ ⟨rfl, rfl⟩
 refine Ops.pv (pv_assign rfl) rfl ?_
 refine Ops.nil ?_
 refine Ends.seq ?_
 refine Wp.ret ?_
 exact Ends.ret (res_list (rs := [.cell 8 31, .tmp 9]) rfl ⟨_, _, rfl, rv_cellK [_, _] rfl rfl rfl ⟨rfl, rfl, trivial⟩, ⟨_, _, rfl, rv_tmp rfl, rfl⟩⟩ rfl) ⟨by rw [findM, if_neg (by assumption), if_neg (by omega)], rfl⟩
theorem tr_dcap (uT : Value) (qb : Nat) (L : Hp) (S : StoreM) (ld : List DN) (hR : Rel S ld) (hH : DstH uT ld qb L) (root : CapM) (p : Nat) : TrR Tryz.prog 17 [.pointer (some ⟨qb, 0, none⟩), root.v, .int .u64 p] (L) (.tuple #[slotV (capM S root p).1, (capM S root p).2.1.v, .int .i64 (capM S root p).2.2]) := by
 refine Tr.enter Tryz.func17 rfl Tryz.ntmps17 rfl (fun W F => ?_)
 refine Wp.app ?_
 refine Wp.seq ?_
 refine Wp.region ?_
 refine Ops.ef rfl (ef_boxK rfl rfl) ?_
 rintro _ _ ⟨b1, rfl, rfl⟩
 refine Ops.ef rfl (ef_allocK tyZ31 rfl) ?_
 rintro _ _ ⟨b2, rfl, rfl⟩
 refine Ops.ef rfl (ef_allocK tyZ25 rfl) ?_
 rintro _ _ ⟨b3, rfl, rfl⟩
 refine Ops.pv (pv_assign rfl) rfl ?_
 refine Ops.nil ?_
 refine Ends.seq ?_
 refine Wp.seq ?_
 refine Wp.region ?_
 refine Ops.pv (pv_move rfl) rfl ?_
 refine Ops.pv (pv_loadK [_, _, _, _, _, _] rfl rfl rfl ⟨rfl, rfl, rfl, rfl, rfl, rfl, trivial⟩) rfl ?_
 refine Ops.pv (pv_move rfl) rfl ?_
 refine Ops.ef rfl (ef_callr (tr_dresolve uT qb L S ld hR hH root p 16) rfl rfl) ?_
 rintro _ _ ⟨rfl, rfl⟩
 refine Ops.pv (pv_move rfl) rfl ?_
 refine Ops.pv (pv_extract rfl rfl) rfl ?_
 refine Ops.pv (pv_extract rfl rfl) rfl ?_
 refine Ops.pv (pv_extract rfl rfl) rfl ?_
 refine Ops.ef rfl (ef_allocK tyZ31 rfl) ?_
 rintro _ _ ⟨b4, rfl, rfl⟩
 refine Ops.ef rfl (ef_storeK rfl rfl rfl rfl) ?_
 rintro _ _ ⟨rfl, rfl⟩
 refine Ops.pv (pv_assign rfl) rfl ?_
 refine Ops.pv (pv_assign rfl) rfl ?_
 refine Ops.nil ?_
 refine Ends.seq ?_
 refine Wp.seq ?_
 refine Wp.seq ?_
 refine Wp.region ?_
 refine Ops.pv (pv_move rfl) rfl ?_
 refine Ops.pv (pv_neq rfl rfl) rfl ?_
 refine Ops.nil ?_
 refine Ends.seq ?_
 refine Wp.cond_dect rfl (fun h1 => ?_) (fun h1 => ?_)
 ·
  refine Wp.seq ?_
  refine Wp.region ?_
  refine Ops.pv (pv_build rfl) rfl ?_
  refine Ops.pv (pv_build rfl) rfl ?_
  refine Ops.pv (pv_move rfl) rfl ?_
  refine Ops.ef rfl (ef_storeK rfl rfl rfl rfl) ?_
  rintro _ _ ⟨rfl, rfl⟩
  refine Ops.ef rfl (ef_storeK rfl rfl rfl rfl) ?_
  rintro _ _ ⟨rfl, rfl⟩
  refine Ops.pv (pv_assign rfl) rfl ?_
  refine Ops.nil ?_
  refine Ends.seq ?_
  refine Wp.ret ?_
  refine Ends.then_ret ?_
  exact Ends.ret (res_list (rs := [.cell 6 31, .cell 7 25, .tmp 8]) rfl ⟨_, _, rfl, rv_cellK [_, _] rfl rfl rfl ⟨rfl, rfl, trivial⟩, ⟨_, _, rfl, rv_cellK [_, _, _, _, _, _] rfl rfl rfl ⟨rfl, rfl, rfl, rfl, rfl, rfl, trivial⟩, ⟨_, _, rfl, rv_tmp rfl, rfl⟩⟩⟩ rfl) ⟨by rw [capM, if_pos (by assumption)], rfl⟩
 refine Wp.skip ?_
 refine Ends.seq ?_
 refine Wp.seq ?_
 refine Wp.region ?_
 refine Ops.pv (pv_move rfl) rfl ?_
 refine Ops.pv (pv_loadK [_, _] rfl rfl rfl ⟨rfl, rfl, trivial⟩) rfl ?_
 refine Ops.ef rfl (ef_callr (td_get hR hH (resolveM S root p 16).1) rfl rfl) ?_
 rintro _ _ ⟨rfl, rfl⟩
 refine Ops.pv (pv_move rfl) rfl ?_
 refine Ops.pv (pv_extract rfl rfl) rfl ?_
 refine Ops.pv (pv_extract rfl rfl) rfl ?_
 refine Ops.ef rfl (ef_allocK tyZ25 rfl) ?_
 rintro _ _ ⟨b5, rfl, rfl⟩
 refine Ops.ef rfl (ef_storeK rfl rfl rfl rfl) ?_
 rintro _ _ ⟨rfl, rfl⟩
 refine Ops.pv (pv_assign rfl) rfl ?_
 refine Ops.nil ?_
 refine Ends.seq ?_
 refine Wp.seq ?_
 refine Wp.seq ?_
 refine Wp.region ?_
 refine Ops.pv (pv_fieldAddr0 rfl rfl) rfl ?_
 refine Ops.pv (pv_load rfl rfl rfl) rfl ?_
 refine Ops.pv (pv_eql rfl rfl) rfl ?_
 refine Ops.nil ?_
 refine Ends.seq ?_
 refine Wp.cond_dect rfl (fun h2 => ?_) (fun h2 => ?_)
 ·
  refine Wp.seq ?_
  refine Wp.region ?_
  refine Ops.pv (pv_build rfl) rfl ?_
  refine Ops.pv (pv_build rfl) rfl ?_
  refine Ops.ef rfl (ef_storeK rfl rfl rfl rfl) ?_
  rintro _ _ ⟨rfl, rfl⟩
  refine Ops.ef rfl (ef_storeK rfl rfl rfl rfl) ?_
  rintro _ _ ⟨rfl, rfl⟩
  refine Ops.pv (pv_assign rfl) rfl ?_
  refine Ops.nil ?_
  refine Ends.seq ?_
  refine Wp.ret ?_
  refine Ends.then_ret ?_
  exact Ends.ret (res_list (rs := [.cell 6 31, .cell 7 25, .tmp 8]) rfl ⟨_, _, rfl, rv_cellK [_, _] rfl rfl rfl ⟨rfl, rfl, trivial⟩, ⟨_, _, rfl, rv_cellK [_, _, _, _, _, _] rfl rfl rfl ⟨rfl, rfl, rfl, rfl, rfl, rfl, trivial⟩, ⟨_, _, rfl, rv_tmp rfl, rfl⟩⟩⟩ rfl) ⟨by rw [capM, if_neg (by assumption), if_pos (by assumption)], rfl⟩
 refine Wp.skip ?_
 refine Ends.seq ?_
 refine Wp.seq ?_
 refine AnyH.start ((b4, .cells [.int .i64 (resolveM S root p 16).1.1, .int .i64 (resolveM S root p 16).1.2].toArray 31) :: (b5, .cells (S.get (resolveM S root p 16).1).1.cells.toArray 25) :: []) 5 rfl ?_
 refine Tk 0 rfl rfl (pv_loadK [_, _] rfl rfl rfl ⟨rfl, rfl, trivial⟩) rfl ?_
 refine Tk 1 rfl rfl (pv_loadK [_, _, _, _, _, _] rfl rfl rfl ⟨rfl, rfl, rfl, rfl, rfl, rfl, trivial⟩) rfl ?_
 refine AnyH.one 2 (by kernel_rfl) ?_
 refine Turn.ef rfl rfl (ef_storeK rfl rfl rfl rfl) ?_ ?_
 ·
  rintro _ _ ⟨rfl, rfl⟩; infer_instance
 rintro _ _ ⟨rfl, rfl⟩
 refine AnyH.one 3 (by kernel_rfl) ?_
 refine Turn.ef rfl rfl (ef_storeK rfl rfl rfl rfl) ?_ ?_
 ·
  rintro _ _ ⟨rfl, rfl⟩; infer_instance
 rintro _ _ ⟨rfl, rfl⟩
 refine Tk 4 rfl rfl (pv_assign rfl) rfl ?_
 refine AnyH.done (by kernel_rfl) ?_
 refine Ends.seq ?_
 refine Wp.ret ?_
 exact Ends.ret (res_list (rs := [.cell 6 31, .cell 7 25, .tmp 8]) rfl ⟨_, _, rfl, rv_cellK [_, _] rfl rfl rfl ⟨rfl, rfl, trivial⟩, ⟨_, _, rfl, rv_cellK [_, _, _, _, _, _] rfl rfl rfl ⟨rfl, rfl, rfl, rfl, rfl, rfl, trivial⟩, ⟨_, _, rfl, rv_tmp rfl, rfl⟩⟩⟩ rfl) ⟨by rw [capM, if_neg (by assumption), if_neg (by assumption)], rfl⟩
theorem tr_cap (sb : Nat) (S : StoreM) (root : CapM) (p : Nat) (hw : S.Wf) (hp : p < 2 ^ 64) : TrR Tryz.prog 62 [.pointer (some ⟨sb, 0, none⟩), root.v, .int .u64 p] (storeHp sb S) (.tuple #[slotV (capM S root p).1, (capM S root p).2.1.v, .int .i64 (capM S root p).2.2]) := by
 refine Tr.enter Tryz.func62 rfl Tryz.ntmps62 rfl (fun W F => ?_)
 refine Wp.app ?_
 refine Wp.seq ?_
 refine Wp.region ?_
 refine Ops.ef rfl (ef_boxK rfl rfl) ?_
 rintro _ _ ⟨b1, rfl, rfl⟩
 refine Ops.ef rfl (ef_allocK tyZ31 rfl) ?_
 rintro _ _ ⟨b2, rfl, rfl⟩
 refine Ops.ef rfl (ef_allocK tyZ25 rfl) ?_
 rintro _ _ ⟨b3, rfl, rfl⟩
 refine Ops.pv (pv_assign rfl) rfl ?_
 refine Ops.nil ?_
 refine Ends.seq ?_
 refine Wp.seq ?_
 refine Wp.region ?_
 refine Ops.pv (pv_move rfl) rfl ?_
 refine Ops.pv (pv_loadK [_, _, _, _, _, _] rfl rfl rfl ⟨rfl, rfl, rfl, rfl, rfl, rfl, trivial⟩) rfl ?_
 refine Ops.pv (pv_move rfl) rfl ?_
 refine Ops.ef rfl (ef_callr (tr_resolve sb S root p 16 hw hp) rfl rfl) ?_
 rintro _ _ ⟨rfl, rfl⟩
 refine Ops.pv (pv_move rfl) rfl ?_
 refine Ops.pv (pv_extract rfl rfl) rfl ?_
 refine Ops.pv (pv_extract rfl rfl) rfl ?_
 refine Ops.pv (pv_extract rfl rfl) rfl ?_
 refine Ops.ef rfl (ef_allocK tyZ31 rfl) ?_
 rintro _ _ ⟨b4, rfl, rfl⟩
 refine Ops.ef rfl (ef_storeK rfl rfl rfl rfl) ?_
 rintro _ _ ⟨rfl, rfl⟩
 refine Ops.pv (pv_assign rfl) rfl ?_
 refine Ops.pv (pv_assign rfl) rfl ?_
 refine Ops.nil ?_
 refine Ends.seq ?_
 refine Wp.seq ?_
 refine Wp.seq ?_
 refine Wp.region ?_
 refine Ops.pv (pv_move rfl) rfl ?_
 refine Ops.pv (pv_neq rfl rfl) rfl ?_
 refine Ops.nil ?_
 refine Ends.seq ?_
 refine Wp.cond_dect rfl (fun h1 => ?_) (fun h1 => ?_)
 ·
  refine Wp.seq ?_
  refine Wp.region ?_
  refine Ops.pv (pv_build rfl) rfl ?_
  refine Ops.pv (pv_build rfl) rfl ?_
  refine Ops.pv (pv_move rfl) rfl ?_
  refine Ops.ef rfl (ef_storeK rfl rfl rfl rfl) ?_
  rintro _ _ ⟨rfl, rfl⟩
  refine Ops.ef rfl (ef_storeK rfl rfl rfl rfl) ?_
  rintro _ _ ⟨rfl, rfl⟩
  refine Ops.pv (pv_assign rfl) rfl ?_
  refine Ops.nil ?_
  refine Ends.seq ?_
  refine Wp.ret ?_
  refine Ends.then_ret ?_
  exact Ends.ret (res_list (rs := [.cell 6 31, .cell 7 25, .tmp 8]) rfl ⟨_, _, rfl, rv_cellK [_, _] rfl rfl rfl ⟨rfl, rfl, trivial⟩, ⟨_, _, rfl, rv_cellK [_, _, _, _, _, _] rfl rfl rfl ⟨rfl, rfl, rfl, rfl, rfl, rfl, trivial⟩, ⟨_, _, rfl, rv_tmp rfl, rfl⟩⟩⟩ rfl) ⟨by rw [capM, if_pos (by assumption)], rfl⟩
 refine Wp.skip ?_
 refine Ends.seq ?_
 refine Wp.seq ?_
 refine Wp.region ?_
 refine Ops.pv (pv_move rfl) rfl ?_
 refine Ops.pv (pv_loadK [_, _] rfl rfl rfl ⟨rfl, rfl, trivial⟩) rfl ?_
 refine Ops.ef rfl (ef_callr (tr_get sb S (resolveM S root p 16).1 hw) rfl rfl) ?_
 rintro _ _ ⟨rfl, rfl⟩
 refine Ops.pv (pv_move rfl) rfl ?_
 refine Ops.pv (pv_extract rfl rfl) rfl ?_
 refine Ops.pv (pv_extract rfl rfl) rfl ?_
 refine Ops.ef rfl (ef_allocK tyZ25 rfl) ?_
 rintro _ _ ⟨b5, rfl, rfl⟩
 refine Ops.ef rfl (ef_storeK rfl rfl rfl rfl) ?_
 rintro _ _ ⟨rfl, rfl⟩
 refine Ops.pv (pv_assign rfl) rfl ?_
 refine Ops.nil ?_
 refine Ends.seq ?_
 refine Wp.seq ?_
 refine Wp.seq ?_
 refine Wp.region ?_
 refine Ops.pv (pv_fieldAddr0 rfl rfl) rfl ?_
 refine Ops.pv (pv_load rfl rfl rfl) rfl ?_
 refine Ops.pv (pv_eql rfl rfl) rfl ?_
 refine Ops.nil ?_
 refine Ends.seq ?_
 refine Wp.cond_dect rfl (fun h2 => ?_) (fun h2 => ?_)
 ·
  refine Wp.seq ?_
  refine Wp.region ?_
  refine Ops.pv (pv_build rfl) rfl ?_
  refine Ops.pv (pv_build rfl) rfl ?_
  refine Ops.ef rfl (ef_storeK rfl rfl rfl rfl) ?_
  rintro _ _ ⟨rfl, rfl⟩
  refine Ops.ef rfl (ef_storeK rfl rfl rfl rfl) ?_
  rintro _ _ ⟨rfl, rfl⟩
  refine Ops.pv (pv_assign rfl) rfl ?_
  refine Ops.nil ?_
  refine Ends.seq ?_
  refine Wp.ret ?_
  refine Ends.then_ret ?_
  exact Ends.ret (res_list (rs := [.cell 6 31, .cell 7 25, .tmp 8]) rfl ⟨_, _, rfl, rv_cellK [_, _] rfl rfl rfl ⟨rfl, rfl, trivial⟩, ⟨_, _, rfl, rv_cellK [_, _, _, _, _, _] rfl rfl rfl ⟨rfl, rfl, rfl, rfl, rfl, rfl, trivial⟩, ⟨_, _, rfl, rv_tmp rfl, rfl⟩⟩⟩ rfl) ⟨by rw [capM, if_neg (by assumption), if_pos (by assumption)], rfl⟩
 refine Wp.skip ?_
 refine Ends.seq ?_
 refine Wp.seq ?_
 refine AnyH.start ((b4, .cells [.int .i64 (resolveM S root p 16).1.1, .int .i64 (resolveM S root p 16).1.2].toArray 31) :: (b5, .cells (S.get (resolveM S root p 16).1).1.cells.toArray 25) :: []) 5 rfl ?_
 refine Tk 0 rfl rfl (pv_loadK [_, _] rfl rfl rfl ⟨rfl, rfl, trivial⟩) rfl ?_
 refine Tk 1 rfl rfl (pv_loadK [_, _, _, _, _, _] rfl rfl rfl ⟨rfl, rfl, rfl, rfl, rfl, rfl, trivial⟩) rfl ?_
 refine AnyH.one 2 (by kernel_rfl) ?_
 refine Turn.ef rfl rfl (ef_storeK rfl rfl rfl rfl) ?_ ?_
 ·
  rintro _ _ ⟨rfl, rfl⟩; infer_instance
 rintro _ _ ⟨rfl, rfl⟩
 refine AnyH.one 3 (by kernel_rfl) ?_
 refine Turn.ef rfl rfl (ef_storeK rfl rfl rfl rfl) ?_ ?_
 ·
  rintro _ _ ⟨rfl, rfl⟩; infer_instance
 rintro _ _ ⟨rfl, rfl⟩
 refine Tk 4 rfl rfl (pv_assign rfl) rfl ?_
 refine AnyH.done (by kernel_rfl) ?_
 refine Ends.seq ?_
 refine Wp.ret ?_
 exact Ends.ret (res_list (rs := [.cell 6 31, .cell 7 25, .tmp 8]) rfl ⟨_, _, rfl, rv_cellK [_, _] rfl rfl rfl ⟨rfl, rfl, trivial⟩, ⟨_, _, rfl, rv_cellK [_, _, _, _, _, _] rfl rfl rfl ⟨rfl, rfl, rfl, rfl, rfl, rfl, trivial⟩, ⟨_, _, rfl, rv_tmp rfl, rfl⟩⟩⟩ rfl) ⟨by rw [capM, if_neg (by assumption), if_neg (by assumption)], rfl⟩
end Go.Proofs.YtdodfnjmkpgdbaaGreat
end
