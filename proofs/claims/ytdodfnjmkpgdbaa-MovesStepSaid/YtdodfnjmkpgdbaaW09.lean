/- Walks of layer 9: the program's tree answers as the plain functions say. No condition. -/
import Derived.Test.YtdodfnjmkpgdbaaM09
import Derived.Test.YtdodfnjmkpgdbaaWP
set_option linter.unusedVariables false
set_option linter.unusedSimpArgs false
namespace Go.Proofs.Ytdodfnjmkpgdbaa
open Go.SL

theorem tr_treeNew  : Tr Try.prog 43 [] ([]) (fun v L' => ∃ tb, v = .pointer (some ⟨tb, 0, none⟩) ∧ TrH ⟨0, fun _ => (0, 0), fun _ => none, fun _ => [], []⟩ tb L') := by
  refine Tr.enter Try.func43 rfl Try.ntmps43 rfl (fun W F => ?_)
  refine Wp.app ?_
  refine Wp.seq ?_
  refine Wp.region ?_
  refine Ops.pv (pv_assign rfl) rfl ?_
  refine Ops.nil ?_
  refine Ends.seq ?_
  refine Wp.seq ?_
  refine Wp.region ?_
  refine Ops.ef rfl (ef_makeMap rfl rfl) ?_
  rintro _ _ ⟨b1, rfl, rfl⟩
  refine Ops.pv (pv_build rfl) rfl ?_
  refine Ops.ef rfl (ef_boxK rfl rfl) ?_
  rintro _ _ ⟨b2, rfl, rfl⟩
  refine Ops.pv (pv_assign rfl) rfl ?_
  refine Ops.nil ?_
  refine Ends.seq ?_
  refine Wp.ret ?_
  exact Ends.ret (L' := [trBlk b2 b1, (b1, .map #[] 0)]) (res1 rfl rfl) ⟨b2, rfl, b1, 0, fun _ => 0, fun _ => .pointer none, fun _ => [], fun i hi => absurd hi (Nat.not_lt_zero i), rfl⟩

theorem tr_tHas (tb : Nat) (L : Hp) (T : TreeM) (hH : TrH T tb L) (s : SlotM) : TrR Try.prog 74 [.pointer (some ⟨tb, 0, none⟩), slotV s] (L) (.bool (tget s T.M).isSome) := by
  obtain ⟨mb, clk, blk, kv, kH, hk, rfl⟩ := hH
  have hm := tptr_hm blk T.M s
  refine Tr.enter Try.func74 rfl Try.ntmps74 rfl (fun W F => ?_)
  refine Wp.app ?_
  refine Wp.seq ?_
  refine Wp.region ?_
  refine Ops.ef rfl (ef_boxK rfl rfl) ?_
  rintro _ _ ⟨b1, rfl, rfl⟩
  refine Ops.pv (pv_assign rfl) rfl ?_
  refine Ops.nil ?_
  refine Ends.seq ?_
  refine Wp.seq ?_
  refine AnyH.start ((b1, .cells [.int .i64 s.1, .int .i64 s.2].toArray 38) :: trBlk tb mb :: mpBlk mb blk T.M clk :: segs (knS blk T kv kH) T.n) 8 rfl ?_
  refine AnyH.take 0 rfl (by kernel_rfl) (by kernel_rfl) (by kernel_rfl) PF.pf rfl (pv_move rfl) rfl ?_
  first | refine AnyH.take 1 rfl (by kernel_rfl) (by kernel_rfl) (by kernel_rfl) PF.pf rfl (pv_nilCheck rfl) rfl ?_ | refine AnyH.take 1 rfl (by kernel_rfl) (by kernel_rfl) (by kernel_rfl) PF.pf rfl (pv_nilCheck_func rfl rfl) rfl ?_
  first | refine AnyH.take 2 rfl (by kernel_rfl) (by kernel_rfl) (by kernel_rfl) PF.pf rfl (pv_fieldAddr0 rfl rfl) rfl ?_ | refine AnyH.take 2 rfl (by kernel_rfl) (by kernel_rfl) (by kernel_rfl) PF.pf rfl (pv_fieldAddr rfl rfl) rfl ?_
  first | refine AnyH.take 3 rfl (by kernel_rfl) (by kernel_rfl) (by kernel_rfl) PF.pf rfl (pv_load rfl rfl rfl) rfl ?_ | refine AnyH.take 3 rfl (by kernel_rfl) (by kernel_rfl) (by kernel_rfl) PF.pf rfl (pv_load rfl rfl (by assumption)) rfl ?_
  refine AnyH.take 4 rfl (by kernel_rfl) (by kernel_rfl) (by kernel_rfl) PF.pf rfl (pv_loadK [_, _] rfl rfl rfl ⟨rfl, rfl, trivial⟩) rfl ?_
  refine AnyH.take 5 rfl (by kernel_rfl) (by kernel_rfl) (by kernel_rfl) PF.pf rfl (pv_lookup_s s rfl rfl hm) rfl ?_
  refine AnyH.take 6 rfl (by kernel_rfl) (by kernel_rfl) (by kernel_rfl) PF.pf rfl (pv_neq_nil rfl rfl) rfl ?_
  refine AnyH.take 7 rfl (by kernel_rfl) (by kernel_rfl) (by kernel_rfl) PF.pf rfl (pv_assign rfl) rfl ?_
  refine AnyH.done (by kernel_rfl) ?_
  refine Ends.seq ?_
  refine Wp.ret ?_
  exact Ends.ret (res1 rfl rfl) ⟨by rw [tptr_is], rfl⟩



theorem tr_tPar0 (tb : Nat) (L : Hp) (T : TreeM) (hH : TrH T tb L) (s : SlotM) (h : tget s T.M = none) : TrR Try.prog 60 [.pointer (some ⟨tb, 0, none⟩), slotV s] (L) (.tuple #[slotV (0, 0), .bool false]) := by
  obtain ⟨mb, clk, blk, kv, kH, hk, rfl⟩ := hH
  have hm := tptr_hm blk T.M s
  rw [tptr_no h] at hm
  refine Tr.enter Try.func60 rfl Try.ntmps60 rfl (fun W F => ?_)
  refine Wp.app ?_
  refine Wp.seq ?_
  refine Wp.region ?_
  refine Ops.ef rfl (ef_boxK rfl rfl) ?_
  rintro _ _ ⟨b1, rfl, rfl⟩
  refine Ops.ef rfl (ef_allocK tyZ38 rfl) ?_
  rintro _ _ ⟨b2, rfl, rfl⟩
  refine Ops.pv (pv_assign rfl) rfl ?_
  refine Ops.nil ?_
  refine Ends.seq ?_
  refine Wp.seq ?_
  refine AnyH.start ((b1, .cells [.int .i64 s.1, .int .i64 s.2].toArray 38) :: trBlk tb mb :: mpBlk mb blk T.M clk :: segs (knS blk T kv kH) T.n) 7 rfl ?_
  refine AnyH.take 0 rfl (by kernel_rfl) (by kernel_rfl) (by kernel_rfl) PF.pf rfl (pv_move rfl) rfl ?_
  first | refine AnyH.take 1 rfl (by kernel_rfl) (by kernel_rfl) (by kernel_rfl) PF.pf rfl (pv_nilCheck rfl) rfl ?_ | refine AnyH.take 1 rfl (by kernel_rfl) (by kernel_rfl) (by kernel_rfl) PF.pf rfl (pv_nilCheck_func rfl rfl) rfl ?_
  first | refine AnyH.take 2 rfl (by kernel_rfl) (by kernel_rfl) (by kernel_rfl) PF.pf rfl (pv_fieldAddr0 rfl rfl) rfl ?_ | refine AnyH.take 2 rfl (by kernel_rfl) (by kernel_rfl) (by kernel_rfl) PF.pf rfl (pv_fieldAddr rfl rfl) rfl ?_
  first | refine AnyH.take 3 rfl (by kernel_rfl) (by kernel_rfl) (by kernel_rfl) PF.pf rfl (pv_load rfl rfl rfl) rfl ?_ | refine AnyH.take 3 rfl (by kernel_rfl) (by kernel_rfl) (by kernel_rfl) PF.pf rfl (pv_load rfl rfl (by assumption)) rfl ?_
  refine AnyH.take 4 rfl (by kernel_rfl) (by kernel_rfl) (by kernel_rfl) PF.pf rfl (pv_loadK [_, _] rfl rfl rfl ⟨rfl, rfl, trivial⟩) rfl ?_
  refine AnyH.take 5 rfl (by kernel_rfl) (by kernel_rfl) (by kernel_rfl) PF.pf rfl (pv_lookup_s s rfl rfl hm) rfl ?_
  refine AnyH.take 6 rfl (by kernel_rfl) (by kernel_rfl) (by kernel_rfl) PF.pf rfl (pv_assign rfl) rfl ?_
  refine AnyH.done (by kernel_rfl) ?_
  refine Ends.seq ?_
  refine Wp.seq ?_
  refine Wp.seq ?_
  refine Wp.region ?_
  refine Ops.pv (pv_move rfl) rfl ?_
  refine Ops.pv (pv_eql_nil rfl rfl) rfl ?_
  refine Ops.pv (pv_move rfl) rfl ?_
  refine Ops.skipg ⟨_, _, rfl, rfl, rfl⟩ rfl ?_
  refine Ops.skipg ⟨_, _, rfl, rfl, rfl⟩ rfl ?_
  refine Ops.skipg ⟨_, _, rfl, rfl, rfl⟩ rfl ?_
  refine Ops.skipg ⟨_, _, rfl, rfl, rfl⟩ rfl ?_
  refine Ops.skipg ⟨_, _, rfl, rfl, rfl⟩ rfl ?_
  refine Ops.pv (pv_pick_true rfl rfl) rfl ?_
  refine Ops.nil ?_
  refine Ends.seq ?_
  refine Wp.cond_true rfl ?_
  refine Wp.seq ?_
  refine Wp.region ?_
  refine Ops.pv (pv_build rfl) rfl ?_
  refine Ops.ef rfl (ef_storeK rfl rfl rfl rfl) ?_
  rintro _ _ ⟨rfl, rfl⟩
  refine Ops.pv (pv_assign rfl) rfl ?_
  refine Ops.nil ?_
  refine Ends.seq ?_
  refine Wp.ret ?_
  refine Ends.then_ret ?_
  exact Ends.ret (res_list (rs := [.cell 4 38, .tmp 5]) rfl ⟨_, _, rfl, rv_cellK [_, _] rfl rfl rfl ⟨rfl, rfl, trivial⟩, ⟨_, _, rfl, rv_tmp rfl, rfl⟩⟩ rfl) ⟨rfl, rfl⟩

theorem tr_tPar1 (tb : Nat) (L : Hp) (T : TreeM) (hH : TrH T tb L) (hx : T.Ix) (s : SlotM) (i : Nat) (h : tget s T.M = some i) (hp : T.par i = none) : TrR Try.prog 60 [.pointer (some ⟨tb, 0, none⟩), slotV s] (L) (.tuple #[slotV (0, 0), .bool false]) := by
  obtain ⟨mb, clk, blk, kv, kH, hk, rfl⟩ := hH
  have hm := tptr_hm blk T.M s
  rw [tptr_some h] at hm
  have hi := hx.get h
  have hb_i := kn_blk (blk := blk) (T := T) (kv := kv) (kH := kH) (i := i) hi
  rw [hp] at hb_i
  refine Tr.enter Try.func60 rfl Try.ntmps60 rfl (fun W F => ?_)
  refine Wp.app ?_
  refine Wp.seq ?_
  refine Wp.region ?_
  refine Ops.ef rfl (ef_boxK rfl rfl) ?_
  rintro _ _ ⟨b1, rfl, rfl⟩
  refine Ops.ef rfl (ef_allocK tyZ38 rfl) ?_
  rintro _ _ ⟨b2, rfl, rfl⟩
  refine Ops.pv (pv_assign rfl) rfl ?_
  refine Ops.nil ?_
  refine Ends.seq ?_
  refine Wp.seq ?_
  refine AnyH.start ((b1, .cells [.int .i64 s.1, .int .i64 s.2].toArray 38) :: trBlk tb mb :: mpBlk mb blk T.M clk :: segs (knS blk T kv kH) T.n) 7 rfl ?_
  refine AnyH.take 0 rfl (by kernel_rfl) (by kernel_rfl) (by kernel_rfl) PF.pf rfl (pv_move rfl) rfl ?_
  first | refine AnyH.take 1 rfl (by kernel_rfl) (by kernel_rfl) (by kernel_rfl) PF.pf rfl (pv_nilCheck rfl) rfl ?_ | refine AnyH.take 1 rfl (by kernel_rfl) (by kernel_rfl) (by kernel_rfl) PF.pf rfl (pv_nilCheck_func rfl rfl) rfl ?_
  first | refine AnyH.take 2 rfl (by kernel_rfl) (by kernel_rfl) (by kernel_rfl) PF.pf rfl (pv_fieldAddr0 rfl rfl) rfl ?_ | refine AnyH.take 2 rfl (by kernel_rfl) (by kernel_rfl) (by kernel_rfl) PF.pf rfl (pv_fieldAddr rfl rfl) rfl ?_
  first | refine AnyH.take 3 rfl (by kernel_rfl) (by kernel_rfl) (by kernel_rfl) PF.pf rfl (pv_load rfl rfl rfl) rfl ?_ | refine AnyH.take 3 rfl (by kernel_rfl) (by kernel_rfl) (by kernel_rfl) PF.pf rfl (pv_load rfl rfl (by assumption)) rfl ?_
  refine AnyH.take 4 rfl (by kernel_rfl) (by kernel_rfl) (by kernel_rfl) PF.pf rfl (pv_loadK [_, _] rfl rfl rfl ⟨rfl, rfl, trivial⟩) rfl ?_
  refine AnyH.take 5 rfl (by kernel_rfl) (by kernel_rfl) (by kernel_rfl) PF.pf rfl (pv_lookup_s s rfl rfl hm) rfl ?_
  refine AnyH.take 6 rfl (by kernel_rfl) (by kernel_rfl) (by kernel_rfl) PF.pf rfl (pv_assign rfl) rfl ?_
  refine AnyH.done (by kernel_rfl) ?_
  refine Ends.seq ?_
  refine Wp.seq ?_
  refine Wp.seq ?_
  refine Wp.region ?_
  refine Ops.pv (pv_move rfl) rfl ?_
  refine Ops.pv (pv_eql_nil rfl rfl) rfl ?_
  refine Ops.pv (pv_move rfl) rfl ?_
  refine Ops.pvg ⟨_, _, rfl, rfl, rfl⟩ (pv_move rfl) rfl ?_
  first | refine Ops.pvg ⟨_, _, rfl, rfl, rfl⟩ (pv_nilCheck rfl) rfl ?_ | refine Ops.pvg ⟨_, _, rfl, rfl, rfl⟩ (pv_nilCheck_func rfl rfl) rfl ?_
  first | refine Ops.pvg ⟨_, _, rfl, rfl, rfl⟩ (pv_fieldAddr0 rfl rfl) rfl ?_ | refine Ops.pvg ⟨_, _, rfl, rfl, rfl⟩ (pv_fieldAddr rfl rfl) rfl ?_
  first | refine Ops.pvg ⟨_, _, rfl, rfl, rfl⟩ (pv_load rfl rfl rfl) rfl ?_ | refine Ops.pvg ⟨_, _, rfl, rfl, rfl⟩ (pv_load rfl rfl (by assumption)) rfl ?_
  refine Ops.pvg ⟨_, _, rfl, rfl, rfl⟩ (pv_eql_nil rfl rfl) rfl ?_
  refine Ops.pv (pv_pick_false rfl rfl) rfl ?_
  refine Ops.nil ?_
  refine Ends.seq ?_
  refine Wp.cond_true rfl ?_
  refine Wp.seq ?_
  refine Wp.region ?_
  refine Ops.pv (pv_build rfl) rfl ?_
  refine Ops.ef rfl (ef_storeK rfl rfl rfl rfl) ?_
  rintro _ _ ⟨rfl, rfl⟩
  refine Ops.pv (pv_assign rfl) rfl ?_
  refine Ops.nil ?_
  refine Ends.seq ?_
  refine Wp.ret ?_
  refine Ends.then_ret ?_
  exact Ends.ret (res_list (rs := [.cell 4 38, .tmp 5]) rfl ⟨_, _, rfl, rv_cellK [_, _] rfl rfl rfl ⟨rfl, rfl, trivial⟩, ⟨_, _, rfl, rv_tmp rfl, rfl⟩⟩ rfl) ⟨rfl, rfl⟩

theorem tr_tPar2 (tb : Nat) (L : Hp) (T : TreeM) (hH : TrH T tb L) (hx : T.Ix) (s : SlotM) (i j : Nat) (h : tget s T.M = some i) (hp : T.par i = some j) : TrR Try.prog 60 [.pointer (some ⟨tb, 0, none⟩), slotV s] (L) (.tuple #[slotV (T.sl j), .bool true]) := by
  obtain ⟨mb, clk, blk, kv, kH, hk, rfl⟩ := hH
  have hm := tptr_hm blk T.M s
  rw [tptr_some h] at hm
  have hi := hx.get h
  have hj := hx.par i j hi hp
  have hb_i := kn_blk (blk := blk) (T := T) (kv := kv) (kH := kH) (i := i) hi
  rw [hp] at hb_i
  have hb_j := kn_blk (blk := blk) (T := T) (kv := kv) (kH := kH) (i := j) hj
  refine Tr.enter Try.func60 rfl Try.ntmps60 rfl (fun W F => ?_)
  refine Wp.app ?_
  refine Wp.seq ?_
  refine Wp.region ?_
  refine Ops.ef rfl (ef_boxK rfl rfl) ?_
  rintro _ _ ⟨b1, rfl, rfl⟩
  refine Ops.ef rfl (ef_allocK tyZ38 rfl) ?_
  rintro _ _ ⟨b2, rfl, rfl⟩
  refine Ops.pv (pv_assign rfl) rfl ?_
  refine Ops.nil ?_
  refine Ends.seq ?_
  refine Wp.seq ?_
  refine AnyH.start ((b1, .cells [.int .i64 s.1, .int .i64 s.2].toArray 38) :: trBlk tb mb :: mpBlk mb blk T.M clk :: segs (knS blk T kv kH) T.n) 7 rfl ?_
  refine AnyH.take 0 rfl (by kernel_rfl) (by kernel_rfl) (by kernel_rfl) PF.pf rfl (pv_move rfl) rfl ?_
  first | refine AnyH.take 1 rfl (by kernel_rfl) (by kernel_rfl) (by kernel_rfl) PF.pf rfl (pv_nilCheck rfl) rfl ?_ | refine AnyH.take 1 rfl (by kernel_rfl) (by kernel_rfl) (by kernel_rfl) PF.pf rfl (pv_nilCheck_func rfl rfl) rfl ?_
  first | refine AnyH.take 2 rfl (by kernel_rfl) (by kernel_rfl) (by kernel_rfl) PF.pf rfl (pv_fieldAddr0 rfl rfl) rfl ?_ | refine AnyH.take 2 rfl (by kernel_rfl) (by kernel_rfl) (by kernel_rfl) PF.pf rfl (pv_fieldAddr rfl rfl) rfl ?_
  first | refine AnyH.take 3 rfl (by kernel_rfl) (by kernel_rfl) (by kernel_rfl) PF.pf rfl (pv_load rfl rfl rfl) rfl ?_ | refine AnyH.take 3 rfl (by kernel_rfl) (by kernel_rfl) (by kernel_rfl) PF.pf rfl (pv_load rfl rfl (by assumption)) rfl ?_
  refine AnyH.take 4 rfl (by kernel_rfl) (by kernel_rfl) (by kernel_rfl) PF.pf rfl (pv_loadK [_, _] rfl rfl rfl ⟨rfl, rfl, trivial⟩) rfl ?_
  refine AnyH.take 5 rfl (by kernel_rfl) (by kernel_rfl) (by kernel_rfl) PF.pf rfl (pv_lookup_s s rfl rfl hm) rfl ?_
  refine AnyH.take 6 rfl (by kernel_rfl) (by kernel_rfl) (by kernel_rfl) PF.pf rfl (pv_assign rfl) rfl ?_
  refine AnyH.done (by kernel_rfl) ?_
  refine Ends.seq ?_
  refine Wp.seq ?_
  refine Wp.seq ?_
  refine Wp.region ?_
  refine Ops.pv (pv_move rfl) rfl ?_
  refine Ops.pv (pv_eql_nil rfl rfl) rfl ?_
  refine Ops.pv (pv_move rfl) rfl ?_
  refine Ops.pvg ⟨_, _, rfl, rfl, rfl⟩ (pv_move rfl) rfl ?_
  first | refine Ops.pvg ⟨_, _, rfl, rfl, rfl⟩ (pv_nilCheck rfl) rfl ?_ | refine Ops.pvg ⟨_, _, rfl, rfl, rfl⟩ (pv_nilCheck_func rfl rfl) rfl ?_
  first | refine Ops.pvg ⟨_, _, rfl, rfl, rfl⟩ (pv_fieldAddr0 rfl rfl) rfl ?_ | refine Ops.pvg ⟨_, _, rfl, rfl, rfl⟩ (pv_fieldAddr rfl rfl) rfl ?_
  first | refine Ops.pvg ⟨_, _, rfl, rfl, rfl⟩ (pv_load rfl rfl rfl) rfl ?_ | refine Ops.pvg ⟨_, _, rfl, rfl, rfl⟩ (pv_load rfl rfl (by assumption)) rfl ?_
  refine Ops.pvg ⟨_, _, rfl, rfl, rfl⟩ (pv_eql_nil rfl rfl) rfl ?_
  refine Ops.pv (pv_pick_false rfl rfl) rfl ?_
  refine Ops.nil ?_
  refine Ends.seq ?_
  refine Wp.cond_false rfl ?_
  refine Wp.skip ?_
  refine Ends.seq ?_
  refine Wp.seq ?_
  refine Wp.region ?_
  refine Ops.pv (pv_move rfl) rfl ?_
  first | refine Ops.pv (pv_nilCheck rfl) rfl ?_ | refine Ops.pv (pv_nilCheck_func rfl rfl) rfl ?_
  first | refine Ops.pv (pv_fieldAddr0 rfl rfl) rfl ?_ | refine Ops.pv (pv_fieldAddr rfl rfl) rfl ?_
  first | refine Ops.pv (pv_load rfl rfl rfl) rfl ?_ | refine Ops.pv (pv_load rfl rfl (by assumption)) rfl ?_
  first | refine Ops.pv (pv_nilCheck rfl) rfl ?_ | refine Ops.pv (pv_nilCheck_func rfl rfl) rfl ?_
  first | refine Ops.pv (pv_fieldAddr0 rfl rfl) rfl ?_ | refine Ops.pv (pv_fieldAddr rfl rfl) rfl ?_
  refine Ops.pv (pv_loadK [_, _] rfl rfl rfl ⟨rfl, rfl, trivial⟩) rfl ?_
  refine Ops.ef rfl (ef_storeK rfl rfl rfl rfl) ?_
  rintro _ _ ⟨rfl, rfl⟩
  refine Ops.pv (pv_assign rfl) rfl ?_
  refine Ops.nil ?_
  refine Ends.seq ?_
  refine Wp.ret ?_
  exact Ends.ret (res_list (rs := [.cell 4 38, .tmp 5]) rfl ⟨_, _, rfl, rv_cellK [_, _] rfl rfl rfl ⟨rfl, rfl, trivial⟩, ⟨_, _, rfl, rv_tmp rfl, rfl⟩⟩ rfl) ⟨rfl, rfl⟩

theorem tr_tParent (tb : Nat) (L : Hp) (T : TreeM) (hH : TrH T tb L) (hx : T.Ix) (s : SlotM) : TrR Try.prog 60 [.pointer (some ⟨tb, 0, none⟩), slotV s] L (.tuple #[slotV (tparS T s), .bool (tparB T s)]) := by
  cases h : tget s T.M with
  | none => exact (tr_tPar0 tb L T hH s h).eq (by simp [tparS, tparB, h])
  | some i =>
    cases hp : T.par i with
    | none => exact (tr_tPar1 tb L T hH hx s i h hp).eq (by simp [tparS, tparB, h, hp])
    | some j => exact (tr_tPar2 tb L T hH hx s i j h hp).eq (by simp [tparS, tparB, h, hp])

theorem tr_tKids0 (tb : Nat) (L : Hp) (T : TreeM) (hH : TrH T tb L) (s : SlotM) (h : tget s T.M = none) : Tr Try.prog 61 [.pointer (some ⟨tb, 0, none⟩), slotV s] (L) (fun u L' => u = .slice none 0 0 ∧ L' = L) := by
  obtain ⟨mb, clk, blk, kv, kH, hk, rfl⟩ := hH
  have hm := tptr_hm blk T.M s
  rw [tptr_no h] at hm
  refine Tr.enter Try.func61 rfl Try.ntmps61 rfl (fun W F => ?_)
  refine Wp.app ?_
  refine Wp.seq ?_
  refine Wp.region ?_
  refine Ops.ef rfl (ef_boxK rfl rfl) ?_
  rintro _ _ ⟨b1, rfl, rfl⟩
  refine Ops.pv (pv_assign rfl) rfl ?_
  refine Ops.nil ?_
  refine Ends.seq ?_
  refine Wp.seq ?_
  refine Wp.region ?_
  refine Ops.pv (pv_assign rfl) rfl ?_
  refine Ops.nil ?_
  refine Ends.seq ?_
  refine Wp.seq ?_
  refine Wp.seq ?_
  refine AnyH.start ((b1, .cells [.int .i64 s.1, .int .i64 s.2].toArray 38) :: trBlk tb mb :: mpBlk mb blk T.M clk :: segs (knS blk T kv kH) T.n) 7 rfl ?_
  refine AnyH.take 0 rfl (by kernel_rfl) (by kernel_rfl) (by kernel_rfl) PF.pf rfl (pv_move rfl) rfl ?_
  first | refine AnyH.take 1 rfl (by kernel_rfl) (by kernel_rfl) (by kernel_rfl) PF.pf rfl (pv_nilCheck rfl) rfl ?_ | refine AnyH.take 1 rfl (by kernel_rfl) (by kernel_rfl) (by kernel_rfl) PF.pf rfl (pv_nilCheck_func rfl rfl) rfl ?_
  first | refine AnyH.take 2 rfl (by kernel_rfl) (by kernel_rfl) (by kernel_rfl) PF.pf rfl (pv_fieldAddr0 rfl rfl) rfl ?_ | refine AnyH.take 2 rfl (by kernel_rfl) (by kernel_rfl) (by kernel_rfl) PF.pf rfl (pv_fieldAddr rfl rfl) rfl ?_
  first | refine AnyH.take 3 rfl (by kernel_rfl) (by kernel_rfl) (by kernel_rfl) PF.pf rfl (pv_load rfl rfl rfl) rfl ?_ | refine AnyH.take 3 rfl (by kernel_rfl) (by kernel_rfl) (by kernel_rfl) PF.pf rfl (pv_load rfl rfl (by assumption)) rfl ?_
  refine AnyH.take 4 rfl (by kernel_rfl) (by kernel_rfl) (by kernel_rfl) PF.pf rfl (pv_loadK [_, _] rfl rfl rfl ⟨rfl, rfl, trivial⟩) rfl ?_
  refine AnyH.take 5 rfl (by kernel_rfl) (by kernel_rfl) (by kernel_rfl) PF.pf rfl (pv_lookup_s s rfl rfl hm) rfl ?_
  refine AnyH.take 6 rfl (by kernel_rfl) (by kernel_rfl) (by kernel_rfl) PF.pf rfl (pv_assign rfl) rfl ?_
  refine AnyH.done (by kernel_rfl) ?_
  refine Ends.seq ?_
  refine Wp.seq ?_
  refine Wp.region ?_
  refine Ops.pv (pv_move rfl) rfl ?_
  refine Ops.pv (pv_neq_nil rfl rfl) rfl ?_
  refine Ops.nil ?_
  refine Ends.seq ?_
  refine Wp.cond_false rfl ?_
  refine Wp.skip ?_
  refine Ends.seq ?_
  refine Wp.seq ?_
  refine Wp.region ?_
  refine Ops.pv (pv_move rfl) rfl ?_
  refine Ops.pv (pv_assign rfl) rfl ?_
  refine Ops.nil ?_
  refine Ends.seq ?_
  refine Wp.ret ?_
  exact Ends.ret (L' := trBlk tb mb :: mpBlk mb blk T.M clk :: segs (knS blk T kv kH) T.n) (res1 rfl rfl) ⟨rfl, rfl⟩

set_option maxHeartbeats 1000000 in
theorem tr_tKids1 (tb : Nat) (L : Hp) (T : TreeM) (hH : TrH T tb L) (hx : T.Ix) (hn : T.n ≤ 2 ^ 20) (s : SlotM) (i : Nat) (h : tget s T.M = some i) : Tr Try.prog 61 [.pointer (some ⟨tb, 0, none⟩), slotV s] (L) (fun u L' => ∃ K, Slc 38 2 u ((T.kids i).map T.sl).length (slotsCells ((T.kids i).map T.sl)) K ∧ L' = K ++ L) := by
  obtain ⟨mb, clk, blk, kv, kH, hk, rfl⟩ := hH
  have hm := tptr_hm blk T.M s
  rw [tptr_some h] at hm
  have hi := hx.get h
  have hb_i := kn_blk (blk := blk) (T := T) (kv := kv) (kH := kH) (i := i) hi
  obtain ⟨ka, kc, hkv⟩ := (hk i hi).form
  have hv := kn_view hk hi
  rw [hkv] at hv hb_i
  have hks := hx.small i hi
  have hlm : (T.kids i).length = ((T.kids i).map blk).length := by rw [List.length_map]
  refine Tr.enter Try.func61 rfl Try.ntmps61 rfl (fun W F => ?_)
  refine Wp.app ?_
  refine Wp.seq ?_
  refine Wp.region ?_
  refine Ops.ef rfl (ef_boxK rfl rfl) ?_
  rintro _ _ ⟨b1, rfl, rfl⟩
  refine Ops.pv (pv_assign rfl) rfl ?_
  refine Ops.nil ?_
  refine Ends.seq ?_
  refine Wp.seq ?_
  refine Wp.region ?_
  refine Ops.pv (pv_assign rfl) rfl ?_
  refine Ops.nil ?_
  refine Ends.seq ?_
  refine Wp.seq ?_
  refine Wp.seq ?_
  refine AnyH.start ((b1, .cells [.int .i64 s.1, .int .i64 s.2].toArray 38) :: trBlk tb mb :: mpBlk mb blk T.M clk :: segs (knS blk T kv kH) T.n) 7 rfl ?_
  refine AnyH.take 0 rfl (by kernel_rfl) (by kernel_rfl) (by kernel_rfl) PF.pf rfl (pv_move rfl) rfl ?_
  first | refine AnyH.take 1 rfl (by kernel_rfl) (by kernel_rfl) (by kernel_rfl) PF.pf rfl (pv_nilCheck rfl) rfl ?_ | refine AnyH.take 1 rfl (by kernel_rfl) (by kernel_rfl) (by kernel_rfl) PF.pf rfl (pv_nilCheck_func rfl rfl) rfl ?_
  first | refine AnyH.take 2 rfl (by kernel_rfl) (by kernel_rfl) (by kernel_rfl) PF.pf rfl (pv_fieldAddr0 rfl rfl) rfl ?_ | refine AnyH.take 2 rfl (by kernel_rfl) (by kernel_rfl) (by kernel_rfl) PF.pf rfl (pv_fieldAddr rfl rfl) rfl ?_
  first | refine AnyH.take 3 rfl (by kernel_rfl) (by kernel_rfl) (by kernel_rfl) PF.pf rfl (pv_load rfl rfl rfl) rfl ?_ | refine AnyH.take 3 rfl (by kernel_rfl) (by kernel_rfl) (by kernel_rfl) PF.pf rfl (pv_load rfl rfl (by assumption)) rfl ?_
  refine AnyH.take 4 rfl (by kernel_rfl) (by kernel_rfl) (by kernel_rfl) PF.pf rfl (pv_loadK [_, _] rfl rfl rfl ⟨rfl, rfl, trivial⟩) rfl ?_
  refine AnyH.take 5 rfl (by kernel_rfl) (by kernel_rfl) (by kernel_rfl) PF.pf rfl (pv_lookup_s s rfl rfl hm) rfl ?_
  refine AnyH.take 6 rfl (by kernel_rfl) (by kernel_rfl) (by kernel_rfl) PF.pf rfl (pv_assign rfl) rfl ?_
  refine AnyH.done (by kernel_rfl) ?_
  refine Ends.seq ?_
  refine Wp.seq ?_
  refine Wp.region ?_
  refine Ops.pv (pv_move rfl) rfl ?_
  refine Ops.pv (pv_neq_nil rfl rfl) rfl ?_
  refine Ops.nil ?_
  refine Ends.seq ?_
  refine Wp.cond_true rfl ?_
  refine Wp.seq ?_
  refine Wp.region ?_
  refine Ops.pv (pv_move rfl) rfl ?_
  first | refine Ops.pv (pv_nilCheck rfl) rfl ?_ | refine Ops.pv (pv_nilCheck_func rfl rfl) rfl ?_
  first | refine Ops.pv (pv_fieldAddr0 rfl rfl) rfl ?_ | refine Ops.pv (pv_fieldAddr rfl rfl) rfl ?_
  first | refine Ops.pv (pv_load rfl rfl rfl) rfl ?_ | refine Ops.pv (pv_load rfl rfl (by assumption)) rfl ?_
  refine Ops.pv (pv_len_slice (T := 110) rfl rfl) rfl ?_
  refine Ops.pv (pv_move rfl) rfl ?_
  refine Ops.nil ?_
  refine Ends.seq ?_
  refine Wp.block ?_
  refine Wp.loopK (σ := Nat × Value × Hp) [(20, _), (21, _)] (fun s => [(5, s.2.1), (22, .int .i64 s.1)]) (fun s => s.2.2 ++ (trBlk tb mb :: mpBlk mb blk T.M clk :: (segs (knS blk T kv kH) T.n ++ F))) (fun s => s.1 ≤ (T.kids i).length ∧ Slc 38 2 s.2.1 (((T.kids i).take s.1).map T.sl).length (slotsCells (((T.kids i).take s.1).map T.sl)) s.2.2) (fun s => (T.kids i).length - s.1) (0, .slice none 0 0, []) ⟨Nat.zero_le _, Slc.nil _ _⟩ ⟨rfl, rfl, trivial⟩ ⟨rfl, rfl, trivial⟩ (by intro w ho; (try dsimp only [List.nil_append, List.cons_append]); exact Drop.own ho) ?_
  rintro ⟨j, u, K⟩ KK ⟨hj, hu⟩ hK
  dsimp only [List.cons_append, List.nil_append] at hK ⊢
  dsimp only at hj hu ⊢
  refine Wp.seq ?_
  refine Wp.region ?_
  refine Ops.pv (pv_lss rfl rfl) rfl ?_
  refine Ops.nil ?_
  refine Ends.seq ?_
  refine Wp.seq ?_
  first | refine Wp.cond_dect rfl (fun h1 => ?_) (fun h1 => ?_) | refine Wp.cond_t rfl (fun h1 => ?_) (fun h1 => ?_)
  · obtain ⟨b, o, cap, cc, T0, f, hv1, hbv, hr⟩ := hv.open (by omega)
    cases hv1
    obtain ⟨q, hq⟩ : ∃ q, (T.kids i)[j]? = some q := ⟨_, List.getElem?_eq_getElem (by omega)⟩
    have hbq : ((T.kids i).map blk)[j]? = some (blk q) := by rw [List.getElem?_map, hq]; rfl
    have hqn := hx.kids i q hi (List.mem_of_getElem? hq)
    have hb_q := kn_blk (blk := blk) (T := T) (kv := kv) (kH := kH) (i := q) hqn
    refine Wp.skip ?_
    refine Ends.seq ?_
    refine Wp.seq ?_
    refine Wp.block ?_
    refine Wp.seq ?_
    refine Wp.region ?_
    refine Ops.pv (pv_indexAddr (i := j) rfl rfl rfl (by omega)) rfl ?_
    refine Ops.pv (pv_load rfl rfl (pts_nth hr hbq)) rfl ?_
    refine Ops.pv (pv_assign rfl) rfl ?_
    refine Ops.nil ?_
    refine Ends.seq ?_
    refine Wp.region ?_
    refine Ops.pv (pv_move rfl) rfl ?_
    refine Ops.pv (pv_move rfl) rfl ?_
    first | refine Ops.pv (pv_nilCheck rfl) rfl ?_ | refine Ops.pv (pv_nilCheck_func rfl rfl) rfl ?_
    first | refine Ops.pv (pv_fieldAddr0 rfl rfl) rfl ?_ | refine Ops.pv (pv_fieldAddr rfl rfl) rfl ?_
    refine Ops.pv (pv_loadK [_, _] rfl rfl rfl ⟨rfl, rfl, trivial⟩) rfl ?_
    refine Ops.ef rfl (ef_buildSlice1 (k := 2) rfl rfl rfl rfl rfl) ?_
    rintro _ _ ⟨b2, rfl, rfl⟩
    refine Ops.ef rfl (ef_append (H := K) (xs := slotCells (T.sl q)) rfl hu rfl ⟨rfl, rfl, trivial⟩ rfl rfl rfl (by simp only [List.length_map, List.length_take]; omega) (by simp only [List.length_map, List.length_take]; omega) rfl rfl) ?_
    rintro _ _ ⟨u1, K1, hu1, rfl, rfl⟩
    refine Ops.app ?_
    refine Ops.pv (pv_assign rfl) rfl ?_
    refine Ops.nil ?_
    refine Ends.block_normal ?_
    refine Ends.seq ?_
    refine Wp.region ?_
    first | refine Ops.pv (pv_add rfl rfl (w64 (by omega) (by omega))) rfl ?_ | refine Ops.pv (pv_add rfl rfl rfl) rfl ?_
    refine Ops.pv (pv_move rfl) rfl ?_
    refine Ops.nil ?_
    refine Ends.goes ?_
    refine Goes.back (hK (j + 1, u1, K1) ⟨by dsimp only; omega, ?_⟩ (by dsimp only; omega)) ⟨rfl, rfl, rfl, rfl, trivial⟩
    dsimp only; rw [List.take_add_one, hq, List.map_append, List.length_append, slotsCells_app]; exact hu1
  · refine Wp.exit ?_
    refine Ends.then_exit ?_
    refine Ends.then_exit ?_
    refine Ends.block_hit ?_
    refine Ends.seq ?_
    refine Wp.seq ?_
    refine Wp.region ?_
    refine Ops.pv (pv_move rfl) rfl ?_
    refine Ops.pv (pv_assign rfl) rfl ?_
    refine Ops.nil ?_
    refine Ends.seq ?_
    refine Wp.ret ?_
    obtain rfl : j = (T.kids i).length := by omega
    rw [List.take_length] at hu
    exact Ends.ret (L' := K ++ (trBlk tb mb :: mpBlk mb blk T.M clk :: segs (knS blk T kv kH) T.n)) (res1 rfl rfl) ⟨K, hu, rfl⟩

theorem tr_tChildren (tb : Nat) (L : Hp) (T : TreeM) (hH : TrH T tb L) (hx : T.Ix) (hn : T.n ≤ 2 ^ 20) (s : SlotM) : Tr Try.prog 61 [.pointer (some ⟨tb, 0, none⟩), slotV s] L (fun u L' => ∃ K, Slc 38 2 u (tkids T s).length (slotsCells (tkids T s)) K ∧ L' = K ++ L) := by
  cases h : tget s T.M with
  | none =>
    have e : tkids T s = [] := by unfold tkids; rw [h]
    rw [e]
    exact (tr_tKids0 tb L T hH s h).mono fun u L' ⟨hu, hl⟩ => ⟨[], by rw [hu]; exact Slc.nil _ _, hl⟩
  | some i =>
    have e : tkids T s = (T.kids i).map T.sl := by unfold tkids; rw [h]
    rw [e]; exact tr_tKids1 tb L T hH hx hn s i h

theorem tr_tKin0 (tb : Nat) (L : Hp) (T : TreeM) (hH : TrH T tb L) (s : SlotM) (h : tget s T.M = none) : Tr Try.prog 47 [.pointer (some ⟨tb, 0, none⟩), slotV s] (L) (fun u L' => u = .slice none 0 0 ∧ L' = L) := by
  obtain ⟨mb, clk, blk, kv, kH, hk, rfl⟩ := hH
  have hm := tptr_hm blk T.M s
  rw [tptr_no h] at hm
  refine Tr.enter Try.func47 rfl Try.ntmps47 rfl (fun W F => ?_)
  refine Wp.app ?_
  refine Wp.seq ?_
  refine Wp.region ?_
  refine Ops.ef rfl (ef_boxK rfl rfl) ?_
  rintro _ _ ⟨b1, rfl, rfl⟩
  refine Ops.pv (pv_assign rfl) rfl ?_
  refine Ops.nil ?_
  refine Ends.seq ?_
  refine Wp.seq ?_
  refine Wp.region ?_
  refine Ops.pv (pv_assign rfl) rfl ?_
  refine Ops.nil ?_
  refine Ends.seq ?_
  refine Wp.seq ?_
  refine AnyH.start ((b1, .cells [.int .i64 s.1, .int .i64 s.2].toArray 38) :: trBlk tb mb :: mpBlk mb blk T.M clk :: segs (knS blk T kv kH) T.n) 7 rfl ?_
  refine AnyH.take 0 rfl (by kernel_rfl) (by kernel_rfl) (by kernel_rfl) PF.pf rfl (pv_move rfl) rfl ?_
  first | refine AnyH.take 1 rfl (by kernel_rfl) (by kernel_rfl) (by kernel_rfl) PF.pf rfl (pv_nilCheck rfl) rfl ?_ | refine AnyH.take 1 rfl (by kernel_rfl) (by kernel_rfl) (by kernel_rfl) PF.pf rfl (pv_nilCheck_func rfl rfl) rfl ?_
  first | refine AnyH.take 2 rfl (by kernel_rfl) (by kernel_rfl) (by kernel_rfl) PF.pf rfl (pv_fieldAddr0 rfl rfl) rfl ?_ | refine AnyH.take 2 rfl (by kernel_rfl) (by kernel_rfl) (by kernel_rfl) PF.pf rfl (pv_fieldAddr rfl rfl) rfl ?_
  first | refine AnyH.take 3 rfl (by kernel_rfl) (by kernel_rfl) (by kernel_rfl) PF.pf rfl (pv_load rfl rfl rfl) rfl ?_ | refine AnyH.take 3 rfl (by kernel_rfl) (by kernel_rfl) (by kernel_rfl) PF.pf rfl (pv_load rfl rfl (by assumption)) rfl ?_
  refine AnyH.take 4 rfl (by kernel_rfl) (by kernel_rfl) (by kernel_rfl) PF.pf rfl (pv_loadK [_, _] rfl rfl rfl ⟨rfl, rfl, trivial⟩) rfl ?_
  refine AnyH.take 5 rfl (by kernel_rfl) (by kernel_rfl) (by kernel_rfl) PF.pf rfl (pv_lookup_s s rfl rfl hm) rfl ?_
  refine AnyH.take 6 rfl (by kernel_rfl) (by kernel_rfl) (by kernel_rfl) PF.pf rfl (pv_assign rfl) rfl ?_
  refine AnyH.done (by kernel_rfl) ?_
  refine Ends.seq ?_
  refine Wp.seq ?_
  refine Wp.seq ?_
  refine Wp.region ?_
  refine Ops.pv (pv_move rfl) rfl ?_
  refine Ops.pv (pv_eql_nil rfl rfl) rfl ?_
  refine Ops.nil ?_
  refine Ends.seq ?_
  refine Wp.cond_true rfl ?_
  refine Wp.seq ?_
  refine Wp.region ?_
  refine Ops.pv (pv_assign rfl) rfl ?_
  refine Ops.nil ?_
  refine Ends.seq ?_
  refine Wp.ret ?_
  refine Ends.then_ret ?_
  exact Ends.ret (L' := trBlk tb mb :: mpBlk mb blk T.M clk :: segs (knS blk T kv kH) T.n) (res1 rfl rfl) ⟨rfl, rfl⟩

set_option maxHeartbeats 1000000 in
theorem tr_tKin1 (tb : Nat) (L : Hp) (T : TreeM) (hH : TrH T tb L) (Fo0 : (Fo Nat)) (hT : TOk T Fo0) (hn : T.n ≤ 2 ^ 20) (s : SlotM) (i : Nat) (h : tget s T.M = some i) : Tr Try.prog 47 [.pointer (some ⟨tb, 0, none⟩), slotV s] (L) (fun u L' => ∃ K, Slc 38 2 u ((Fo.sub i Fo0).all.map T.sl).length (slotsCells ((Fo.sub i Fo0).all.map T.sl)) K ∧ L' = K ++ L) := by
  obtain ⟨mb, clk, blk, kv, kH, hk, rfl⟩ := hH
  have hm := tptr_hm blk T.M s
  have hx := hT.ix
  rw [tptr_some h] at hm
  have hi := hx.get h
  have hb_i := kn_blk (blk := blk) (T := T) (kv := kv) (kH := kH) (i := i) hi
  obtain ⟨ka, kc, hkv⟩ := kn_form hk hi
  have hv := kn_view2 hk hi
  rw [hkv] at hv hb_i
  have hks := hx.small i hi
  have him := hT.mem h
  obtain ⟨hsr, hsk⟩ := Fo.OkK.sub hT.kids him
  have hsl := sub_len Fo0 i
  have hal := hT.all_len
  have hlm : ((T.kids i).map blk).length = (T.kids i).length := List.length_map ..
  refine Tr.enter Try.func47 rfl Try.ntmps47 rfl (fun W F => ?_)
  refine Wp.app ?_
  refine Wp.seq ?_
  refine Wp.region ?_
  refine Ops.ef rfl (ef_boxK rfl rfl) ?_
  rintro _ _ ⟨b1, rfl, rfl⟩
  refine Ops.pv (pv_assign rfl) rfl ?_
  refine Ops.nil ?_
  refine Ends.seq ?_
  refine Wp.seq ?_
  refine Wp.region ?_
  refine Ops.pv (pv_assign rfl) rfl ?_
  refine Ops.nil ?_
  refine Ends.seq ?_
  refine Wp.seq ?_
  refine AnyH.start ((b1, .cells [.int .i64 s.1, .int .i64 s.2].toArray 38) :: trBlk tb mb :: mpBlk mb blk T.M clk :: segs (knS blk T kv kH) T.n) 7 rfl ?_
  refine AnyH.take 0 rfl (by kernel_rfl) (by kernel_rfl) (by kernel_rfl) PF.pf rfl (pv_move rfl) rfl ?_
  first | refine AnyH.take 1 rfl (by kernel_rfl) (by kernel_rfl) (by kernel_rfl) PF.pf rfl (pv_nilCheck rfl) rfl ?_ | refine AnyH.take 1 rfl (by kernel_rfl) (by kernel_rfl) (by kernel_rfl) PF.pf rfl (pv_nilCheck_func rfl rfl) rfl ?_
  first | refine AnyH.take 2 rfl (by kernel_rfl) (by kernel_rfl) (by kernel_rfl) PF.pf rfl (pv_fieldAddr0 rfl rfl) rfl ?_ | refine AnyH.take 2 rfl (by kernel_rfl) (by kernel_rfl) (by kernel_rfl) PF.pf rfl (pv_fieldAddr rfl rfl) rfl ?_
  first | refine AnyH.take 3 rfl (by kernel_rfl) (by kernel_rfl) (by kernel_rfl) PF.pf rfl (pv_load rfl rfl rfl) rfl ?_ | refine AnyH.take 3 rfl (by kernel_rfl) (by kernel_rfl) (by kernel_rfl) PF.pf rfl (pv_load rfl rfl (by assumption)) rfl ?_
  refine AnyH.take 4 rfl (by kernel_rfl) (by kernel_rfl) (by kernel_rfl) PF.pf rfl (pv_loadK [_, _] rfl rfl rfl ⟨rfl, rfl, trivial⟩) rfl ?_
  refine AnyH.take 5 rfl (by kernel_rfl) (by kernel_rfl) (by kernel_rfl) PF.pf rfl (pv_lookup_s s rfl rfl hm) rfl ?_
  refine AnyH.take 6 rfl (by kernel_rfl) (by kernel_rfl) (by kernel_rfl) PF.pf rfl (pv_assign rfl) rfl ?_
  refine AnyH.done (by kernel_rfl) ?_
  refine Ends.seq ?_
  refine Wp.seq ?_
  refine Wp.seq ?_
  refine Wp.region ?_
  refine Ops.pv (pv_move rfl) rfl ?_
  refine Ops.pv (pv_eql_nil rfl rfl) rfl ?_
  refine Ops.nil ?_
  refine Ends.seq ?_
  refine Wp.cond_false rfl ?_
  refine Wp.skip ?_
  refine Ends.seq ?_
  refine Wp.seq ?_
  refine Wp.seq ?_
  refine Wp.region ?_
  refine Ops.pv (pv_move rfl) rfl ?_
  first | refine Ops.pv (pv_nilCheck rfl) rfl ?_ | refine Ops.pv (pv_nilCheck_func rfl rfl) rfl ?_
  first | refine Ops.pv (pv_fieldAddr0 rfl rfl) rfl ?_ | refine Ops.pv (pv_fieldAddr rfl rfl) rfl ?_
  first | refine Ops.pv (pv_load rfl rfl rfl) rfl ?_ | refine Ops.pv (pv_load rfl rfl (by assumption)) rfl ?_
  refine Ops.ef rfl (ef_call (tr_clone (segs (knS blk T kv kH) T.n) ka kc ((T.kids i).map blk) hv (by omega)) rfl rfl) ?_
  rintro _ _ ⟨_, _, ⟨J1, hJ1, rfl⟩, rfl, rfl⟩
  refine Ops.app ?_
  refine Ops.pv (pv_assign rfl) rfl ?_
  refine Ops.nil ?_
  refine Ends.seq ?_
  refine Wp.block ?_
  refine Wp.loopK (σ := Value × Hp × Value × Hp × List SlotM × (Fo Nat)) [] (fun s => [(5, s.1), (7, s.2.2.1)]) (fun s => s.2.1 ++ (s.2.2.2.1 ++ (trBlk tb mb :: mpBlk mb blk T.M clk :: (segs (knS blk T kv kH) T.n ++ F)))) (fun s => Slc 38 2 s.1 s.2.2.2.2.1.length (slotsCells s.2.2.2.2.1) s.2.1 ∧ Slc 109 1 s.2.2.1 (s.2.2.2.2.2.roots.map blk).length (ptsC (s.2.2.2.2.2.roots.map blk)) s.2.2.2.1 ∧ Fo.OkK T.kids s.2.2.2.2.2 ∧ (∀ z, z ∈ s.2.2.2.2.2.all → z < T.n) ∧ s.2.2.2.2.1 ++ s.2.2.2.2.2.all.map T.sl = (Fo.sub i Fo0).all.map T.sl ∧ s.2.2.2.2.1.length + s.2.2.2.2.2.all.length ≤ T.n) (fun s => s.2.2.2.2.2.all.length) (.slice none 0 0, [], _, J1, [], Fo.sub i Fo0) ⟨Slc.nil _ _, by rw [← hsr]; exact hJ1, hsk, fun z hz => hT.lt z (Fo.sub_all _ _ z hz), rfl, by simp; omega⟩ trivial ⟨rfl, rfl, trivial⟩ (by intro w ho; (try dsimp only [List.nil_append, List.cons_append]); exact Drop.own ho) ?_
  rintro ⟨u, K, w, J, dn, g⟩ KK ⟨hu, hw, hok, hlt, htot, hgl⟩ hK
  dsimp only [List.cons_append, List.nil_append] at hK ⊢
  dsimp only at hu hw hok hlt htot hgl ⊢
  obtain ⟨wa, wc, rfl⟩ := hw.form
  refine Wp.seq ?_
  refine Wp.seq ?_
  refine Wp.region ?_
  refine Ops.pv (pv_move rfl) rfl ?_
  refine Ops.pv (pv_len_slice (T := 110) rfl rfl) rfl ?_
  refine Ops.pv (pv_gtr rfl rfl) rfl ?_
  refine Ops.nil ?_
  refine Ends.seq ?_
  first | refine Wp.cond_dect rfl (fun h1 => ?_) (fun h1 => ?_) | refine Wp.cond_t rfl (fun h1 => ?_) (fun h1 => ?_)
  · obtain ⟨q, c, r, rfl⟩ := fo_cons (g := g) (blk := blk) (by assumption)
    simp only [Fo.roots, List.map_cons] at hw
    obtain ⟨ok1, ok2, ok3⟩ := hok
    simp only [Fo.all, List.length_cons, List.length_append] at hgl
    have hq := hlt q (by simp [Fo.all])
    have hb_q := kn_blk (blk := blk) (T := T) (kv := kv) (kH := kH) (i := q) hq
    obtain ⟨qa, qc, hqv⟩ := kn_form hk hq
    have hvq := kn_view2 hk hq
    rw [hqv] at hvq hb_q
    rw [ok1] at hvq hb_q
    have hlc := roots_len c
    have hlr := roots_len r
    have hvw := hw.view
    obtain ⟨b, o, cap, cc, T0, f, hv1, hbv, hr⟩ := hvw.open (by simp)
    cases hv1
    have hny := pts_nth (i := 0) hr rfl
    have hpt := hvw.part (i := 1) (j := ((Fo.roots r).map blk).length + 1) (by omega) (by simp)
    have et : (((blk q) :: (Fo.roots r).map blk).drop 1).take (((Fo.roots r).map blk).length + 1 - 1) = (Fo.roots r).map blk := List.take_of_length_le (by simp)
    rw [et] at hpt
    have hcap : ((Fo.roots r).map blk).length + 1 ≤ wc := by obtain ⟨_, _, _, e, h, _⟩ := hvw; cases e; simpa using h
    have hm1 : ((Fo.roots c).map blk).length = (Fo.roots c).length := List.length_map ..
    have hm2 : ((Fo.roots r).map blk).length = (Fo.roots r).length := List.length_map ..
    refine Wp.skip ?_
    refine Ends.seq ?_
    refine Wp.block ?_
    refine Wp.seq ?_
    refine Wp.region ?_
    refine Ops.pv (pv_move rfl) rfl ?_
    refine Ops.pv (pv_indexAddr (i := 0) rfl rfl rfl (by simp [Fo.roots])) rfl ?_
    refine Ops.pv (pv_load rfl rfl hny) rfl ?_
    refine Ops.pv (pv_assign rfl) rfl ?_
    refine Ops.nil ?_
    refine Ends.seq ?_
    refine Wp.seq ?_
    refine Wp.region ?_
    refine Ops.pv (pv_move rfl) rfl ?_
    refine Ops.pv (pv_move rfl) rfl ?_
    first | refine Ops.pv (pv_nilCheck rfl) rfl ?_ | refine Ops.pv (pv_nilCheck_func rfl rfl) rfl ?_
    first | refine Ops.pv (pv_fieldAddr0 rfl rfl) rfl ?_ | refine Ops.pv (pv_fieldAddr rfl rfl) rfl ?_
    refine Ops.pv (pv_loadK [_, _] rfl rfl rfl ⟨rfl, rfl, trivial⟩) rfl ?_
    refine Ops.ef rfl (ef_buildSlice1 (k := 2) rfl rfl rfl rfl rfl) ?_
    rintro _ _ ⟨b2, rfl, rfl⟩
    refine Ops.ef rfl (ef_append (H := K) (xs := slotCells (T.sl q)) rfl hu rfl ⟨rfl, rfl, trivial⟩ rfl rfl rfl (by omega) (by omega) rfl rfl) ?_
    rintro _ _ ⟨u1, K1, hu1, rfl, rfl⟩
    refine Ops.app ?_
    refine Ops.pv (pv_assign rfl) rfl ?_
    refine Ops.nil ?_
    refine Ends.seq ?_
    refine AnyH.start (J ++ (segs (knS blk T kv kH) T.n)) 9 rfl ?_
    refine AnyH.take 0 rfl (by kernel_rfl) (by kernel_rfl) (by kernel_rfl) PF.pf rfl (pv_move rfl) rfl ?_
    first | refine AnyH.take 1 rfl (by kernel_rfl) (by kernel_rfl) (by kernel_rfl) PF.pf rfl (pv_nilCheck rfl) rfl ?_ | refine AnyH.take 1 rfl (by kernel_rfl) (by kernel_rfl) (by kernel_rfl) PF.pf rfl (pv_nilCheck_func rfl rfl) rfl ?_
    first | refine AnyH.take 2 rfl (by kernel_rfl) (by kernel_rfl) (by kernel_rfl) PF.pf rfl (pv_fieldAddr0 rfl rfl) rfl ?_ | refine AnyH.take 2 rfl (by kernel_rfl) (by kernel_rfl) (by kernel_rfl) PF.pf rfl (pv_fieldAddr rfl rfl) rfl ?_
    first | refine AnyH.take 3 rfl (by kernel_rfl) (by kernel_rfl) (by kernel_rfl) PF.pf rfl (pv_load rfl rfl rfl) rfl ?_ | refine AnyH.take 3 rfl (by kernel_rfl) (by kernel_rfl) (by kernel_rfl) PF.pf rfl (pv_load rfl rfl (by assumption)) rfl ?_
    refine AnyH.take 4 rfl (by kernel_rfl) (by kernel_rfl) (by kernel_rfl) PF.pf rfl (pv_move rfl) rfl ?_
    refine AnyH.take 5 rfl (by kernel_rfl) (by kernel_rfl) (by kernel_rfl) PF.pf rfl (pv_sliceL (i := 1) (j := ((Fo.roots r).map blk).length + 1) (r := ((Fo.roots r).map blk).length) rfl ⟨_, rfl⟩ rfl (by omega) hcap (by omega)) rfl ?_
    refine AnyH.one 6 (by kernel_rfl) ?_
    refine Turn.ef rfl rfl (ef_buildSlice2 rfl rfl rfl rfl rfl rfl) ?_ ?_
    · rintro _ _ ⟨b3, rfl, rfl⟩; infer_instance
    rintro _ _ ⟨b3, rfl, rfl⟩
    refine AnyH.one 7 (by kernel_rfl) ?_
    refine Turn.ef rfl rfl (ef_call (tr_concat2 (J ++ (segs (knS blk T kv kH) T.n)) b3 2 _ _ _ _ ((Fo.roots c).map blk) ((Fo.roots r).map blk) (hvq.mono (by intro p hp; exact List.mem_append_right _ hp)) (hpt.mono (by intro p hp; exact List.mem_append_left _ hp)) (by rw [List.length_append]; omega)) rfl rfl) ?_ ?_
    · rintro _ _ ⟨_, _, ⟨J2, hJ2, rfl⟩, rfl, rfl⟩; infer_instance
    rintro _ _ ⟨_, _, ⟨J2, hJ2, rfl⟩, rfl, rfl⟩
    refine AnyH.app ?_
    obtain ⟨xa1, xc1, rfl⟩ := hJ2.form
    refine AnyH.take 8 rfl (by kernel_rfl) (by kernel_rfl) (by kernel_rfl) PF.pf rfl (pv_assign rfl) rfl ?_
    refine AnyH.done (by kernel_rfl) ?_
    refine Ends.block_normal ?_
    refine Ends.goes ?_
    refine Goes.back (hK (u1, K1, _, J2, dn ++ [T.sl q], Fo.app c r) ⟨?_, ?_, Fo.OkK.app ok2 ok3, ?_, ?_, ?_⟩ (by dsimp only; rw [Fo.all_app]; simp only [Fo.all, List.length_cons, List.length_append]; omega)) ⟨rfl, rfl, trivial⟩
    · dsimp only; rw [List.length_append, slotsCells_app]; exact hu1
    · dsimp only; rw [Fo.roots_app, List.map_append]; exact hJ2
    · intro z hz; dsimp only at hz; rw [Fo.all_app] at hz; exact hlt z (by simp only [Fo.all, List.mem_cons]; exact .inr hz)
    · dsimp only; rw [← htot, Fo.all_app]; simp [Fo.all]
    · dsimp only; rw [Fo.all_app, List.length_append, List.length_append]; simp; omega
  · refine Wp.exit ?_
    refine Ends.then_exit ?_
    refine Ends.then_exit ?_
    refine Ends.block_hit ?_
    refine Ends.seq ?_
    refine Wp.seq ?_
    refine Wp.region ?_
    refine Ops.pv (pv_move rfl) rfl ?_
    refine Ops.pv (pv_assign rfl) rfl ?_
    refine Ops.nil ?_
    refine Ends.seq ?_
    refine Wp.ret ?_
    obtain rfl := fo_nil (g := g) (blk := blk) (by assumption)
    simp only [Fo.all, List.map_nil, List.append_nil] at htot
    rw [← htot]
    exact Ends.ret (L' := K ++ (trBlk tb mb :: mpBlk mb blk T.M clk :: segs (knS blk T kv kH) T.n)) (res1 rfl rfl) ⟨K, hu, rfl⟩

theorem tr_tadd_has (tb : Nat) (L : Hp) (T : TreeM) (hH : TrH T tb L) (s : SlotM) (v0 : Value) (i : Nat) (h : tget s T.M = some i) : Tr Try.prog 70 [.pointer (some ⟨tb, 0, none⟩), slotV s, v0] (L) (fun u L' => u = .int .i64 4 ∧ TrH T tb L') := by
  obtain ⟨mb, clk, blk, kv, kH, hk, rfl⟩ := hH
  refine Tr.enter Try.func70 rfl Try.ntmps70 rfl (fun W F => ?_)
  refine Wp.app ?_
  refine Wp.seq ?_
  refine Wp.region ?_
  refine Ops.ef rfl (ef_boxK rfl rfl) ?_
  rintro _ _ ⟨b1, rfl, rfl⟩
  refine Ops.pv (pv_assign rfl) rfl ?_
  refine Ops.nil ?_
  refine Ends.seq ?_
  refine Wp.seq ?_
  refine Wp.seq ?_
  refine Wp.region ?_
  refine Ops.pv (pv_move rfl) rfl ?_
  refine Ops.pv (pv_loadK [_, _] rfl rfl rfl ⟨rfl, rfl, trivial⟩) rfl ?_
  refine Ops.ef rfl (ef_callr ((tr_tHas tb _ T ⟨mb, clk, blk, kv, kH, hk, rfl⟩ s).eq (r' := .bool true) (by simp [h])) rfl rfl) ?_
  rintro _ _ ⟨rfl, rfl⟩
  refine Ops.nil ?_
  refine Ends.seq ?_
  refine Wp.cond_true rfl ?_
  refine Wp.seq ?_
  refine Wp.region ?_
  refine Ops.pv (pv_assign rfl) rfl ?_
  refine Ops.nil ?_
  refine Ends.seq ?_
  refine Wp.ret ?_
  refine Ends.then_ret ?_
  exact Ends.ret (L' := trBlk tb mb :: mpBlk mb blk T.M clk :: segs (knS blk T kv kH) T.n) (res1 rfl rfl) ⟨rfl, mb, clk, blk, kv, kH, hk, rfl⟩

theorem tr_tadd_root (tb : Nat) (L : Hp) (T : TreeM) (hH : TrH T tb L) (hx : T.Ix) (s : SlotM) (h : tget s T.M = none) : Tr Try.prog 70 [.pointer (some ⟨tb, 0, none⟩), slotV s, .pointer none] (L) (fun u L' => u = .int .i64 0 ∧ ∃ t, TrH (T.more s none t) tb L') := by
  obtain ⟨mb, clk, blk, kv, kH, hk, rfl⟩ := hH
  refine Tr.enter Try.func70 rfl Try.ntmps70 rfl (fun W F => ?_)
  refine Wp.app ?_
  refine Wp.seq ?_
  refine Wp.region ?_
  refine Ops.ef rfl (ef_boxK rfl rfl) ?_
  rintro _ _ ⟨b1, rfl, rfl⟩
  refine Ops.pv (pv_assign rfl) rfl ?_
  refine Ops.nil ?_
  refine Ends.seq ?_
  refine Wp.seq ?_
  refine Wp.seq ?_
  refine Wp.region ?_
  refine Ops.pv (pv_move rfl) rfl ?_
  refine Ops.pv (pv_loadK [_, _] rfl rfl rfl ⟨rfl, rfl, trivial⟩) rfl ?_
  refine Ops.ef rfl (ef_callr ((tr_tHas tb _ T ⟨mb, clk, blk, kv, kH, hk, rfl⟩ s).eq (r' := .bool false) (by simp [h])) rfl rfl) ?_
  rintro _ _ ⟨rfl, rfl⟩
  refine Ops.nil ?_
  refine Ends.seq ?_
  refine Wp.cond_false rfl ?_
  refine Wp.skip ?_
  refine Ends.seq ?_
  refine Wp.seq ?_
  refine Wp.region ?_
  refine Ops.pv (pv_loadK [_, _] rfl rfl rfl ⟨rfl, rfl, trivial⟩) rfl ?_
  refine Ops.pv (pv_move rfl) rfl ?_
  refine Ops.pv (pv_build rfl) rfl ?_
  refine Ops.ef rfl (ef_boxK rfl rfl) ?_
  rintro _ _ ⟨b2, rfl, rfl⟩
  refine Ops.pv (pv_assign rfl) rfl ?_
  refine Ops.nil ?_
  refine Ends.seq ?_
  refine Wp.seq ?_
  refine AnyH.start ((b1, .cells [.int .i64 s.1, .int .i64 s.2].toArray 38) :: trBlk tb mb :: []) 7 rfl ?_
  refine AnyH.take 0 rfl (by kernel_rfl) (by kernel_rfl) (by kernel_rfl) PF.pf rfl (pv_move rfl) rfl ?_
  first | refine AnyH.take 1 rfl (by kernel_rfl) (by kernel_rfl) (by kernel_rfl) PF.pf rfl (pv_nilCheck rfl) rfl ?_ | refine AnyH.take 1 rfl (by kernel_rfl) (by kernel_rfl) (by kernel_rfl) PF.pf rfl (pv_nilCheck_func rfl rfl) rfl ?_
  first | refine AnyH.take 2 rfl (by kernel_rfl) (by kernel_rfl) (by kernel_rfl) PF.pf rfl (pv_fieldAddr0 rfl rfl) rfl ?_ | refine AnyH.take 2 rfl (by kernel_rfl) (by kernel_rfl) (by kernel_rfl) PF.pf rfl (pv_fieldAddr rfl rfl) rfl ?_
  first | refine AnyH.take 3 rfl (by kernel_rfl) (by kernel_rfl) (by kernel_rfl) PF.pf rfl (pv_load rfl rfl rfl) rfl ?_ | refine AnyH.take 3 rfl (by kernel_rfl) (by kernel_rfl) (by kernel_rfl) PF.pf rfl (pv_load rfl rfl (by assumption)) rfl ?_
  refine AnyH.take 4 rfl (by kernel_rfl) (by kernel_rfl) (by kernel_rfl) PF.pf rfl (pv_loadK [_, _] rfl rfl rfl ⟨rfl, rfl, trivial⟩) rfl ?_
  refine AnyH.take 5 rfl (by kernel_rfl) (by kernel_rfl) (by kernel_rfl) PF.pf rfl (pv_move rfl) rfl ?_
  refine AnyH.one 6 (by kernel_rfl) ?_
  refine Turn.ef rfl rfl (ef_mapUpdate_s _ rfl rfl rfl) ?_ ?_
  · rintro _ _ ⟨rfl, rfl⟩; infer_instance
  rintro _ _ ⟨rfl, rfl⟩
  refine AnyH.done (by kernel_rfl) ?_
  refine Ends.seq ?_
  refine Wp.seq ?_
  refine Wp.seq ?_
  refine Wp.region ?_
  refine Ops.pv (pv_move rfl) rfl ?_
  refine Ops.pv (pv_neq_nil rfl rfl) rfl ?_
  refine Ops.nil ?_
  refine Ends.seq ?_
  refine Wp.cond_false rfl ?_
  refine Wp.skip ?_
  refine Ends.seq ?_
  refine Wp.seq ?_
  refine Wp.region ?_
  refine Ops.pv (pv_assign rfl) rfl ?_
  refine Ops.nil ?_
  refine Ends.seq ?_
  refine Wp.ret ?_
  rw [tput_new h, tclk_new h]
  refine Ends.heap (L' := trBlk tb mb :: (mb, mapO encS (kvT blk T.M ++ [(s, .pointer (some ⟨b2, 0, none⟩), clk)]) (clk + 1)) :: ((segs (knS blk T kv kH) T.n ++ [(b2, .cells [.int .i64 s.1, .int .i64 s.2, .pointer none, .slice none 0 0].toArray 113)]) ++ F)) (fun w ho => ?_) ?_
  · have h2 : Own W w (trBlk tb mb :: (mb, mapO encS (kvT blk T.M ++ [(s, .pointer (some ⟨b2, 0, none⟩), clk)]) (clk + 1)) :: (segs (knS blk T kv kH) T.n ++ ((b2, .cells [.int .i64 s.1, .int .i64 s.2, .pointer none, .slice none 0 0].toArray 113) :: F))) := Drop.own ho
    rw [List.append_assoc]; exact h2
  rw [← more_root hx (t := clk), ← more_kvT hx]
  exact Ends.ret (L' := trBlk tb mb :: (mb, mapO encS (kvT (fset blk T.n b2) (T.M ++ [(s, T.n, clk)])) (clk + 1)) :: segs (knS (fset blk T.n b2) (T.more s none clk) (fset kv T.n (.slice none 0 0)) (fset kH T.n [])) (T.n + 1)) (res1 rfl rfl) ⟨rfl, clk, mb, clk + 1, fset blk T.n b2, _, _, more_root_ok hx hk, rfl⟩

theorem tr_tadd_child (tb mb clk : Nat) (blk : Nat → Nat) (T : TreeM) (kv : Nat → Value) (kH : Nat → Hp) (hk : kidsOk blk T kv kH) (hx : T.Ix) (hn : T.n ≤ 2 ^ 20) (s : SlotM) (j : Nat) (hj : j < T.n) (h : tget s T.M = none) : Tr Try.prog 70 [.pointer (some ⟨tb, 0, none⟩), slotV s, .pointer (some ⟨blk j, 0, none⟩)] (trBlk tb mb :: mpBlk mb blk T.M clk :: segs (knS blk T kv kH) T.n) (fun u L' => u = .int .i64 0 ∧ ∃ t, TrH (T.more s (some j) t) tb L') := by
  have hkj := hk j hj
  have hsm := hx.small j hj
  refine Tr.enter Try.func70 rfl Try.ntmps70 rfl (fun W F => ?_)
  refine Wp.app ?_
  refine Wp.seq ?_
  refine Wp.region ?_
  refine Ops.ef rfl (ef_boxK rfl rfl) ?_
  rintro _ _ ⟨b1, rfl, rfl⟩
  refine Ops.pv (pv_assign rfl) rfl ?_
  refine Ops.nil ?_
  refine Ends.seq ?_
  refine Wp.seq ?_
  refine Wp.seq ?_
  refine Wp.region ?_
  refine Ops.pv (pv_move rfl) rfl ?_
  refine Ops.pv (pv_loadK [_, _] rfl rfl rfl ⟨rfl, rfl, trivial⟩) rfl ?_
  refine Ops.ef rfl (ef_callr ((tr_tHas tb _ T ⟨mb, clk, blk, kv, kH, hk, rfl⟩ s).eq (r' := .bool false) (by simp [h])) rfl rfl) ?_
  rintro _ _ ⟨rfl, rfl⟩
  refine Ops.nil ?_
  refine Ends.seq ?_
  refine Wp.cond_false rfl ?_
  refine Wp.skip ?_
  refine Ends.seq ?_
  refine Wp.seq ?_
  refine Wp.region ?_
  refine Ops.pv (pv_loadK [_, _] rfl rfl rfl ⟨rfl, rfl, trivial⟩) rfl ?_
  refine Ops.pv (pv_move rfl) rfl ?_
  refine Ops.pv (pv_build rfl) rfl ?_
  refine Ops.ef rfl (ef_boxK rfl rfl) ?_
  rintro _ _ ⟨b2, rfl, rfl⟩
  refine Ops.pv (pv_assign rfl) rfl ?_
  refine Ops.nil ?_
  refine Ends.seq ?_
  refine Wp.seq ?_
  refine AnyH.start ((b1, .cells [.int .i64 s.1, .int .i64 s.2].toArray 38) :: trBlk tb mb :: []) 7 rfl ?_
  refine AnyH.take 0 rfl (by kernel_rfl) (by kernel_rfl) (by kernel_rfl) PF.pf rfl (pv_move rfl) rfl ?_
  first | refine AnyH.take 1 rfl (by kernel_rfl) (by kernel_rfl) (by kernel_rfl) PF.pf rfl (pv_nilCheck rfl) rfl ?_ | refine AnyH.take 1 rfl (by kernel_rfl) (by kernel_rfl) (by kernel_rfl) PF.pf rfl (pv_nilCheck_func rfl rfl) rfl ?_
  first | refine AnyH.take 2 rfl (by kernel_rfl) (by kernel_rfl) (by kernel_rfl) PF.pf rfl (pv_fieldAddr0 rfl rfl) rfl ?_ | refine AnyH.take 2 rfl (by kernel_rfl) (by kernel_rfl) (by kernel_rfl) PF.pf rfl (pv_fieldAddr rfl rfl) rfl ?_
  first | refine AnyH.take 3 rfl (by kernel_rfl) (by kernel_rfl) (by kernel_rfl) PF.pf rfl (pv_load rfl rfl rfl) rfl ?_ | refine AnyH.take 3 rfl (by kernel_rfl) (by kernel_rfl) (by kernel_rfl) PF.pf rfl (pv_load rfl rfl (by assumption)) rfl ?_
  refine AnyH.take 4 rfl (by kernel_rfl) (by kernel_rfl) (by kernel_rfl) PF.pf rfl (pv_loadK [_, _] rfl rfl rfl ⟨rfl, rfl, trivial⟩) rfl ?_
  refine AnyH.take 5 rfl (by kernel_rfl) (by kernel_rfl) (by kernel_rfl) PF.pf rfl (pv_move rfl) rfl ?_
  refine AnyH.one 6 (by kernel_rfl) ?_
  refine Turn.ef rfl rfl (ef_mapUpdate_s _ rfl rfl rfl) ?_ ?_
  · rintro _ _ ⟨rfl, rfl⟩; infer_instance
  rintro _ _ ⟨rfl, rfl⟩
  refine AnyH.done (by kernel_rfl) ?_
  refine Ends.seq ?_
  refine Wp.seq ?_
  refine Wp.seq ?_
  refine Wp.region ?_
  refine Ops.pv (pv_move rfl) rfl ?_
  refine Ops.pv (pv_neq_nil rfl rfl) rfl ?_
  refine Ops.nil ?_
  refine Ends.seq ?_
  refine Wp.cond_true rfl ?_
  refine Wp.region ?_
  rw [tput_new h, tclk_new h]
  refine Ops.openS (knS blk T kv kH) T.n j hj ?_
  dsimp only [knS, List.cons_append]
  refine Ops.pv (pv_move rfl) rfl ?_
  refine Ops.pv (pv_move rfl) rfl ?_
  first | refine Ops.pv (pv_nilCheck rfl) rfl ?_ | refine Ops.pv (pv_nilCheck_func rfl rfl) rfl ?_
  first | refine Ops.pv (pv_fieldAddr0 rfl rfl) rfl ?_ | refine Ops.pv (pv_fieldAddr rfl rfl) rfl ?_
  first | refine Ops.pv (pv_load rfl rfl rfl) rfl ?_ | refine Ops.pv (pv_load rfl rfl (by assumption)) rfl ?_
  refine Ops.pv (pv_move rfl) rfl ?_
  refine Ops.ef rfl (ef_buildSlice1 (k := 1) rfl rfl rfl rfl rfl) ?_
  rintro _ _ ⟨b3, rfl, rfl⟩
  refine Ops.ef rfl (ef_append (H := kH j) (xs := [.pointer (some ⟨b2, 0, none⟩)]) rfl hkj rfl ⟨rfl, trivial⟩ rfl rfl rfl (by omega) (by omega) rfl rfl) ?_
  rintro _ _ ⟨u1, H1, hu1, rfl, rfl⟩
  refine Ops.app ?_
  have ho1 := hu1.one
  have ho2 := hu1.cells1
  first | refine Ops.pv (pv_nilCheck rfl) rfl ?_ | refine Ops.pv (pv_nilCheck_func rfl rfl) rfl ?_
  first | refine Ops.pv (pv_fieldAddr0 rfl rfl) rfl ?_ | refine Ops.pv (pv_fieldAddr rfl rfl) rfl ?_
  refine Ops.ef rfl (ef_store1 rfl rfl (by first | rfl | assumption) (by first | rfl | assumption)) ?_
  rintro _ _ ⟨rfl, rfl⟩
  refine Ops.nil ?_
  refine Ends.seq ?_
  refine Wp.seq ?_
  refine Wp.region ?_
  refine Ops.pv (pv_assign rfl) rfl ?_
  refine Ops.nil ?_
  refine Ends.seq ?_
  refine Wp.ret ?_
  refine Ends.closeS (knS blk T kv kH) T.n j ((blk j, .cells [.int .i64 (T.sl j).1, .int .i64 (T.sl j).2, ptrO blk (T.par j), u1].toArray 113) :: H1) hj ?_
  refine Ends.heap (L' := trBlk tb mb :: (mb, mapO encS (kvT blk T.M ++ [(s, .pointer (some ⟨b2, 0, none⟩), clk)]) (clk + 1)) :: ((segs (fset (knS blk T kv kH) j ((blk j, .cells [.int .i64 (T.sl j).1, .int .i64 (T.sl j).2, ptrO blk (T.par j), u1].toArray 113) :: H1)) T.n ++ [(b2, .cells [.int .i64 s.1, .int .i64 s.2, .pointer (some ⟨blk j, 0, none⟩), .slice none 0 0].toArray 113)]) ++ F)) (fun w ho => ?_) ?_
  · have h2 : Own W w (trBlk tb mb :: (mb, mapO encS (kvT blk T.M ++ [(s, .pointer (some ⟨b2, 0, none⟩), clk)]) (clk + 1)) :: (segs (fset (knS blk T kv kH) j ((blk j, .cells [.int .i64 (T.sl j).1, .int .i64 (T.sl j).2, ptrO blk (T.par j), u1].toArray 113) :: H1)) T.n ++ ((b2, .cells [.int .i64 s.1, .int .i64 s.2, .pointer (some ⟨blk j, 0, none⟩), .slice none 0 0].toArray 113) :: F))) := Drop.own ho
    rw [List.append_assoc]; exact h2
  rw [← more_child hx (t := clk) hj, ← more_kvT hx]
  exact Ends.ret (L' := trBlk tb mb :: (mb, mapO encS (kvT (fset blk T.n b2) (T.M ++ [(s, T.n, clk)])) (clk + 1)) :: segs (knS (fset blk T.n b2) (T.more s (some j) clk) (fset (fset kv T.n (.slice none 0 0)) j u1) (fset (fset kH T.n []) j H1)) (T.n + 1)) (res1 rfl rfl) ⟨rfl, clk, mb, clk + 1, fset blk T.n b2, _, _, more_child_ok hx hk hj hu1, rfl⟩

theorem tr_taddR (tb : Nat) (L : Hp) (T : TreeM) (hH : TrH T tb L) (hx : T.Ix) (s : SlotM) : Tr Try.prog 70 [.pointer (some ⟨tb, 0, none⟩), slotV s, .pointer none] L (fun u L' => ∃ e T', u = .int .i64 e ∧ TAdd T s none e T' ∧ TrH T' tb L') := by
  cases h : tget s T.M with
  | none => exact (tr_tadd_root tb L T hH hx s h).mono fun u L' ⟨hu, t, hl⟩ => ⟨0, _, hu, .inr ⟨h, rfl, t, rfl⟩, hl⟩
  | some i => exact (tr_tadd_has tb L T hH s (.pointer none) i h).mono fun u L' ⟨hu, hl⟩ => ⟨4, T, hu, .inl ⟨i, h, rfl, rfl⟩, hl⟩
theorem tr_taddC (tb mb clk : Nat) (blk : Nat → Nat) (T : TreeM) (kv : Nat → Value) (kH : Nat → Hp) (hk : kidsOk blk T kv kH) (hx : T.Ix) (hn : T.n ≤ 2 ^ 20) (s : SlotM) (j : Nat) (hj : j < T.n) :
    Tr Try.prog 70 [.pointer (some ⟨tb, 0, none⟩), slotV s, .pointer (some ⟨blk j, 0, none⟩)] (trBlk tb mb :: mpBlk mb blk T.M clk :: segs (knS blk T kv kH) T.n) (fun u L' => ∃ e T', u = .int .i64 e ∧ TAdd T s (some j) e T' ∧ TrH T' tb L') := by
  cases h : tget s T.M with
  | none => exact (tr_tadd_child tb mb clk blk T kv kH hk hx hn s j hj h).mono fun u L' ⟨hu, t, hl⟩ => ⟨0, _, hu, .inr ⟨h, rfl, t, rfl⟩, hl⟩
  | some i => exact (tr_tadd_has tb _ T ⟨mb, clk, blk, kv, kH, hk, rfl⟩ s (.pointer (some ⟨blk j, 0, none⟩)) i h).mono fun u L' ⟨hu, hl⟩ => ⟨4, T, hu, .inl ⟨i, h, rfl, rfl⟩, hl⟩

theorem tr_tRoot (tb : Nat) (L : Hp) (T : TreeM) (hH : TrH T tb L) (hx : T.Ix) (s : SlotM) : Tr Try.prog 46 [.pointer (some ⟨tb, 0, none⟩), slotV s] (L) (fun u L' => ∃ e T', u = .int .i64 e ∧ TAdd T s none e T' ∧ TrH T' tb L') := by
  refine Tr.enter Try.func46 rfl Try.ntmps46 rfl (fun W F => ?_)
  refine Wp.app ?_
  refine Wp.seq ?_
  refine Wp.region ?_
  refine Ops.ef rfl (ef_boxK rfl rfl) ?_
  rintro _ _ ⟨b1, rfl, rfl⟩
  refine Ops.pv (pv_assign rfl) rfl ?_
  refine Ops.nil ?_
  refine Ends.seq ?_
  refine Wp.seq ?_
  refine Wp.region ?_
  refine Ops.pv (pv_move rfl) rfl ?_
  refine Ops.pv (pv_loadK [_, _] rfl rfl rfl ⟨rfl, rfl, trivial⟩) rfl ?_
  refine Ops.ef rfl (ef_call (tr_taddR tb L T hH hx s) rfl rfl) ?_
  rintro _ _ ⟨_, Q1, ⟨e1, T1, rfl, ha1, hH1⟩, rfl, rfl⟩
  refine Ops.app ?_
  skip
  refine Ops.pv (pv_assign rfl) rfl ?_
  refine Ops.nil ?_
  refine Ends.seq ?_
  refine Wp.ret ?_
  exact Ends.ret (L' := Q1) (res1 rfl rfl) ⟨e1, T1, rfl, ha1, hH1⟩

theorem tr_tChild0 (tb : Nat) (L : Hp) (T : TreeM) (hH : TrH T tb L) (o s : SlotM) (h : tget o T.M = none) : Tr Try.prog 55 [.pointer (some ⟨tb, 0, none⟩), slotV o, slotV s] (L) (fun u L' => u = .int .i64 3 ∧ TrH T tb L') := by
  obtain ⟨mb, clk, blk, kv, kH, hk, rfl⟩ := hH
  have hm := tptr_hm blk T.M o
  rw [tptr_no h] at hm
  refine Tr.enter Try.func55 rfl Try.ntmps55 rfl (fun W F => ?_)
  refine Wp.app ?_
  refine Wp.seq ?_
  refine Wp.region ?_
  refine Ops.ef rfl (ef_boxK rfl rfl) ?_
  rintro _ _ ⟨b1, rfl, rfl⟩
  refine Ops.ef rfl (ef_boxK rfl rfl) ?_
  rintro _ _ ⟨b2, rfl, rfl⟩
  refine Ops.pv (pv_assign rfl) rfl ?_
  refine Ops.nil ?_
  refine Ends.seq ?_
  refine Wp.seq ?_
  refine AnyH.start ((b1, .cells [.int .i64 o.1, .int .i64 o.2].toArray 38) :: trBlk tb mb :: mpBlk mb blk T.M clk :: segs (knS blk T kv kH) T.n) 7 rfl ?_
  refine AnyH.take 0 rfl (by kernel_rfl) (by kernel_rfl) (by kernel_rfl) PF.pf rfl (pv_move rfl) rfl ?_
  first | refine AnyH.take 1 rfl (by kernel_rfl) (by kernel_rfl) (by kernel_rfl) PF.pf rfl (pv_nilCheck rfl) rfl ?_ | refine AnyH.take 1 rfl (by kernel_rfl) (by kernel_rfl) (by kernel_rfl) PF.pf rfl (pv_nilCheck_func rfl rfl) rfl ?_
  first | refine AnyH.take 2 rfl (by kernel_rfl) (by kernel_rfl) (by kernel_rfl) PF.pf rfl (pv_fieldAddr0 rfl rfl) rfl ?_ | refine AnyH.take 2 rfl (by kernel_rfl) (by kernel_rfl) (by kernel_rfl) PF.pf rfl (pv_fieldAddr rfl rfl) rfl ?_
  first | refine AnyH.take 3 rfl (by kernel_rfl) (by kernel_rfl) (by kernel_rfl) PF.pf rfl (pv_load rfl rfl rfl) rfl ?_ | refine AnyH.take 3 rfl (by kernel_rfl) (by kernel_rfl) (by kernel_rfl) PF.pf rfl (pv_load rfl rfl (by assumption)) rfl ?_
  refine AnyH.take 4 rfl (by kernel_rfl) (by kernel_rfl) (by kernel_rfl) PF.pf rfl (pv_loadK [_, _] rfl rfl rfl ⟨rfl, rfl, trivial⟩) rfl ?_
  refine AnyH.take 5 rfl (by kernel_rfl) (by kernel_rfl) (by kernel_rfl) PF.pf rfl (pv_lookup_s o rfl rfl hm) rfl ?_
  refine AnyH.take 6 rfl (by kernel_rfl) (by kernel_rfl) (by kernel_rfl) PF.pf rfl (pv_assign rfl) rfl ?_
  refine AnyH.done (by kernel_rfl) ?_
  refine Ends.seq ?_
  refine Wp.seq ?_
  refine Wp.seq ?_
  refine Wp.region ?_
  refine Ops.pv (pv_move rfl) rfl ?_
  refine Ops.pv (pv_eql_nil rfl rfl) rfl ?_
  refine Ops.nil ?_
  refine Ends.seq ?_
  refine Wp.cond_true rfl ?_
  refine Wp.seq ?_
  refine Wp.region ?_
  refine Ops.pv (pv_assign rfl) rfl ?_
  refine Ops.nil ?_
  refine Ends.seq ?_
  refine Wp.ret ?_
  refine Ends.then_ret ?_
  exact Ends.ret (L' := trBlk tb mb :: mpBlk mb blk T.M clk :: segs (knS blk T kv kH) T.n) (res1 rfl rfl) ⟨rfl, mb, clk, blk, kv, kH, hk, rfl⟩

theorem tr_tChild1 (tb : Nat) (L : Hp) (T : TreeM) (hH : TrH T tb L) (hx : T.Ix) (hn : T.n ≤ 2 ^ 20) (o s : SlotM) (j : Nat) (h : tget o T.M = some j) : Tr Try.prog 55 [.pointer (some ⟨tb, 0, none⟩), slotV o, slotV s] (L) (fun u L' => ∃ e T', u = .int .i64 e ∧ TAdd T s (some j) e T' ∧ TrH T' tb L') := by
  obtain ⟨mb, clk, blk, kv, kH, hk, rfl⟩ := hH
  have hm := tptr_hm blk T.M o
  rw [tptr_some h] at hm
  have hj := hx.get h
  refine Tr.enter Try.func55 rfl Try.ntmps55 rfl (fun W F => ?_)
  refine Wp.app ?_
  refine Wp.seq ?_
  refine Wp.region ?_
  refine Ops.ef rfl (ef_boxK rfl rfl) ?_
  rintro _ _ ⟨b1, rfl, rfl⟩
  refine Ops.ef rfl (ef_boxK rfl rfl) ?_
  rintro _ _ ⟨b2, rfl, rfl⟩
  refine Ops.pv (pv_assign rfl) rfl ?_
  refine Ops.nil ?_
  refine Ends.seq ?_
  refine Wp.seq ?_
  refine AnyH.start ((b1, .cells [.int .i64 o.1, .int .i64 o.2].toArray 38) :: trBlk tb mb :: mpBlk mb blk T.M clk :: segs (knS blk T kv kH) T.n) 7 rfl ?_
  refine AnyH.take 0 rfl (by kernel_rfl) (by kernel_rfl) (by kernel_rfl) PF.pf rfl (pv_move rfl) rfl ?_
  first | refine AnyH.take 1 rfl (by kernel_rfl) (by kernel_rfl) (by kernel_rfl) PF.pf rfl (pv_nilCheck rfl) rfl ?_ | refine AnyH.take 1 rfl (by kernel_rfl) (by kernel_rfl) (by kernel_rfl) PF.pf rfl (pv_nilCheck_func rfl rfl) rfl ?_
  first | refine AnyH.take 2 rfl (by kernel_rfl) (by kernel_rfl) (by kernel_rfl) PF.pf rfl (pv_fieldAddr0 rfl rfl) rfl ?_ | refine AnyH.take 2 rfl (by kernel_rfl) (by kernel_rfl) (by kernel_rfl) PF.pf rfl (pv_fieldAddr rfl rfl) rfl ?_
  first | refine AnyH.take 3 rfl (by kernel_rfl) (by kernel_rfl) (by kernel_rfl) PF.pf rfl (pv_load rfl rfl rfl) rfl ?_ | refine AnyH.take 3 rfl (by kernel_rfl) (by kernel_rfl) (by kernel_rfl) PF.pf rfl (pv_load rfl rfl (by assumption)) rfl ?_
  refine AnyH.take 4 rfl (by kernel_rfl) (by kernel_rfl) (by kernel_rfl) PF.pf rfl (pv_loadK [_, _] rfl rfl rfl ⟨rfl, rfl, trivial⟩) rfl ?_
  refine AnyH.take 5 rfl (by kernel_rfl) (by kernel_rfl) (by kernel_rfl) PF.pf rfl (pv_lookup_s o rfl rfl hm) rfl ?_
  refine AnyH.take 6 rfl (by kernel_rfl) (by kernel_rfl) (by kernel_rfl) PF.pf rfl (pv_assign rfl) rfl ?_
  refine AnyH.done (by kernel_rfl) ?_
  refine Ends.seq ?_
  refine Wp.seq ?_
  refine Wp.seq ?_
  refine Wp.region ?_
  refine Ops.pv (pv_move rfl) rfl ?_
  refine Ops.pv (pv_eql_nil rfl rfl) rfl ?_
  refine Ops.nil ?_
  refine Ends.seq ?_
  refine Wp.cond_false rfl ?_
  refine Wp.skip ?_
  refine Ends.seq ?_
  refine Wp.seq ?_
  refine Wp.region ?_
  refine Ops.pv (pv_move rfl) rfl ?_
  refine Ops.pv (pv_loadK [_, _] rfl rfl rfl ⟨rfl, rfl, trivial⟩) rfl ?_
  refine Ops.pv (pv_move rfl) rfl ?_
  refine Ops.ef rfl (ef_call (tr_taddC tb mb clk blk T kv kH hk hx hn s j hj) rfl rfl) ?_
  rintro _ _ ⟨_, Q1, ⟨e1, T1, rfl, ha1, hH1⟩, rfl, rfl⟩
  refine Ops.app ?_
  skip
  refine Ops.pv (pv_assign rfl) rfl ?_
  refine Ops.nil ?_
  refine Ends.seq ?_
  refine Wp.ret ?_
  exact Ends.ret (L' := Q1) (res1 rfl rfl) ⟨e1, T1, rfl, ha1, hH1⟩

theorem tr_tChild (tb : Nat) (L : Hp) (T : TreeM) (hH : TrH T tb L) (hx : T.Ix) (hn : T.n ≤ 2 ^ 20) (o s : SlotM) : Tr Try.prog 55 [.pointer (some ⟨tb, 0, none⟩), slotV o, slotV s] L (fun u L' => ∃ e T', u = .int .i64 e ∧ TChild T o s e T' ∧ TrH T' tb L') := by
  cases h : tget o T.M with
  | none => exact (tr_tChild0 tb L T hH o s h).mono fun u L' ⟨hu, hl⟩ => ⟨3, T, hu, .inl ⟨h, rfl, rfl⟩, hl⟩
  | some j => exact (tr_tChild1 tb L T hH hx hn o s j h).mono fun u L' ⟨e, T', hu, ha, hl⟩ => ⟨e, T', hu, .inr ⟨j, h, ha⟩, hl⟩

theorem tr_tMove0 (tb : Nat) (L : Hp) (T : TreeM) (hH : TrH T tb L) (o s : SlotM) (h : tget o T.M = none) : Tr Try.prog 54 [.pointer (some ⟨tb, 0, none⟩), slotV o, slotV s] (L) (fun u L' => u = .int .i64 3 ∧ TrH T tb L') := by
  obtain ⟨mb, clk, blk, kv, kH, hk, rfl⟩ := hH
  have hm := tptr_hm blk T.M o
  rw [tptr_no h] at hm
  refine Tr.enter Try.func54 rfl Try.ntmps54 rfl (fun W F => ?_)
  refine Wp.app ?_
  refine Wp.seq ?_
  refine Wp.region ?_
  refine Ops.ef rfl (ef_boxK rfl rfl) ?_
  rintro _ _ ⟨b1, rfl, rfl⟩
  refine Ops.ef rfl (ef_boxK rfl rfl) ?_
  rintro _ _ ⟨b2, rfl, rfl⟩
  refine Ops.pv (pv_assign rfl) rfl ?_
  refine Ops.nil ?_
  refine Ends.seq ?_
  refine Wp.seq ?_
  refine AnyH.start ((b1, .cells [.int .i64 o.1, .int .i64 o.2].toArray 38) :: trBlk tb mb :: mpBlk mb blk T.M clk :: segs (knS blk T kv kH) T.n) 7 rfl ?_
  refine AnyH.take 0 rfl (by kernel_rfl) (by kernel_rfl) (by kernel_rfl) PF.pf rfl (pv_move rfl) rfl ?_
  first | refine AnyH.take 1 rfl (by kernel_rfl) (by kernel_rfl) (by kernel_rfl) PF.pf rfl (pv_nilCheck rfl) rfl ?_ | refine AnyH.take 1 rfl (by kernel_rfl) (by kernel_rfl) (by kernel_rfl) PF.pf rfl (pv_nilCheck_func rfl rfl) rfl ?_
  first | refine AnyH.take 2 rfl (by kernel_rfl) (by kernel_rfl) (by kernel_rfl) PF.pf rfl (pv_fieldAddr0 rfl rfl) rfl ?_ | refine AnyH.take 2 rfl (by kernel_rfl) (by kernel_rfl) (by kernel_rfl) PF.pf rfl (pv_fieldAddr rfl rfl) rfl ?_
  first | refine AnyH.take 3 rfl (by kernel_rfl) (by kernel_rfl) (by kernel_rfl) PF.pf rfl (pv_load rfl rfl rfl) rfl ?_ | refine AnyH.take 3 rfl (by kernel_rfl) (by kernel_rfl) (by kernel_rfl) PF.pf rfl (pv_load rfl rfl (by assumption)) rfl ?_
  refine AnyH.take 4 rfl (by kernel_rfl) (by kernel_rfl) (by kernel_rfl) PF.pf rfl (pv_loadK [_, _] rfl rfl rfl ⟨rfl, rfl, trivial⟩) rfl ?_
  refine AnyH.take 5 rfl (by kernel_rfl) (by kernel_rfl) (by kernel_rfl) PF.pf rfl (pv_lookup_s o rfl rfl hm) rfl ?_
  refine AnyH.take 6 rfl (by kernel_rfl) (by kernel_rfl) (by kernel_rfl) PF.pf rfl (pv_assign rfl) rfl ?_
  refine AnyH.done (by kernel_rfl) ?_
  refine Ends.seq ?_
  refine Wp.seq ?_
  refine Wp.block ?_
  refine Wp.seq ?_
  refine Wp.region ?_
  refine Ops.pv (pv_move rfl) rfl ?_
  refine Ops.pv (pv_eql_nil rfl rfl) rfl ?_
  refine Ops.pv (pv_assign rfl) rfl ?_
  refine Ops.nil ?_
  refine Ends.seq ?_
  refine Wp.cond_true rfl ?_
  refine Wp.seq ?_
  refine Wp.region ?_
  refine Ops.pv (pv_assign rfl) rfl ?_
  refine Ops.nil ?_
  refine Ends.seq ?_
  refine Wp.ret ?_
  refine Ends.block_ret ?_
  refine Ends.then_ret ?_
  exact Ends.ret (L' := trBlk tb mb :: mpBlk mb blk T.M clk :: segs (knS blk T kv kH) T.n) (res1 rfl rfl) ⟨rfl, mb, clk, blk, kv, kH, hk, rfl⟩

theorem tr_tMove1 (tb : Nat) (L : Hp) (T : TreeM) (hH : TrH T tb L) (hx : T.Ix) (o s : SlotM) (i j : Nat) (h : tget o T.M = some i) (h2 : tget s T.M = some j) : Tr Try.prog 54 [.pointer (some ⟨tb, 0, none⟩), slotV o, slotV s] (L) (fun u L' => u = .int .i64 4 ∧ TrH T tb L') := by
  obtain ⟨mb, clk, blk, kv, kH, hk, rfl⟩ := hH
  have hm := tptr_hm blk T.M o
  rw [tptr_some h] at hm
  refine Tr.enter Try.func54 rfl Try.ntmps54 rfl (fun W F => ?_)
  refine Wp.app ?_
  refine Wp.seq ?_
  refine Wp.region ?_
  refine Ops.ef rfl (ef_boxK rfl rfl) ?_
  rintro _ _ ⟨b1, rfl, rfl⟩
  refine Ops.ef rfl (ef_boxK rfl rfl) ?_
  rintro _ _ ⟨b2, rfl, rfl⟩
  refine Ops.pv (pv_assign rfl) rfl ?_
  refine Ops.nil ?_
  refine Ends.seq ?_
  refine Wp.seq ?_
  refine AnyH.start ((b1, .cells [.int .i64 o.1, .int .i64 o.2].toArray 38) :: trBlk tb mb :: mpBlk mb blk T.M clk :: segs (knS blk T kv kH) T.n) 7 rfl ?_
  refine AnyH.take 0 rfl (by kernel_rfl) (by kernel_rfl) (by kernel_rfl) PF.pf rfl (pv_move rfl) rfl ?_
  first | refine AnyH.take 1 rfl (by kernel_rfl) (by kernel_rfl) (by kernel_rfl) PF.pf rfl (pv_nilCheck rfl) rfl ?_ | refine AnyH.take 1 rfl (by kernel_rfl) (by kernel_rfl) (by kernel_rfl) PF.pf rfl (pv_nilCheck_func rfl rfl) rfl ?_
  first | refine AnyH.take 2 rfl (by kernel_rfl) (by kernel_rfl) (by kernel_rfl) PF.pf rfl (pv_fieldAddr0 rfl rfl) rfl ?_ | refine AnyH.take 2 rfl (by kernel_rfl) (by kernel_rfl) (by kernel_rfl) PF.pf rfl (pv_fieldAddr rfl rfl) rfl ?_
  first | refine AnyH.take 3 rfl (by kernel_rfl) (by kernel_rfl) (by kernel_rfl) PF.pf rfl (pv_load rfl rfl rfl) rfl ?_ | refine AnyH.take 3 rfl (by kernel_rfl) (by kernel_rfl) (by kernel_rfl) PF.pf rfl (pv_load rfl rfl (by assumption)) rfl ?_
  refine AnyH.take 4 rfl (by kernel_rfl) (by kernel_rfl) (by kernel_rfl) PF.pf rfl (pv_loadK [_, _] rfl rfl rfl ⟨rfl, rfl, trivial⟩) rfl ?_
  refine AnyH.take 5 rfl (by kernel_rfl) (by kernel_rfl) (by kernel_rfl) PF.pf rfl (pv_lookup_s o rfl rfl hm) rfl ?_
  refine AnyH.take 6 rfl (by kernel_rfl) (by kernel_rfl) (by kernel_rfl) PF.pf rfl (pv_assign rfl) rfl ?_
  refine AnyH.done (by kernel_rfl) ?_
  refine Ends.seq ?_
  refine Wp.seq ?_
  refine Wp.block ?_
  refine Wp.seq ?_
  refine Wp.region ?_
  refine Ops.pv (pv_move rfl) rfl ?_
  refine Ops.pv (pv_eql_nil rfl rfl) rfl ?_
  refine Ops.pv (pv_assign rfl) rfl ?_
  refine Ops.nil ?_
  refine Ends.seq ?_
  refine Wp.cond_false rfl ?_
  refine Wp.seq ?_
  refine Wp.region ?_
  refine Ops.pv (pv_move rfl) rfl ?_
  refine Ops.pv (pv_loadK [_, _] rfl rfl rfl ⟨rfl, rfl, trivial⟩) rfl ?_
  refine Ops.ef rfl (ef_callr ((tr_tHas tb _ T ⟨mb, clk, blk, kv, kH, hk, rfl⟩ s).eq (r' := .bool true) (by simp [h2])) rfl rfl) ?_
  rintro _ _ ⟨rfl, rfl⟩
  refine Ops.pv (pv_assign rfl) rfl ?_
  refine Ops.nil ?_
  refine Ends.seq ?_
  refine Wp.cond_true rfl ?_
  refine Wp.seq ?_
  refine Wp.region ?_
  refine Ops.pv (pv_assign rfl) rfl ?_
  refine Ops.nil ?_
  refine Ends.seq ?_
  refine Wp.ret ?_
  refine Ends.block_ret ?_
  refine Ends.then_ret ?_
  exact Ends.ret (L' := trBlk tb mb :: mpBlk mb blk T.M clk :: segs (knS blk T kv kH) T.n) (res1 rfl rfl) ⟨rfl, mb, clk, blk, kv, kH, hk, rfl⟩

theorem tr_tMove2 (tb : Nat) (L : Hp) (T : TreeM) (hH : TrH T tb L) (hx : T.Ix) (o s : SlotM) (i : Nat) (h : tget o T.M = some i) (h2 : tget s T.M = none) : Tr Try.prog 54 [.pointer (some ⟨tb, 0, none⟩), slotV o, slotV s] (L) (fun u L' => u = .int .i64 0 ∧ ∃ t, TrH (T.moved o s i t) tb L') := by
  obtain ⟨mb, clk, blk, kv, kH, hk, rfl⟩ := hH
  have hm := tptr_hm blk T.M o
  rw [tptr_some h] at hm
  have hi := hx.get h
  have hb_i := kn_blk (blk := blk) (T := T) (kv := kv) (kH := kH) (i := i) hi
  have hupd := fun o1 => segs_upd (h := knS blk T kv kH) (o' := o1) hi rfl
  refine Tr.enter Try.func54 rfl Try.ntmps54 rfl (fun W F => ?_)
  refine Wp.app ?_
  refine Wp.seq ?_
  refine Wp.region ?_
  refine Ops.ef rfl (ef_boxK rfl rfl) ?_
  rintro _ _ ⟨b1, rfl, rfl⟩
  refine Ops.ef rfl (ef_boxK rfl rfl) ?_
  rintro _ _ ⟨b2, rfl, rfl⟩
  refine Ops.pv (pv_assign rfl) rfl ?_
  refine Ops.nil ?_
  refine Ends.seq ?_
  refine Wp.seq ?_
  refine AnyH.start ((b1, .cells [.int .i64 o.1, .int .i64 o.2].toArray 38) :: trBlk tb mb :: mpBlk mb blk T.M clk :: segs (knS blk T kv kH) T.n) 7 rfl ?_
  refine AnyH.take 0 rfl (by kernel_rfl) (by kernel_rfl) (by kernel_rfl) PF.pf rfl (pv_move rfl) rfl ?_
  first | refine AnyH.take 1 rfl (by kernel_rfl) (by kernel_rfl) (by kernel_rfl) PF.pf rfl (pv_nilCheck rfl) rfl ?_ | refine AnyH.take 1 rfl (by kernel_rfl) (by kernel_rfl) (by kernel_rfl) PF.pf rfl (pv_nilCheck_func rfl rfl) rfl ?_
  first | refine AnyH.take 2 rfl (by kernel_rfl) (by kernel_rfl) (by kernel_rfl) PF.pf rfl (pv_fieldAddr0 rfl rfl) rfl ?_ | refine AnyH.take 2 rfl (by kernel_rfl) (by kernel_rfl) (by kernel_rfl) PF.pf rfl (pv_fieldAddr rfl rfl) rfl ?_
  first | refine AnyH.take 3 rfl (by kernel_rfl) (by kernel_rfl) (by kernel_rfl) PF.pf rfl (pv_load rfl rfl rfl) rfl ?_ | refine AnyH.take 3 rfl (by kernel_rfl) (by kernel_rfl) (by kernel_rfl) PF.pf rfl (pv_load rfl rfl (by assumption)) rfl ?_
  refine AnyH.take 4 rfl (by kernel_rfl) (by kernel_rfl) (by kernel_rfl) PF.pf rfl (pv_loadK [_, _] rfl rfl rfl ⟨rfl, rfl, trivial⟩) rfl ?_
  refine AnyH.take 5 rfl (by kernel_rfl) (by kernel_rfl) (by kernel_rfl) PF.pf rfl (pv_lookup_s o rfl rfl hm) rfl ?_
  refine AnyH.take 6 rfl (by kernel_rfl) (by kernel_rfl) (by kernel_rfl) PF.pf rfl (pv_assign rfl) rfl ?_
  refine AnyH.done (by kernel_rfl) ?_
  refine Ends.seq ?_
  refine Wp.seq ?_
  refine Wp.block ?_
  refine Wp.seq ?_
  refine Wp.region ?_
  refine Ops.pv (pv_move rfl) rfl ?_
  refine Ops.pv (pv_eql_nil rfl rfl) rfl ?_
  refine Ops.pv (pv_assign rfl) rfl ?_
  refine Ops.nil ?_
  refine Ends.seq ?_
  refine Wp.cond_false rfl ?_
  refine Wp.seq ?_
  refine Wp.region ?_
  refine Ops.pv (pv_move rfl) rfl ?_
  refine Ops.pv (pv_loadK [_, _] rfl rfl rfl ⟨rfl, rfl, trivial⟩) rfl ?_
  refine Ops.ef rfl (ef_callr ((tr_tHas tb _ T ⟨mb, clk, blk, kv, kH, hk, rfl⟩ s).eq (r' := .bool false) (by simp [h2])) rfl rfl) ?_
  rintro _ _ ⟨rfl, rfl⟩
  refine Ops.pv (pv_assign rfl) rfl ?_
  refine Ops.nil ?_
  refine Ends.seq ?_
  refine Wp.cond_false rfl ?_
  refine Wp.skip ?_
  refine Ends.block_normal ?_
  refine Ends.seq ?_
  refine Wp.seq ?_
  refine AnyH.start ((b1, .cells [.int .i64 o.1, .int .i64 o.2].toArray 38) :: trBlk tb mb :: []) 6 rfl ?_
  refine AnyH.take 0 rfl (by kernel_rfl) (by kernel_rfl) (by kernel_rfl) PF.pf rfl (pv_move rfl) rfl ?_
  first | refine AnyH.take 1 rfl (by kernel_rfl) (by kernel_rfl) (by kernel_rfl) PF.pf rfl (pv_nilCheck rfl) rfl ?_ | refine AnyH.take 1 rfl (by kernel_rfl) (by kernel_rfl) (by kernel_rfl) PF.pf rfl (pv_nilCheck_func rfl rfl) rfl ?_
  first | refine AnyH.take 2 rfl (by kernel_rfl) (by kernel_rfl) (by kernel_rfl) PF.pf rfl (pv_fieldAddr0 rfl rfl) rfl ?_ | refine AnyH.take 2 rfl (by kernel_rfl) (by kernel_rfl) (by kernel_rfl) PF.pf rfl (pv_fieldAddr rfl rfl) rfl ?_
  first | refine AnyH.take 3 rfl (by kernel_rfl) (by kernel_rfl) (by kernel_rfl) PF.pf rfl (pv_load rfl rfl rfl) rfl ?_ | refine AnyH.take 3 rfl (by kernel_rfl) (by kernel_rfl) (by kernel_rfl) PF.pf rfl (pv_load rfl rfl (by assumption)) rfl ?_
  refine AnyH.take 4 rfl (by kernel_rfl) (by kernel_rfl) (by kernel_rfl) PF.pf rfl (pv_loadK [_, _] rfl rfl rfl ⟨rfl, rfl, trivial⟩) rfl ?_
  refine AnyH.one 5 (by kernel_rfl) ?_
  refine Turn.ef rfl rfl (ef_deleten_s (T := 105) _ rfl rfl rfl) ?_ ?_
  · rintro _ _ ⟨rfl, rfl⟩; infer_instance
  rintro _ _ ⟨rfl, rfl⟩
  refine AnyH.done (by kernel_rfl) ?_
  refine Ends.seq ?_
  refine Wp.seq ?_
  refine Wp.region ?_
  refine Ops.pv (pv_move rfl) rfl ?_
  refine Ops.pv (pv_loadK [_, _] rfl rfl rfl ⟨rfl, rfl, trivial⟩) rfl ?_
  first | refine Ops.pv (pv_nilCheck rfl) rfl ?_ | refine Ops.pv (pv_nilCheck_func rfl rfl) rfl ?_
  first | refine Ops.pv (pv_fieldAddr0 rfl rfl) rfl ?_ | refine Ops.pv (pv_fieldAddr rfl rfl) rfl ?_
  refine Ops.ef rfl (ef_storeK rfl rfl rfl rfl) ?_
  rintro _ _ ⟨rfl, rfl⟩
  rw [moved_segs (f := o) (t := clk)]
  rw [tdel_kvT]
  refine Ops.nil ?_
  refine Ends.seq ?_
  refine Wp.seq ?_
  refine AnyH.start ((b2, .cells [.int .i64 s.1, .int .i64 s.2].toArray 38) :: trBlk tb mb :: []) 7 rfl ?_
  refine AnyH.take 0 rfl (by kernel_rfl) (by kernel_rfl) (by kernel_rfl) PF.pf rfl (pv_move rfl) rfl ?_
  first | refine AnyH.take 1 rfl (by kernel_rfl) (by kernel_rfl) (by kernel_rfl) PF.pf rfl (pv_nilCheck rfl) rfl ?_ | refine AnyH.take 1 rfl (by kernel_rfl) (by kernel_rfl) (by kernel_rfl) PF.pf rfl (pv_nilCheck_func rfl rfl) rfl ?_
  first | refine AnyH.take 2 rfl (by kernel_rfl) (by kernel_rfl) (by kernel_rfl) PF.pf rfl (pv_fieldAddr0 rfl rfl) rfl ?_ | refine AnyH.take 2 rfl (by kernel_rfl) (by kernel_rfl) (by kernel_rfl) PF.pf rfl (pv_fieldAddr rfl rfl) rfl ?_
  first | refine AnyH.take 3 rfl (by kernel_rfl) (by kernel_rfl) (by kernel_rfl) PF.pf rfl (pv_load rfl rfl rfl) rfl ?_ | refine AnyH.take 3 rfl (by kernel_rfl) (by kernel_rfl) (by kernel_rfl) PF.pf rfl (pv_load rfl rfl (by assumption)) rfl ?_
  refine AnyH.take 4 rfl (by kernel_rfl) (by kernel_rfl) (by kernel_rfl) PF.pf rfl (pv_loadK [_, _] rfl rfl rfl ⟨rfl, rfl, trivial⟩) rfl ?_
  refine AnyH.take 5 rfl (by kernel_rfl) (by kernel_rfl) (by kernel_rfl) PF.pf rfl (pv_move rfl) rfl ?_
  refine AnyH.one 6 (by kernel_rfl) ?_
  refine Turn.ef rfl rfl (ef_mapUpdate_s _ rfl rfl rfl) ?_ ?_
  · rintro _ _ ⟨rfl, rfl⟩; infer_instance
  rintro _ _ ⟨rfl, rfl⟩
  refine AnyH.done (by kernel_rfl) ?_
  refine Ends.seq ?_
  refine Wp.seq ?_
  refine Wp.region ?_
  refine Ops.pv (pv_assign rfl) rfl ?_
  refine Ops.nil ?_
  refine Ends.seq ?_
  refine Wp.ret ?_
  rw [tput_new (tdel_none h2), tclk_new (tdel_none h2)]
  have em : kvT blk (tdel o T.M) ++ [(s, .pointer (some ⟨blk i, 0, none⟩), clk)] = kvT blk (T.moved o s i clk).M := by simp [kvT, TreeM.moved]
  rw [em]
  exact Ends.ret (L' := trBlk tb mb :: mpBlk mb blk (T.moved o s i clk).M (clk + 1) :: segs (knS blk (T.moved o s i clk) kv kH) T.n) (res1 rfl rfl) ⟨rfl, clk, mb, clk + 1, blk, kv, kH, hk, rfl⟩

theorem tr_tMove (tb : Nat) (L : Hp) (T : TreeM) (hH : TrH T tb L) (hx : T.Ix) (o s : SlotM) : Tr Try.prog 54 [.pointer (some ⟨tb, 0, none⟩), slotV o, slotV s] L (fun u L' => ∃ e T', u = .int .i64 e ∧ TMove T o s e T' ∧ TrH T' tb L') := by
  cases h : tget o T.M with
  | none => exact (tr_tMove0 tb L T hH o s h).mono fun u L' ⟨hu, hl⟩ => ⟨3, T, hu, .inl ⟨h, rfl, rfl⟩, hl⟩
  | some i =>
    cases h2 : tget s T.M with
    | some j => exact (tr_tMove1 tb L T hH hx o s i j h h2).mono fun u L' ⟨hu, hl⟩ => ⟨4, T, hu, .inr ⟨i, h, .inl ⟨j, h2, rfl, rfl⟩⟩, hl⟩
    | none => exact (tr_tMove2 tb L T hH hx o s i h h2).mono fun u L' ⟨hu, t, hl⟩ => ⟨0, _, hu, .inr ⟨i, h, .inr ⟨h2, rfl, t, rfl⟩⟩, hl⟩

end Go.Proofs.Ytdodfnjmkpgdbaa
