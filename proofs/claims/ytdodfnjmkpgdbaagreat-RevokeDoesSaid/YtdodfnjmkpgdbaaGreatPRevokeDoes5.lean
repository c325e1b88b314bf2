/- RevokeDoes. Laid together by pack.py out of the texts in wip. -/
import Derived.Test.YtdodfnjmkpgdbaaGreatPRevokeDoes4
set_option linter.unusedVariables false
set_option linter.unusedSimpArgs false
set_option linter.unusedSectionVars false
section
set_option linter.unusedVariables false
set_option linter.unusedSimpArgs false
namespace Go.Proofs.YtdodfnjmkpgdbaaGreat
open Go.SL
theorem tr_treeNew  : Tr Tryz.prog 28 [] ([]) (fun v L' => ∃ tb, v = .pointer (some ⟨tb, 0, none⟩) ∧ TrH ⟨0, fun _ => (0, 0), fun _ => none, fun _ => [], []⟩ tb L') := by
 refine Tr.enter Tryz.func28 rfl Tryz.ntmps28 rfl (fun W F => ?_)
 refine Wp.app ?_
 refine Wr ?_
 refine Oa1 rfl rfl ?_
 refine On ?_
 refine Wr ?_
 refine Ops.ef rfl (ef_makeMap rfl rfl) ?_
 rintro _ _ ⟨b1, rfl, rfl⟩
 refine Ops.pv (pv_build rfl) rfl ?_
 refine Ops.ef rfl (ef_boxK rfl rfl) ?_
 rintro _ _ ⟨b2, rfl, rfl⟩
 refine Oa1 rfl rfl ?_
 refine On ?_
 refine Wp.ret ?_
 exact Ends.ret (L' := [trBlk b2 b1, (b1, .map #[] 0)]) (res1 rfl rfl) ⟨b2, rfl, b1, 0, fun _ => 0, fun _ => .pointer none, fun _ => [], fun i hi => absurd hi (Nat.not_lt_zero i), rfl⟩
theorem tr_tHas (tb : Nat) (L : Hp) (T : TreeM) (hH : TrH T tb L) (s : SlotM) : TrR Tryz.prog 123 [.pointer (some ⟨tb, 0, none⟩), slotV s] (L) (.bool (tget s T.M).isSome) := by
 obtain ⟨mb, clk, blk, kv, kH, hk, rfl⟩ := hH
 have hm := tptr_hm blk T.M s
 refine Tr.enter Tryz.func123 rfl Tryz.ntmps123 rfl (fun W F => ?_)
 refine Wp.app ?_
 refine Wr ?_
 refine Ops.ef rfl (ef_boxK rfl rfl) ?_
 rintro _ _ ⟨b1, rfl, rfl⟩
 refine Oa1 rfl rfl ?_
 refine On ?_
 refine Wp.seq ?_
 refine AnyH.start ((b1, .cells [.int .i64 s.1, .int .i64 s.2].toArray 31) :: trBlk tb mb :: mpBlk mb blk T.M clk :: segs (knS blk T kv kH) T.n) 8 rfl ?_
 refine Tk 0 rfl rfl (pv_move rfl) rfl ?_
 refine Tk 1 rfl rfl (pv_nilCheck rfl) rfl ?_
 refine Tk 2 rfl rfl (pv_fieldAddr0 rfl rfl) rfl ?_
 refine Tk 3 rfl rfl (pv_load rfl rfl rfl) rfl ?_
 refine Tk 4 rfl rfl (pv_loadK [_, _] rfl rfl rfl ⟨rfl, rfl, trivial⟩) rfl ?_
 refine Tk 5 rfl rfl (pv_lookup_s s rfl rfl hm) rfl ?_
 refine Tk 6 rfl rfl (pv_neq_nil rfl rfl) rfl ?_
 refine Tk 7 rfl rfl (pv_assign rfl) rfl ?_
 refine AnyH.done (by kernel_rfl) ?_
 refine Ends.seq ?_
 refine Wp.ret ?_
 exact Ends.ret (res1 rfl rfl) ⟨by rw [tptr_is], rfl⟩
theorem tr_tPar0 (tb : Nat) (L : Hp) (T : TreeM) (hH : TrH T tb L) (s : SlotM) (h : tget s T.M = none) : TrR Tryz.prog 99 [.pointer (some ⟨tb, 0, none⟩), slotV s] (L) (.tuple #[slotV (0, 0), .bool false]) := by
 obtain ⟨mb, clk, blk, kv, kH, hk, rfl⟩ := hH
 have hm := tptr_hm blk T.M s
 rw [tptr_no h] at hm
 refine Tr.enter Tryz.func99 rfl Tryz.ntmps99 rfl (fun W F => ?_)
 refine Wp.app ?_
 refine Wr ?_
 refine Ops.ef rfl (ef_boxK rfl rfl) ?_
 rintro _ _ ⟨b1, rfl, rfl⟩
 refine Ops.ef rfl (ef_allocK tyZ31 rfl) ?_
 rintro _ _ ⟨b2, rfl, rfl⟩
 refine Oa1 rfl rfl ?_
 refine On ?_
 refine Wp.seq ?_
 refine AnyH.start ((b1, .cells [.int .i64 s.1, .int .i64 s.2].toArray 31) :: trBlk tb mb :: mpBlk mb blk T.M clk :: segs (knS blk T kv kH) T.n) 7 rfl ?_
 refine Tk 0 rfl rfl (pv_move rfl) rfl ?_
 refine Tk 1 rfl rfl (pv_nilCheck rfl) rfl ?_
 refine Tk 2 rfl rfl (pv_fieldAddr0 rfl rfl) rfl ?_
 refine Tk 3 rfl rfl (pv_load rfl rfl rfl) rfl ?_
 refine Tk 4 rfl rfl (pv_loadK [_, _] rfl rfl rfl ⟨rfl, rfl, trivial⟩) rfl ?_
 refine Tk 5 rfl rfl (pv_lookup_s s rfl rfl hm) rfl ?_
 refine Tk 6 rfl rfl (pv_assign rfl) rfl ?_
 refine AnyH.done (by kernel_rfl) ?_
 refine Ends.seq ?_
 refine Wp.seq ?_
 refine Wr ?_
 refine Om1 rfl rfl ?_
 refine Ops.pv (pv_eql_nil rfl rfl) rfl ?_
 refine Om1 rfl rfl ?_
 refine Os1 rfl rfl rfl rfl ?_
 refine Os1 rfl rfl rfl rfl ?_
 refine Os1 rfl rfl rfl rfl ?_
 refine Os1 rfl rfl rfl rfl ?_
 refine Os1 rfl rfl rfl rfl ?_
 refine Ops.pv (pv_pick_true rfl rfl) rfl ?_
 refine On ?_
 refine Wp.cond_true rfl ?_
 refine Wr ?_
 refine Ops.pv (pv_build rfl) rfl ?_
 refine Ops.ef rfl (ef_storeK rfl rfl rfl rfl) ?_
 rintro _ _ ⟨rfl, rfl⟩
 refine Oa1 rfl rfl ?_
 refine On ?_
 refine Wp.ret ?_
 refine Ends.then_ret ?_
 exact Ends.ret (res_list (rs := [.cell 4 31, .tmp 5]) rfl ⟨_, _, rfl, rv_cellK [_, _] rfl rfl rfl ⟨rfl, rfl, trivial⟩, ⟨_, _, rfl, rv_tmp rfl, rfl⟩⟩ rfl) ⟨rfl, rfl⟩
theorem tr_tPar1 (tb : Nat) (L : Hp) (T : TreeM) (hH : TrH T tb L) (hx : T.Ix) (s : SlotM) (i : Nat) (h : tget s T.M = some i) (hp : T.par i = none) : TrR Tryz.prog 99 [.pointer (some ⟨tb, 0, none⟩), slotV s] (L) (.tuple #[slotV (0, 0), .bool false]) := by
 obtain ⟨mb, clk, blk, kv, kH, hk, rfl⟩ := hH
 have hm := tptr_hm blk T.M s
 rw [tptr_some h] at hm
 have hi := hx.get h
 have hb_i := kn_blk (blk := blk) (T := T) (kv := kv) (kH := kH) (i := i) hi
 rw [hp] at hb_i
 refine Tr.enter Tryz.func99 rfl Tryz.ntmps99 rfl (fun W F => ?_)
 refine Wp.app ?_
 refine Wr ?_
 refine Ops.ef rfl (ef_boxK rfl rfl) ?_
 rintro _ _ ⟨b1, rfl, rfl⟩
 refine Ops.ef rfl (ef_allocK tyZ31 rfl) ?_
 rintro _ _ ⟨b2, rfl, rfl⟩
 refine Oa1 rfl rfl ?_
 refine On ?_
 refine Wp.seq ?_
 refine AnyH.start ((b1, .cells [.int .i64 s.1, .int .i64 s.2].toArray 31) :: trBlk tb mb :: mpBlk mb blk T.M clk :: segs (knS blk T kv kH) T.n) 7 rfl ?_
 refine Tk 0 rfl rfl (pv_move rfl) rfl ?_
 refine Tk 1 rfl rfl (pv_nilCheck rfl) rfl ?_
 refine Tk 2 rfl rfl (pv_fieldAddr0 rfl rfl) rfl ?_
 refine Tk 3 rfl rfl (pv_load rfl rfl rfl) rfl ?_
 refine Tk 4 rfl rfl (pv_loadK [_, _] rfl rfl rfl ⟨rfl, rfl, trivial⟩) rfl ?_
 refine Tk 5 rfl rfl (pv_lookup_s s rfl rfl hm) rfl ?_
 refine Tk 6 rfl rfl (pv_assign rfl) rfl ?_
 refine AnyH.done (by kernel_rfl) ?_
 refine Ends.seq ?_
 refine Wp.seq ?_
 refine Wr ?_
 refine Om1 rfl rfl ?_
 refine Ops.pv (pv_eql_nil rfl rfl) rfl ?_
 refine Om1 rfl rfl ?_
 refine Ops.pvg ⟨_, _, rfl, rfl, rfl⟩ (pv_move rfl) rfl ?_
 refine Ops.pvg ⟨_, _, rfl, rfl, rfl⟩ (pv_nilCheck rfl) rfl ?_
 refine Ops.pvg ⟨_, _, rfl, rfl, rfl⟩ (pv_fieldAddr0 rfl rfl) rfl ?_
 refine Ops.pvg ⟨_, _, rfl, rfl, rfl⟩ (pv_load rfl rfl rfl) rfl ?_
 refine Ops.pvg ⟨_, _, rfl, rfl, rfl⟩ (pv_eql_nil rfl rfl) rfl ?_
 refine Ops.pv (pv_pick_false rfl rfl) rfl ?_
 refine On ?_
 refine Wp.cond_true rfl ?_
 refine Wr ?_
 refine Ops.pv (pv_build rfl) rfl ?_
 refine Ops.ef rfl (ef_storeK rfl rfl rfl rfl) ?_
 rintro _ _ ⟨rfl, rfl⟩
 refine Oa1 rfl rfl ?_
 refine On ?_
 refine Wp.ret ?_
 refine Ends.then_ret ?_
 exact Ends.ret (res_list (rs := [.cell 4 31, .tmp 5]) rfl ⟨_, _, rfl, rv_cellK [_, _] rfl rfl rfl ⟨rfl, rfl, trivial⟩, ⟨_, _, rfl, rv_tmp rfl, rfl⟩⟩ rfl) ⟨rfl, rfl⟩
theorem tr_tPar2 (tb : Nat) (L : Hp) (T : TreeM) (hH : TrH T tb L) (hx : T.Ix) (s : SlotM) (i j : Nat) (h : tget s T.M = some i) (hp : T.par i = some j) : TrR Tryz.prog 99 [.pointer (some ⟨tb, 0, none⟩), slotV s] (L) (.tuple #[slotV (T.sl j), .bool true]) := by
 obtain ⟨mb, clk, blk, kv, kH, hk, rfl⟩ := hH
 have hm := tptr_hm blk T.M s
 rw [tptr_some h] at hm
 have hi := hx.get h
 have hj := hx.par i j hi hp
 have hb_i := kn_blk (blk := blk) (T := T) (kv := kv) (kH := kH) (i := i) hi
 rw [hp] at hb_i
 have hb_j := kn_blk (blk := blk) (T := T) (kv := kv) (kH := kH) (i := j) hj
 refine Tr.enter Tryz.func99 rfl Tryz.ntmps99 rfl (fun W F => ?_)
 refine Wp.app ?_
 refine Wr ?_
 refine Ops.ef rfl (ef_boxK rfl rfl) ?_
 rintro _ _ ⟨b1, rfl, rfl⟩
 refine Ops.ef rfl (ef_allocK tyZ31 rfl) ?_
 rintro _ _ ⟨b2, rfl, rfl⟩
 refine Oa1 rfl rfl ?_
 refine On ?_
 refine Wp.seq ?_
 refine AnyH.start ((b1, .cells [.int .i64 s.1, .int .i64 s.2].toArray 31) :: trBlk tb mb :: mpBlk mb blk T.M clk :: segs (knS blk T kv kH) T.n) 7 rfl ?_
 refine Tk 0 rfl rfl (pv_move rfl) rfl ?_
 refine Tk 1 rfl rfl (pv_nilCheck rfl) rfl ?_
 refine Tk 2 rfl rfl (pv_fieldAddr0 rfl rfl) rfl ?_
 refine Tk 3 rfl rfl (pv_load rfl rfl rfl) rfl ?_
 refine Tk 4 rfl rfl (pv_loadK [_, _] rfl rfl rfl ⟨rfl, rfl, trivial⟩) rfl ?_
 refine Tk 5 rfl rfl (pv_lookup_s s rfl rfl hm) rfl ?_
 refine Tk 6 rfl rfl (pv_assign rfl) rfl ?_
 refine AnyH.done (by kernel_rfl) ?_
 refine Ends.seq ?_
 refine Wp.seq ?_
 refine Wr ?_
 refine Om1 rfl rfl ?_
 refine Ops.pv (pv_eql_nil rfl rfl) rfl ?_
 refine Om1 rfl rfl ?_
 refine Ops.pvg ⟨_, _, rfl, rfl, rfl⟩ (pv_move rfl) rfl ?_
 refine Ops.pvg ⟨_, _, rfl, rfl, rfl⟩ (pv_nilCheck rfl) rfl ?_
 refine Ops.pvg ⟨_, _, rfl, rfl, rfl⟩ (pv_fieldAddr0 rfl rfl) rfl ?_
 refine Ops.pvg ⟨_, _, rfl, rfl, rfl⟩ (pv_load rfl rfl rfl) rfl ?_
 refine Ops.pvg ⟨_, _, rfl, rfl, rfl⟩ (pv_eql_nil rfl rfl) rfl ?_
 refine Ops.pv (pv_pick_false rfl rfl) rfl ?_
 refine On ?_
 refine Wp.cond_false rfl ?_
 refine Wp.skip ?_
 refine Ends.seq ?_
 refine Wr ?_
 refine Om1 rfl rfl ?_
 refine Ops.pv (pv_nilCheck rfl) rfl ?_
 refine Of1 rfl rfl rfl ?_
 refine Ol1 rfl rfl rfl rfl ?_
 refine Ops.pv (pv_nilCheck rfl) rfl ?_
 refine Of1 rfl rfl rfl ?_
 refine Ops.pv (pv_loadK [_, _] rfl rfl rfl ⟨rfl, rfl, trivial⟩) rfl ?_
 refine Ops.ef rfl (ef_storeK rfl rfl rfl rfl) ?_
 rintro _ _ ⟨rfl, rfl⟩
 refine Oa1 rfl rfl ?_
 refine On ?_
 refine Wp.ret ?_
 exact Ends.ret (res_list (rs := [.cell 4 31, .tmp 5]) rfl ⟨_, _, rfl, rv_cellK [_, _] rfl rfl rfl ⟨rfl, rfl, trivial⟩, ⟨_, _, rfl, rv_tmp rfl, rfl⟩⟩ rfl) ⟨rfl, rfl⟩
theorem tr_tParent (tb : Nat) (L : Hp) (T : TreeM) (hH : TrH T tb L) (hx : T.Ix) (s : SlotM) : TrR Tryz.prog 99 [.pointer (some ⟨tb, 0, none⟩), slotV s] L (.tuple #[slotV (tparS T s), .bool (tparB T s)]) := by
 cases h : tget s T.M with
 | none => exact (tr_tPar0 tb L T hH s h).eq (by simp [tparS, tparB, h])
 | some i =>
  cases hp : T.par i with
  | none => exact (tr_tPar1 tb L T hH hx s i h hp).eq (by simp [tparS, tparB, h, hp])
  | some j => exact (tr_tPar2 tb L T hH hx s i j h hp).eq (by simp [tparS, tparB, h, hp])
theorem tr_tKids0 (tb : Nat) (L : Hp) (T : TreeM) (hH : TrH T tb L) (s : SlotM) (h : tget s T.M = none) : Tr Tryz.prog 100 [.pointer (some ⟨tb, 0, none⟩), slotV s] (L) (fun u L' => u = .slice none 0 0 ∧ L' = L) := by
 obtain ⟨mb, clk, blk, kv, kH, hk, rfl⟩ := hH
 have hm := tptr_hm blk T.M s
 rw [tptr_no h] at hm
 refine Tr.enter Tryz.func100 rfl Tryz.ntmps100 rfl (fun W F => ?_)
 refine Wp.app ?_
 refine Wr ?_
 refine Ops.ef rfl (ef_boxK rfl rfl) ?_
 rintro _ _ ⟨b1, rfl, rfl⟩
 refine Oa1 rfl rfl ?_
 refine On ?_
 refine Wr ?_
 refine Oa1 rfl rfl ?_
 refine On ?_
 refine Wp.seq ?_
 refine Wp.seq ?_
 refine AnyH.start ((b1, .cells [.int .i64 s.1, .int .i64 s.2].toArray 31) :: trBlk tb mb :: mpBlk mb blk T.M clk :: segs (knS blk T kv kH) T.n) 7 rfl ?_
 refine Tk 0 rfl rfl (pv_move rfl) rfl ?_
 refine Tk 1 rfl rfl (pv_nilCheck rfl) rfl ?_
 refine Tk 2 rfl rfl (pv_fieldAddr0 rfl rfl) rfl ?_
 refine Tk 3 rfl rfl (pv_load rfl rfl rfl) rfl ?_
 refine Tk 4 rfl rfl (pv_loadK [_, _] rfl rfl rfl ⟨rfl, rfl, trivial⟩) rfl ?_
 refine Tk 5 rfl rfl (pv_lookup_s s rfl rfl hm) rfl ?_
 refine Tk 6 rfl rfl (pv_assign rfl) rfl ?_
 refine AnyH.done (by kernel_rfl) ?_
 refine Ends.seq ?_
 refine Wr ?_
 refine Om1 rfl rfl ?_
 refine Ops.pv (pv_neq_nil rfl rfl) rfl ?_
 refine On ?_
 refine Wp.cond_false rfl ?_
 refine Wp.skip ?_
 refine Ends.seq ?_
 refine Wr ?_
 refine Om1 rfl rfl ?_
 refine Oa1 rfl rfl ?_
 refine On ?_
 refine Wp.ret ?_
 exact Ends.ret (L' := trBlk tb mb :: mpBlk mb blk T.M clk :: segs (knS blk T kv kH) T.n) (res1 rfl rfl) ⟨rfl, rfl⟩
set_option maxHeartbeats 1000000 in
theorem tr_tKids1 (tb : Nat) (L : Hp) (T : TreeM) (hH : TrH T tb L) (hx : T.Ix) (hn : T.n ≤ 2 ^ 20) (s : SlotM) (i : Nat) (h : tget s T.M = some i) : Tr Tryz.prog 100 [.pointer (some ⟨tb, 0, none⟩), slotV s] (L) (fun u L' => ∃ K, Slc 31 2 u ((T.kids i).map T.sl).length (slotsCells ((T.kids i).map T.sl)) K ∧ L' = K ++ L) := by
 obtain ⟨mb, clk, blk, kv, kH, hk, rfl⟩ := hH
 have hm := tptr_hm blk T.M s
 rw [tptr_some h] at hm
 have hi := hx.get h
 have hb_i := kn_blk (blk := blk) (T := T) (kv := kv) (kH := kH) (i := i) hi
 obtain ⟨ka, kc, hkv⟩ := (hk i hi).form
 have hv := kn_view hk hi
 rw [hkv] at hv hb_i
 have hks := hx.small i hi
 have hlm : (T.kids i).length = ((T.kids i).map blk).length := by rw [List.length_map]
 refine Tr.enter Tryz.func100 rfl Tryz.ntmps100 rfl (fun W F => ?_)
 refine Wp.app ?_
 refine Wr ?_
 refine Ops.ef rfl (ef_boxK rfl rfl) ?_
 rintro _ _ ⟨b1, rfl, rfl⟩
 refine Oa1 rfl rfl ?_
 refine On ?_
 refine Wr ?_
 refine Oa1 rfl rfl ?_
 refine On ?_
 refine Wp.seq ?_
 refine Wp.seq ?_
 refine AnyH.start ((b1, .cells [.int .i64 s.1, .int .i64 s.2].toArray 31) :: trBlk tb mb :: mpBlk mb blk T.M clk :: segs (knS blk T kv kH) T.n) 7 rfl ?_
 refine Tk 0 rfl rfl (pv_move rfl) rfl ?_
 refine Tk 1 rfl rfl (pv_nilCheck rfl) rfl ?_
 refine Tk 2 rfl rfl (pv_fieldAddr0 rfl rfl) rfl ?_
 refine Tk 3 rfl rfl (pv_load rfl rfl rfl) rfl ?_
 refine Tk 4 rfl rfl (pv_loadK [_, _] rfl rfl rfl ⟨rfl, rfl, trivial⟩) rfl ?_
 refine Tk 5 rfl rfl (pv_lookup_s s rfl rfl hm) rfl ?_
 refine Tk 6 rfl rfl (pv_assign rfl) rfl ?_
 refine AnyH.done (by kernel_rfl) ?_
 refine Ends.seq ?_
 refine Wr ?_
 refine Om1 rfl rfl ?_
 refine Ops.pv (pv_neq_nil rfl rfl) rfl ?_
 refine On ?_
 refine Wp.cond_true rfl ?_
 refine Wr ?_
 refine Om1 rfl rfl ?_
 refine Ops.pv (pv_nilCheck rfl) rfl ?_
 refine Of1 rfl rfl rfl ?_
 refine Ol1 rfl rfl rfl rfl ?_
 refine Ops.pv (pv_len_slice (T := 131) rfl rfl) rfl ?_
 refine Om1 rfl rfl ?_
 refine On ?_
 refine Wp.block ?_
 refine Wp.loopK (σ := Nat × Value × Hp) [(20, _), (21, _)] (fun s => [(5, s.2.1), (22, .int .i64 s.1)]) (fun s => s.2.2 ++ (trBlk tb mb :: mpBlk mb blk T.M clk :: (segs (knS blk T kv kH) T.n ++ F))) (fun s => s.1 ≤ (T.kids i).length ∧ Slc 31 2 s.2.1 (((T.kids i).take s.1).map T.sl).length (slotsCells (((T.kids i).take s.1).map T.sl)) s.2.2) (fun s => (T.kids i).length - s.1) (0, .slice none 0 0, []) ⟨Nat.zero_le _, Slc.nil _ _⟩ ⟨rfl, rfl, trivial⟩ ⟨rfl, rfl, trivial⟩ (by intro w ho; (try dsimp only [List.nil_append, List.cons_append]); exact Drop.own ho) ?_
 rintro ⟨j, u, K⟩ KK ⟨hj, hu⟩ hK
 dsimp only [List.cons_append, List.nil_append] at hK ⊢
 dsimp only at hj hu ⊢
 refine Wr ?_
 refine Ops.pv (pv_lss rfl rfl) rfl ?_
 refine On ?_
 refine Wp.seq ?_
 refine Wp.cond_dect rfl (fun h1 => ?_) (fun h1 => ?_)
 ·
  obtain ⟨b, o, cap, cc, T0, f, hv1, hbv, hr⟩ := hv.open (by omega)
  cases hv1
  obtain ⟨q, hq⟩ : ∃ q, (T.kids i)[j]? = some q := ⟨_, List.getElem?_eq_getElem (by omega)⟩
  have hbq : ((T.kids i).map blk)[j]? = some (blk q) := by rw [List.getElem?_map, hq]; rfl
  have hqn := hx.kids i q hi (List.mem_of_getElem? hq)
  have hb_q := kn_blk (blk := blk) (T := T) (kv := kv) (kH := kH) (i := q) hqn
  refine Wp.skip ?_
  refine Ends.seq ?_
  refine Wp.seq ?_
  refine Wp.block ?_
  refine Wr ?_
  refine Ops.pv (pv_indexAddr (i := j) rfl rfl rfl (by omega)) rfl ?_
  refine Ops.pv (pv_load rfl rfl (pts_nth hr hbq)) rfl ?_
  refine Oa1 rfl rfl ?_
  refine On ?_
  refine Wp.region ?_
  refine Om1 rfl rfl ?_
  refine Om1 rfl rfl ?_
  refine Ops.pv (pv_nilCheck rfl) rfl ?_
  refine Of1 rfl rfl rfl ?_
  refine Ops.pv (pv_loadK [_, _] rfl rfl rfl ⟨rfl, rfl, trivial⟩) rfl ?_
  refine Ops.ef rfl (ef_buildSlice1 (k := 2) rfl rfl rfl rfl rfl) ?_
  rintro _ _ ⟨b2, rfl, rfl⟩
  refine Ops.ef rfl (ef_append (H := K) (xs := slotCells (T.sl q)) rfl hu rfl ⟨rfl, rfl, trivial⟩ rfl rfl rfl (by simp only [List.length_map, List.length_take]; omega) (by simp only [List.length_map, List.length_take]; omega) rfl rfl) ?_
  rintro _ _ ⟨u1, K1, hu1, rfl, rfl⟩
  refine Ops.app ?_
  refine Oa1 rfl rfl ?_
  refine Ops.nil ?_
  refine Ends.block_normal ?_
  refine Ends.seq ?_
  refine Wp.region ?_
  refine Ops.pv (pv_add rfl rfl (w64 (by omega) (by omega))) rfl ?_
  refine Om1 rfl rfl ?_
  refine Ops.nil ?_
  refine Ends.goes ?_
  refine Goes.back (hK (j + 1, u1, K1) ⟨by dsimp only; omega, ?_⟩ (by dsimp only; omega)) ⟨rfl, rfl, rfl, rfl, trivial⟩
  dsimp only; rw [List.take_add_one, hq, List.map_append, List.length_append, slotsCells_app]; exact hu1
 refine Wp.exit ?_
 refine Ends.then_exit ?_
 refine Ends.then_exit ?_
 refine Ends.block_hit ?_
 refine Ends.seq ?_
 refine Wr ?_
 refine Om1 rfl rfl ?_
 refine Oa1 rfl rfl ?_
 refine On ?_
 refine Wp.ret ?_
 obtain rfl : j = (T.kids i).length := by omega
 rw [List.take_length] at hu
 exact Ends.ret (L' := K ++ (trBlk tb mb :: mpBlk mb blk T.M clk :: segs (knS blk T kv kH) T.n)) (res1 rfl rfl) ⟨K, hu, rfl⟩
theorem tr_tChildren (tb : Nat) (L : Hp) (T : TreeM) (hH : TrH T tb L) (hx : T.Ix) (hn : T.n ≤ 2 ^ 20) (s : SlotM) : Tr Tryz.prog 100 [.pointer (some ⟨tb, 0, none⟩), slotV s] L (fun u L' => ∃ K, Slc 31 2 u (tkids T s).length (slotsCells (tkids T s)) K ∧ L' = K ++ L) := by
 cases h : tget s T.M with
 | none =>
  have e : tkids T s = [] := by unfold tkids; rw [h]
  rw [e]
  exact (tr_tKids0 tb L T hH s h).mono fun u L' ⟨hu, hl⟩ => ⟨[], by rw [hu]; exact Slc.nil _ _, hl⟩
 | some i =>
  have e : tkids T s = (T.kids i).map T.sl := by unfold tkids; rw [h]
  rw [e]; exact tr_tKids1 tb L T hH hx hn s i h
theorem tr_tKin0 (tb : Nat) (L : Hp) (T : TreeM) (hH : TrH T tb L) (s : SlotM) (h : tget s T.M = none) : Tr Tryz.prog 59 [.pointer (some ⟨tb, 0, none⟩), slotV s] (L) (fun u L' => u = .slice none 0 0 ∧ L' = L) := by
 obtain ⟨mb, clk, blk, kv, kH, hk, rfl⟩ := hH
 have hm := tptr_hm blk T.M s
 rw [tptr_no h] at hm
 refine Tr.enter Tryz.func59 rfl Tryz.ntmps59 rfl (fun W F => ?_)
 refine Wp.app ?_
 refine Wr ?_
 refine Ops.ef rfl (ef_boxK rfl rfl) ?_
 rintro _ _ ⟨b1, rfl, rfl⟩
 refine Oa1 rfl rfl ?_
 refine On ?_
 refine Wr ?_
 refine Oa1 rfl rfl ?_
 refine On ?_
 refine Wp.seq ?_
 refine AnyH.start ((b1, .cells [.int .i64 s.1, .int .i64 s.2].toArray 31) :: trBlk tb mb :: mpBlk mb blk T.M clk :: segs (knS blk T kv kH) T.n) 7 rfl ?_
 refine Tk 0 rfl rfl (pv_move rfl) rfl ?_
 refine Tk 1 rfl rfl (pv_nilCheck rfl) rfl ?_
 refine Tk 2 rfl rfl (pv_fieldAddr0 rfl rfl) rfl ?_
 refine Tk 3 rfl rfl (pv_load rfl rfl rfl) rfl ?_
 refine Tk 4 rfl rfl (pv_loadK [_, _] rfl rfl rfl ⟨rfl, rfl, trivial⟩) rfl ?_
 refine Tk 5 rfl rfl (pv_lookup_s s rfl rfl hm) rfl ?_
 refine Tk 6 rfl rfl (pv_assign rfl) rfl ?_
 refine AnyH.done (by kernel_rfl) ?_
 refine Ends.seq ?_
 refine Wp.seq ?_
 refine Wr ?_
 refine Om1 rfl rfl ?_
 refine Ops.pv (pv_eql_nil rfl rfl) rfl ?_
 refine On ?_
 refine Wp.cond_true rfl ?_
 refine Wr ?_
 refine Oa1 rfl rfl ?_
 refine On ?_
 refine Wp.ret ?_
 refine Ends.then_ret ?_
 exact Ends.ret (L' := trBlk tb mb :: mpBlk mb blk T.M clk :: segs (knS blk T kv kH) T.n) (res1 rfl rfl) ⟨rfl, rfl⟩
set_option maxHeartbeats 1000000 in
theorem tr_tKin1 (tb : Nat) (L : Hp) (T : TreeM) (hH : TrH T tb L) (Fo0 : (Fo Nat)) (hT : TOk T Fo0) (hn : T.n ≤ 2 ^ 20) (s : SlotM) (i : Nat) (h : tget s T.M = some i) : Tr Tryz.prog 59 [.pointer (some ⟨tb, 0, none⟩), slotV s] (L) (fun u L' => ∃ K, Slc 31 2 u ((Fo.sub i Fo0).all.map T.sl).length (slotsCells ((Fo.sub i Fo0).all.map T.sl)) K ∧ L' = K ++ L) := by
 obtain ⟨mb, clk, blk, kv, kH, hk, rfl⟩ := hH
 have hm := tptr_hm blk T.M s
 have hx := hT.ix
 rw [tptr_some h] at hm
 have hi := hx.get h
 have hb_i := kn_blk (blk := blk) (T := T) (kv := kv) (kH := kH) (i := i) hi
 obtain ⟨ka, kc, hkv⟩ := kn_form hk hi
 have hv := kn_view2 hk hi
 rw [hkv] at hv hb_i
 have hks := hx.small i hi
 have him := hT.mem h
 obtain ⟨hsr, hsk⟩ := Fo.OkK.sub hT.kids him
 have hsl := sub_len Fo0 i
 have hal := hT.all_len
 have hlm : ((T.kids i).map blk).length = (T.kids i).length := List.length_map ..
 refine Tr.enter Tryz.func59 rfl Tryz.ntmps59 rfl (fun W F => ?_)
 refine Wp.app ?_
 refine Wr ?_
 refine Ops.ef rfl (ef_boxK rfl rfl) ?_
 rintro _ _ ⟨b1, rfl, rfl⟩
 refine Oa1 rfl rfl ?_
 refine On ?_
 refine Wr ?_
 refine Oa1 rfl rfl ?_
 refine On ?_
 refine Wp.seq ?_
 refine AnyH.start ((b1, .cells [.int .i64 s.1, .int .i64 s.2].toArray 31) :: trBlk tb mb :: mpBlk mb blk T.M clk :: segs (knS blk T kv kH) T.n) 7 rfl ?_
 refine Tk 0 rfl rfl (pv_move rfl) rfl ?_
 refine Tk 1 rfl rfl (pv_nilCheck rfl) rfl ?_
 refine Tk 2 rfl rfl (pv_fieldAddr0 rfl rfl) rfl ?_
 refine Tk 3 rfl rfl (pv_load rfl rfl rfl) rfl ?_
 refine Tk 4 rfl rfl (pv_loadK [_, _] rfl rfl rfl ⟨rfl, rfl, trivial⟩) rfl ?_
 refine Tk 5 rfl rfl (pv_lookup_s s rfl rfl hm) rfl ?_
 refine Tk 6 rfl rfl (pv_assign rfl) rfl ?_
 refine AnyH.done (by kernel_rfl) ?_
 refine Ends.seq ?_
 refine Wp.seq ?_
 refine Wr ?_
 refine Om1 rfl rfl ?_
 refine Ops.pv (pv_eql_nil rfl rfl) rfl ?_
 refine On ?_
 refine Wp.cond_false rfl ?_
 refine Wp.skip ?_
 refine Ends.seq ?_
 refine Wp.seq ?_
 refine Wr ?_
 refine Om1 rfl rfl ?_
 refine Ops.pv (pv_nilCheck rfl) rfl ?_
 refine Of1 rfl rfl rfl ?_
 refine Ol1 rfl rfl rfl rfl ?_
 refine Ops.ef rfl (ef_call (tr_clone (segs (knS blk T kv kH) T.n) ka kc ((T.kids i).map blk) hv (by omega)) rfl rfl) ?_
 rintro _ _ ⟨_, _, ⟨J1, hJ1, rfl⟩, rfl, rfl⟩
 refine Ops.app ?_
 refine Oa1 rfl rfl ?_
 refine On ?_
 refine Wp.block ?_
 refine Wp.loopK (σ := Value × Hp × Value × Hp × List SlotM × (Fo Nat)) [] (fun s => [(5, s.1), (7, s.2.2.1)]) (fun s => s.2.1 ++ (s.2.2.2.1 ++ (trBlk tb mb :: mpBlk mb blk T.M clk :: (segs (knS blk T kv kH) T.n ++ F)))) (fun s => Slc 31 2 s.1 s.2.2.2.2.1.length (slotsCells s.2.2.2.2.1) s.2.1 ∧ Slc 130 1 s.2.2.1 (s.2.2.2.2.2.roots.map blk).length (ptsC (s.2.2.2.2.2.roots.map blk)) s.2.2.2.1 ∧ Fo.OkK T.kids s.2.2.2.2.2 ∧ (∀ z, z ∈ s.2.2.2.2.2.all → z < T.n) ∧ s.2.2.2.2.1 ++ s.2.2.2.2.2.all.map T.sl = (Fo.sub i Fo0).all.map T.sl ∧ s.2.2.2.2.1.length + s.2.2.2.2.2.all.length ≤ T.n) (fun s => s.2.2.2.2.2.all.length) (.slice none 0 0, [], _, J1, [], Fo.sub i Fo0) ⟨Slc.nil _ _, by rw [← hsr]; exact hJ1, hsk, fun z hz => hT.lt z (Fo.sub_all _ _ z hz), rfl, by simp; omega⟩ trivial ⟨rfl, rfl, trivial⟩ (by intro w ho; (try dsimp only [List.nil_append, List.cons_append]); exact Drop.own ho) ?_
 rintro ⟨u, K, w, J, dn, g⟩ KK ⟨hu, hw, hok, hlt, htot, hgl⟩ hK
 dsimp only [List.cons_append, List.nil_append] at hK ⊢
 dsimp only at hu hw hok hlt htot hgl ⊢
 obtain ⟨wa, wc, rfl⟩ := hw.form
 refine Wp.seq ?_
 refine Wr ?_
 refine Om1 rfl rfl ?_
 refine Ops.pv (pv_len_slice (T := 131) rfl rfl) rfl ?_
 refine Ops.pv (pv_gtr rfl rfl) rfl ?_
 refine On ?_
 refine Wp.cond_dect rfl (fun h1 => ?_) (fun h1 => ?_)
 ·
  obtain ⟨q, c, r, rfl⟩ := fo_cons (g := g) (blk := blk) (by assumption)
  simp only [Fo.roots, List.map_cons] at hw
  obtain ⟨ok1, ok2, ok3⟩ := hok
  simp only [Fo.all, List.length_cons, List.length_append] at hgl
  have hq := hlt q (by simp [Fo.all])
  have hb_q := kn_blk (blk := blk) (T := T) (kv := kv) (kH := kH) (i := q) hq
  obtain ⟨qa, qc, hqv⟩ := kn_form hk hq
  have hvq := kn_view2 hk hq
  rw [hqv] at hvq hb_q
  rw [ok1] at hvq hb_q
  have hlc := roots_len c
  have hlr := roots_len r
  have hvw := hw.view
  obtain ⟨b, o, cap, cc, T0, f, hv1, hbv, hr⟩ := hvw.open (by simp)
  cases hv1
  have hny := pts_nth (i := 0) hr rfl
  have hpt := hvw.part (i := 1) (j := ((Fo.roots r).map blk).length + 1) (by omega) (by simp)
  have et : (((blk q) :: (Fo.roots r).map blk).drop 1).take (((Fo.roots r).map blk).length + 1 - 1) = (Fo.roots r).map blk := List.take_of_length_le (by simp)
  rw [et] at hpt
  have hcap : ((Fo.roots r).map blk).length + 1 ≤ wc := by obtain ⟨_, _, _, e, h, _⟩ := hvw; cases e; simpa using h
  have hm1 : ((Fo.roots c).map blk).length = (Fo.roots c).length := List.length_map ..
  have hm2 : ((Fo.roots r).map blk).length = (Fo.roots r).length := List.length_map ..
  refine Wp.skip ?_
  refine Ends.seq ?_
  refine Wp.block ?_
  refine Wr ?_
  refine Om1 rfl rfl ?_
  refine Ops.pv (pv_indexAddr (i := 0) rfl rfl rfl (by simp [Fo.roots])) rfl ?_
  refine Ops.pv (pv_load rfl rfl hny) rfl ?_
  refine Oa1 rfl rfl ?_
  refine On ?_
  refine Wr ?_
  refine Om1 rfl rfl ?_
  refine Om1 rfl rfl ?_
  refine Ops.pv (pv_nilCheck rfl) rfl ?_
  refine Of1 rfl rfl rfl ?_
  refine Ops.pv (pv_loadK [_, _] rfl rfl rfl ⟨rfl, rfl, trivial⟩) rfl ?_
  refine Ops.ef rfl (ef_buildSlice1 (k := 2) rfl rfl rfl rfl rfl) ?_
  rintro _ _ ⟨b2, rfl, rfl⟩
  refine Ops.ef rfl (ef_append (H := K) (xs := slotCells (T.sl q)) rfl hu rfl ⟨rfl, rfl, trivial⟩ rfl rfl rfl (by omega) (by omega) rfl rfl) ?_
  rintro _ _ ⟨u1, K1, hu1, rfl, rfl⟩
  refine Ops.app ?_
  refine Oa1 rfl rfl ?_
  refine On ?_
  refine AnyH.start (J ++ (segs (knS blk T kv kH) T.n)) 9 rfl ?_
  refine Tk 0 rfl rfl (pv_move rfl) rfl ?_
  refine Tk 1 rfl rfl (pv_nilCheck rfl) rfl ?_
  refine Tk 2 rfl rfl (pv_fieldAddr0 rfl rfl) rfl ?_
  refine Tk 3 rfl rfl (pv_load rfl rfl rfl) rfl ?_
  refine Tk 4 rfl rfl (pv_move rfl) rfl ?_
  refine Tk 5 rfl rfl (pv_sliceL (i := 1) (j := ((Fo.roots r).map blk).length + 1) (r := ((Fo.roots r).map blk).length) rfl ⟨_, rfl⟩ rfl (by omega) hcap (by omega)) rfl ?_
  refine AnyH.one 6 (by kernel_rfl) ?_
  refine Turn.ef rfl rfl (ef_buildSlice2 rfl rfl rfl rfl rfl rfl) ?_ ?_
  ·
   rintro _ _ ⟨b3, rfl, rfl⟩; infer_instance
  rintro _ _ ⟨b3, rfl, rfl⟩
  refine AnyH.one 7 (by kernel_rfl) ?_
  refine Turn.ef rfl rfl (ef_call (tr_concat2 (J ++ (segs (knS blk T kv kH) T.n)) b3 2 _ _ _ _ ((Fo.roots c).map blk) ((Fo.roots r).map blk) (hvq.mono (by intro p hp; exact List.mem_append_right _ hp)) (hpt.mono (by intro p hp; exact List.mem_append_left _ hp)) (by rw [List.length_append]; omega)) rfl rfl) ?_ ?_
  ·
   rintro _ _ ⟨_, _, ⟨J2, hJ2, rfl⟩, rfl, rfl⟩; infer_instance
  rintro _ _ ⟨_, _, ⟨J2, hJ2, rfl⟩, rfl, rfl⟩
  refine AnyH.app ?_
  obtain ⟨xa1, xc1, rfl⟩ := hJ2.form
  refine Tk 8 rfl rfl (pv_assign rfl) rfl ?_
  refine AnyH.done (by kernel_rfl) ?_
  refine Ends.block_normal ?_
  refine Ends.goes ?_
  refine Goes.back (hK (u1, K1, _, J2, dn ++ [T.sl q], Fo.app c r) ⟨?_, ?_, Fo.OkK.app ok2 ok3, ?_, ?_, ?_⟩ (by dsimp only; rw [Fo.all_app]; simp only [Fo.all, List.length_cons, List.length_append]; omega)) ⟨rfl, rfl, trivial⟩
  ·
   dsimp only; rw [List.length_append, slotsCells_app]; exact hu1
  ·
   dsimp only; rw [Fo.roots_app, List.map_append]; exact hJ2
  ·
   intro z hz; dsimp only at hz; rw [Fo.all_app] at hz; exact hlt z (by simp only [Fo.all, List.mem_cons]; exact .inr hz)
  ·
   dsimp only; rw [← htot, Fo.all_app]; simp [Fo.all]
  dsimp only; rw [Fo.all_app, List.length_append, List.length_append]; simp; omega
 refine Wp.exit ?_
 refine Ends.then_exit ?_
 refine Ends.then_exit ?_
 refine Ends.block_hit ?_
 refine Ends.seq ?_
 refine Wr ?_
 refine Om1 rfl rfl ?_
 refine Oa1 rfl rfl ?_
 refine On ?_
 refine Wp.ret ?_
 obtain rfl := fo_nil (g := g) (blk := blk) (by assumption)
 simp only [Fo.all, List.map_nil, List.append_nil] at htot
 rw [← htot]
 exact Ends.ret (L' := K ++ (trBlk tb mb :: mpBlk mb blk T.M clk :: segs (knS blk T kv kH) T.n)) (res1 rfl rfl) ⟨K, hu, rfl⟩
theorem tr_tadd_has (tb : Nat) (L : Hp) (T : TreeM) (hH : TrH T tb L) (s : SlotM) (v0 : Value) (i : Nat) (h : tget s T.M = some i) : Tr Tryz.prog 112 [.pointer (some ⟨tb, 0, none⟩), slotV s, v0] (L) (fun u L' => u = .int .i64 4 ∧ TrH T tb L') := by
 obtain ⟨mb, clk, blk, kv, kH, hk, rfl⟩ := hH
 refine Tr.enter Tryz.func112 rfl Tryz.ntmps112 rfl (fun W F => ?_)
 refine Wp.app ?_
 refine Wr ?_
 refine Ops.ef rfl (ef_boxK rfl rfl) ?_
 rintro _ _ ⟨b1, rfl, rfl⟩
 refine Oa1 rfl rfl ?_
 refine On ?_
 refine Wp.seq ?_
 refine Wr ?_
 refine Om1 rfl rfl ?_
 refine Ops.pv (pv_loadK [_, _] rfl rfl rfl ⟨rfl, rfl, trivial⟩) rfl ?_
 refine Ops.ef rfl (ef_callr ((tr_tHas tb _ T ⟨mb, clk, blk, kv, kH, hk, rfl⟩ s).eq (r' := .bool true) (by simp [h])) rfl rfl) ?_
 rintro _ _ ⟨rfl, rfl⟩
 refine On ?_
 refine Wp.cond_true rfl ?_
 refine Wr ?_
 refine Oa1 rfl rfl ?_
 refine On ?_
 refine Wp.ret ?_
 refine Ends.then_ret ?_
 exact Ends.ret (L' := trBlk tb mb :: mpBlk mb blk T.M clk :: segs (knS blk T kv kH) T.n) (res1 rfl rfl) ⟨rfl, mb, clk, blk, kv, kH, hk, rfl⟩
theorem tr_tadd_root (tb : Nat) (L : Hp) (T : TreeM) (hH : TrH T tb L) (hx : T.Ix) (s : SlotM) (h : tget s T.M = none) : Tr Tryz.prog 112 [.pointer (some ⟨tb, 0, none⟩), slotV s, .pointer none] (L) (fun u L' => u = .int .i64 0 ∧ ∃ t, TrH (T.more s none t) tb L') := by
 obtain ⟨mb, clk, blk, kv, kH, hk, rfl⟩ := hH
 refine Tr.enter Tryz.func112 rfl Tryz.ntmps112 rfl (fun W F => ?_)
 refine Wp.app ?_
 refine Wr ?_
 refine Ops.ef rfl (ef_boxK rfl rfl) ?_
 rintro _ _ ⟨b1, rfl, rfl⟩
 refine Oa1 rfl rfl ?_
 refine On ?_
 refine Wp.seq ?_
 refine Wr ?_
 refine Om1 rfl rfl ?_
 refine Ops.pv (pv_loadK [_, _] rfl rfl rfl ⟨rfl, rfl, trivial⟩) rfl ?_
 refine Ops.ef rfl (ef_callr ((tr_tHas tb _ T ⟨mb, clk, blk, kv, kH, hk, rfl⟩ s).eq (r' := .bool false) (by simp [h])) rfl rfl) ?_
 rintro _ _ ⟨rfl, rfl⟩
 refine On ?_
 refine Wp.cond_false rfl ?_
 refine Wp.skip ?_
 refine Ends.seq ?_
 refine Wr ?_
 refine Ops.pv (pv_loadK [_, _] rfl rfl rfl ⟨rfl, rfl, trivial⟩) rfl ?_
 refine Om1 rfl rfl ?_
 refine Ops.pv (pv_build rfl) rfl ?_
 refine Ops.ef rfl (ef_boxK rfl rfl) ?_
 rintro _ _ ⟨b2, rfl, rfl⟩
 refine Oa1 rfl rfl ?_
 refine On ?_
 refine Wp.seq ?_
 refine AnyH.start ((b1, .cells [.int .i64 s.1, .int .i64 s.2].toArray 31) :: trBlk tb mb :: []) 7 rfl ?_
 refine Tk 0 rfl rfl (pv_move rfl) rfl ?_
 refine Tk 1 rfl rfl (pv_nilCheck rfl) rfl ?_
 refine Tk 2 rfl rfl (pv_fieldAddr0 rfl rfl) rfl ?_
 refine Tk 3 rfl rfl (pv_load rfl rfl rfl) rfl ?_
 refine Tk 4 rfl rfl (pv_loadK [_, _] rfl rfl rfl ⟨rfl, rfl, trivial⟩) rfl ?_
 refine Tk 5 rfl rfl (pv_move rfl) rfl ?_
 refine AnyH.one 6 (by kernel_rfl) ?_
 refine Turn.ef rfl rfl (ef_mapUpdate_s _ rfl rfl rfl) ?_ ?_
 ·
  rintro _ _ ⟨rfl, rfl⟩; infer_instance
 rintro _ _ ⟨rfl, rfl⟩
 refine AnyH.done (by kernel_rfl) ?_
 refine Ends.seq ?_
 refine Wp.seq ?_
 refine Wr ?_
 refine Om1 rfl rfl ?_
 refine Ops.pv (pv_neq_nil rfl rfl) rfl ?_
 refine On ?_
 refine Wp.cond_false rfl ?_
 refine Wp.skip ?_
 refine Ends.seq ?_
 refine Wr ?_
 refine Oa1 rfl rfl ?_
 refine On ?_
 refine Wp.ret ?_
 rw [tput_new h, tclk_new h]
 refine Ends.heap (L' := trBlk tb mb :: (mb, mapO encS (kvT blk T.M ++ [(s, .pointer (some ⟨b2, 0, none⟩), clk)]) (clk + 1)) :: ((segs (knS blk T kv kH) T.n ++ [(b2, .cells [.int .i64 s.1, .int .i64 s.2, .pointer none, .slice none 0 0].toArray 134)]) ++ F)) (fun w ho => ?_) ?_
 ·
  have h2 : Own W w (trBlk tb mb :: (mb, mapO encS (kvT blk T.M ++ [(s, .pointer (some ⟨b2, 0, none⟩), clk)]) (clk + 1)) :: (segs (knS blk T kv kH) T.n ++ ((b2, .cells [.int .i64 s.1, .int .i64 s.2, .pointer none, .slice none 0 0].toArray 134) :: F))) := Drop.own ho
  rw [List.append_assoc]; exact h2
 rw [← more_root hx (t := clk), ← more_kvT hx]
 exact Ends.ret (L' := trBlk tb mb :: (mb, mapO encS (kvT (fset blk T.n b2) (T.M ++ [(s, T.n, clk)])) (clk + 1)) :: segs (knS (fset blk T.n b2) (T.more s none clk) (fset kv T.n (.slice none 0 0)) (fset kH T.n [])) (T.n + 1)) (res1 rfl rfl) ⟨rfl, clk, mb, clk + 1, fset blk T.n b2, _, _, more_root_ok hx hk, rfl⟩
theorem tr_tadd_child (tb mb clk : Nat) (blk : Nat → Nat) (T : TreeM) (kv : Nat → Value) (kH : Nat → Hp) (hk : kidsOk blk T kv kH) (hx : T.Ix) (hn : T.n ≤ 2 ^ 20) (s : SlotM) (j : Nat) (hj : j < T.n) (h : tget s T.M = none) : Tr Tryz.prog 112 [.pointer (some ⟨tb, 0, none⟩), slotV s, .pointer (some ⟨blk j, 0, none⟩)] (trBlk tb mb :: mpBlk mb blk T.M clk :: segs (knS blk T kv kH) T.n) (fun u L' => u = .int .i64 0 ∧ ∃ t, TrH (T.more s (some j) t) tb L') := by
 have hkj := hk j hj
 have hsm := hx.small j hj
 refine Tr.enter Tryz.func112 rfl Tryz.ntmps112 rfl (fun W F => ?_)
 refine Wp.app ?_
 refine Wr ?_
 refine Ops.ef rfl (ef_boxK rfl rfl) ?_
 rintro _ _ ⟨b1, rfl, rfl⟩
 refine Oa1 rfl rfl ?_
 refine On ?_
 refine Wp.seq ?_
 refine Wr ?_
 refine Om1 rfl rfl ?_
 refine Ops.pv (pv_loadK [_, _] rfl rfl rfl ⟨rfl, rfl, trivial⟩) rfl ?_
 refine Ops.ef rfl (ef_callr ((tr_tHas tb _ T ⟨mb, clk, blk, kv, kH, hk, rfl⟩ s).eq (r' := .bool false) (by simp [h])) rfl rfl) ?_
 rintro _ _ ⟨rfl, rfl⟩
 refine On ?_
 refine Wp.cond_false rfl ?_
 refine Wp.skip ?_
 refine Ends.seq ?_
 refine Wr ?_
 refine Ops.pv (pv_loadK [_, _] rfl rfl rfl ⟨rfl, rfl, trivial⟩) rfl ?_
 refine Om1 rfl rfl ?_
 refine Ops.pv (pv_build rfl) rfl ?_
 refine Ops.ef rfl (ef_boxK rfl rfl) ?_
 rintro _ _ ⟨b2, rfl, rfl⟩
 refine Oa1 rfl rfl ?_
 refine On ?_
 refine Wp.seq ?_
 refine AnyH.start ((b1, .cells [.int .i64 s.1, .int .i64 s.2].toArray 31) :: trBlk tb mb :: []) 7 rfl ?_
 refine Tk 0 rfl rfl (pv_move rfl) rfl ?_
 refine Tk 1 rfl rfl (pv_nilCheck rfl) rfl ?_
 refine Tk 2 rfl rfl (pv_fieldAddr0 rfl rfl) rfl ?_
 refine Tk 3 rfl rfl (pv_load rfl rfl rfl) rfl ?_
 refine Tk 4 rfl rfl (pv_loadK [_, _] rfl rfl rfl ⟨rfl, rfl, trivial⟩) rfl ?_
 refine Tk 5 rfl rfl (pv_move rfl) rfl ?_
 refine AnyH.one 6 (by kernel_rfl) ?_
 refine Turn.ef rfl rfl (ef_mapUpdate_s _ rfl rfl rfl) ?_ ?_
 ·
  rintro _ _ ⟨rfl, rfl⟩; infer_instance
 rintro _ _ ⟨rfl, rfl⟩
 refine AnyH.done (by kernel_rfl) ?_
 refine Ends.seq ?_
 refine Wp.seq ?_
 refine Wr ?_
 refine Om1 rfl rfl ?_
 refine Ops.pv (pv_neq_nil rfl rfl) rfl ?_
 refine On ?_
 refine Wp.cond_true rfl ?_
 refine Wp.region ?_
 rw [tput_new h, tclk_new h]
 refine Ops.openS (knS blk T kv kH) T.n j hj ?_
 dsimp only [knS, List.cons_append]
 refine Om1 rfl rfl ?_
 refine Om1 rfl rfl ?_
 refine Ops.pv (pv_nilCheck rfl) rfl ?_
 refine Of1 rfl rfl rfl ?_
 refine Ol1 rfl rfl rfl rfl ?_
 refine Om1 rfl rfl ?_
 refine Ops.ef rfl (ef_buildSlice1 (k := 1) rfl rfl rfl rfl rfl) ?_
 rintro _ _ ⟨b3, rfl, rfl⟩
 refine Ops.ef rfl (ef_append (H := kH j) (xs := [.pointer (some ⟨b2, 0, none⟩)]) rfl hkj rfl ⟨rfl, trivial⟩ rfl rfl rfl (by omega) (by omega) rfl rfl) ?_
 rintro _ _ ⟨u1, H1, hu1, rfl, rfl⟩
 refine Ops.app ?_
 have ho1 := hu1.one
 have ho2 := hu1.cells1
 refine Ops.pv (pv_nilCheck rfl) rfl ?_
 refine Of1 rfl rfl rfl ?_
 refine Ops.ef rfl (ef_store1 rfl rfl (by first | rfl | assumption) (by first | rfl | assumption)) ?_
 rintro _ _ ⟨rfl, rfl⟩
 refine On ?_
 refine Wr ?_
 refine Oa1 rfl rfl ?_
 refine On ?_
 refine Wp.ret ?_
 refine Ends.closeS (knS blk T kv kH) T.n j ((blk j, .cells [.int .i64 (T.sl j).1, .int .i64 (T.sl j).2, ptrO blk (T.par j), u1].toArray 134) :: H1) hj ?_
 refine Ends.heap (L' := trBlk tb mb :: (mb, mapO encS (kvT blk T.M ++ [(s, .pointer (some ⟨b2, 0, none⟩), clk)]) (clk + 1)) :: ((segs (fset (knS blk T kv kH) j ((blk j, .cells [.int .i64 (T.sl j).1, .int .i64 (T.sl j).2, ptrO blk (T.par j), u1].toArray 134) :: H1)) T.n ++ [(b2, .cells [.int .i64 s.1, .int .i64 s.2, .pointer (some ⟨blk j, 0, none⟩), .slice none 0 0].toArray 134)]) ++ F)) (fun w ho => ?_) ?_
 ·
  have h2 : Own W w (trBlk tb mb :: (mb, mapO encS (kvT blk T.M ++ [(s, .pointer (some ⟨b2, 0, none⟩), clk)]) (clk + 1)) :: (segs (fset (knS blk T kv kH) j ((blk j, .cells [.int .i64 (T.sl j).1, .int .i64 (T.sl j).2, ptrO blk (T.par j), u1].toArray 134) :: H1)) T.n ++ ((b2, .cells [.int .i64 s.1, .int .i64 s.2, .pointer (some ⟨blk j, 0, none⟩), .slice none 0 0].toArray 134) :: F))) := Drop.own ho
  rw [List.append_assoc]; exact h2
 rw [← more_child hx (t := clk) hj, ← more_kvT hx]
 exact Ends.ret (L' := trBlk tb mb :: (mb, mapO encS (kvT (fset blk T.n b2) (T.M ++ [(s, T.n, clk)])) (clk + 1)) :: segs (knS (fset blk T.n b2) (T.more s (some j) clk) (fset (fset kv T.n (.slice none 0 0)) j u1) (fset (fset kH T.n []) j H1)) (T.n + 1)) (res1 rfl rfl) ⟨rfl, clk, mb, clk + 1, fset blk T.n b2, _, _, more_child_ok hx hk hj hu1, rfl⟩
theorem tr_taddR (tb : Nat) (L : Hp) (T : TreeM) (hH : TrH T tb L) (hx : T.Ix) (s : SlotM) : Tr Tryz.prog 112 [.pointer (some ⟨tb, 0, none⟩), slotV s, .pointer none] L (fun u L' => ∃ e T', u = .int .i64 e ∧ TAdd T s none e T' ∧ TrH T' tb L') := by
 cases h : tget s T.M with
 | none => exact (tr_tadd_root tb L T hH hx s h).mono fun u L' ⟨hu, t, hl⟩ => ⟨0, _, hu, .inr ⟨h, rfl, t, rfl⟩, hl⟩
 | some i => exact (tr_tadd_has tb L T hH s (.pointer none) i h).mono fun u L' ⟨hu, hl⟩ => ⟨4, T, hu, .inl ⟨i, h, rfl, rfl⟩, hl⟩
theorem tr_taddC (tb mb clk : Nat) (blk : Nat → Nat) (T : TreeM) (kv : Nat → Value) (kH : Nat → Hp) (hk : kidsOk blk T kv kH) (hx : T.Ix) (hn : T.n ≤ 2 ^ 20) (s : SlotM) (j : Nat) (hj : j < T.n) :
    Tr Tryz.prog 112 [.pointer (some ⟨tb, 0, none⟩), slotV s, .pointer (some ⟨blk j, 0, none⟩)] (trBlk tb mb :: mpBlk mb blk T.M clk :: segs (knS blk T kv kH) T.n) (fun u L' => ∃ e T', u = .int .i64 e ∧ TAdd T s (some j) e T' ∧ TrH T' tb L') := by
  cases h : tget s T.M with
  | none => exact (tr_tadd_child tb mb clk blk T kv kH hk hx hn s j hj h).mono fun u L' ⟨hu, t, hl⟩ => ⟨0, _, hu, .inr ⟨h, rfl, t, rfl⟩, hl⟩
  | some i => exact (tr_tadd_has tb _ T ⟨mb, clk, blk, kv, kH, hk, rfl⟩ s (.pointer (some ⟨blk j, 0, none⟩)) i h).mono fun u L' ⟨hu, hl⟩ => ⟨4, T, hu, .inl ⟨i, h, rfl, rfl⟩, hl⟩
theorem tr_tRoot (tb : Nat) (L : Hp) (T : TreeM) (hH : TrH T tb L) (hx : T.Ix) (s : SlotM) : Tr Tryz.prog 78 [.pointer (some ⟨tb, 0, none⟩), slotV s] (L) (fun u L' => ∃ e T', u = .int .i64 e ∧ TAdd T s none e T' ∧ TrH T' tb L') := by
 refine Tr.enter Tryz.func78 rfl Tryz.ntmps78 rfl (fun W F => ?_)
 refine Wp.app ?_
 refine Wr ?_
 refine Ops.ef rfl (ef_boxK rfl rfl) ?_
 rintro _ _ ⟨b1, rfl, rfl⟩
 refine Oa1 rfl rfl ?_
 refine On ?_
 refine Wr ?_
 refine Om1 rfl rfl ?_
 refine Ops.pv (pv_loadK [_, _] rfl rfl rfl ⟨rfl, rfl, trivial⟩) rfl ?_
 refine Ops.ef rfl (ef_call (tr_taddR tb L T hH hx s) rfl rfl) ?_
 rintro _ _ ⟨_, Q1, ⟨e1, T1, rfl, ha1, hH1⟩, rfl, rfl⟩
 refine Ops.app ?_
 skip
 refine Oa1 rfl rfl ?_
 refine On ?_
 refine Wp.ret ?_
 exact Ends.ret (L' := Q1) (res1 rfl rfl) ⟨e1, T1, rfl, ha1, hH1⟩
theorem tr_tChild0 (tb : Nat) (L : Hp) (T : TreeM) (hH : TrH T tb L) (o s : SlotM) (h : tget o T.M = none) : Tr Tryz.prog 82 [.pointer (some ⟨tb, 0, none⟩), slotV o, slotV s] (L) (fun u L' => u = .int .i64 3 ∧ TrH T tb L') := by
 obtain ⟨mb, clk, blk, kv, kH, hk, rfl⟩ := hH
 have hm := tptr_hm blk T.M o
 rw [tptr_no h] at hm
 refine Tr.enter Tryz.func82 rfl Tryz.ntmps82 rfl (fun W F => ?_)
 refine Wp.app ?_
 refine Wr ?_
 refine Ops.ef rfl (ef_boxK rfl rfl) ?_
 rintro _ _ ⟨b1, rfl, rfl⟩
 refine Ops.ef rfl (ef_boxK rfl rfl) ?_
 rintro _ _ ⟨b2, rfl, rfl⟩
 refine Oa1 rfl rfl ?_
 refine On ?_
 refine Wp.seq ?_
 refine AnyH.start ((b1, .cells [.int .i64 o.1, .int .i64 o.2].toArray 31) :: trBlk tb mb :: mpBlk mb blk T.M clk :: segs (knS blk T kv kH) T.n) 7 rfl ?_
 refine Tk 0 rfl rfl (pv_move rfl) rfl ?_
 refine Tk 1 rfl rfl (pv_nilCheck rfl) rfl ?_
 refine Tk 2 rfl rfl (pv_fieldAddr0 rfl rfl) rfl ?_
 refine Tk 3 rfl rfl (pv_load rfl rfl rfl) rfl ?_
 refine Tk 4 rfl rfl (pv_loadK [_, _] rfl rfl rfl ⟨rfl, rfl, trivial⟩) rfl ?_
 refine Tk 5 rfl rfl (pv_lookup_s o rfl rfl hm) rfl ?_
 refine Tk 6 rfl rfl (pv_assign rfl) rfl ?_
 refine AnyH.done (by kernel_rfl) ?_
 refine Ends.seq ?_
 refine Wp.seq ?_
 refine Wr ?_
 refine Om1 rfl rfl ?_
 refine Ops.pv (pv_eql_nil rfl rfl) rfl ?_
 refine On ?_
 refine Wp.cond_true rfl ?_
 refine Wr ?_
 refine Oa1 rfl rfl ?_
 refine On ?_
 refine Wp.ret ?_
 refine Ends.then_ret ?_
 exact Ends.ret (L' := trBlk tb mb :: mpBlk mb blk T.M clk :: segs (knS blk T kv kH) T.n) (res1 rfl rfl) ⟨rfl, mb, clk, blk, kv, kH, hk, rfl⟩
theorem tr_tChild1 (tb : Nat) (L : Hp) (T : TreeM) (hH : TrH T tb L) (hx : T.Ix) (hn : T.n ≤ 2 ^ 20) (o s : SlotM) (j : Nat) (h : tget o T.M = some j) : Tr Tryz.prog 82 [.pointer (some ⟨tb, 0, none⟩), slotV o, slotV s] (L) (fun u L' => ∃ e T', u = .int .i64 e ∧ TAdd T s (some j) e T' ∧ TrH T' tb L') := by
 obtain ⟨mb, clk, blk, kv, kH, hk, rfl⟩ := hH
 have hm := tptr_hm blk T.M o
 rw [tptr_some h] at hm
 have hj := hx.get h
 refine Tr.enter Tryz.func82 rfl Tryz.ntmps82 rfl (fun W F => ?_)
 refine Wp.app ?_
 refine Wr ?_
 refine Ops.ef rfl (ef_boxK rfl rfl) ?_
 rintro _ _ ⟨b1, rfl, rfl⟩
 refine Ops.ef rfl (ef_boxK rfl rfl) ?_
 rintro _ _ ⟨b2, rfl, rfl⟩
 refine Oa1 rfl rfl ?_
 refine On ?_
 refine Wp.seq ?_
 refine AnyH.start ((b1, .cells [.int .i64 o.1, .int .i64 o.2].toArray 31) :: trBlk tb mb :: mpBlk mb blk T.M clk :: segs (knS blk T kv kH) T.n) 7 rfl ?_
 refine Tk 0 rfl rfl (pv_move rfl) rfl ?_
 refine Tk 1 rfl rfl (pv_nilCheck rfl) rfl ?_
 refine Tk 2 rfl rfl (pv_fieldAddr0 rfl rfl) rfl ?_
 refine Tk 3 rfl rfl (pv_load rfl rfl rfl) rfl ?_
 refine Tk 4 rfl rfl (pv_loadK [_, _] rfl rfl rfl ⟨rfl, rfl, trivial⟩) rfl ?_
 refine Tk 5 rfl rfl (pv_lookup_s o rfl rfl hm) rfl ?_
 refine Tk 6 rfl rfl (pv_assign rfl) rfl ?_
 refine AnyH.done (by kernel_rfl) ?_
 refine Ends.seq ?_
 refine Wp.seq ?_
 refine Wr ?_
 refine Om1 rfl rfl ?_
 refine Ops.pv (pv_eql_nil rfl rfl) rfl ?_
 refine On ?_
 refine Wp.cond_false rfl ?_
 refine Wp.skip ?_
 refine Ends.seq ?_
 refine Wr ?_
 refine Om1 rfl rfl ?_
 refine Ops.pv (pv_loadK [_, _] rfl rfl rfl ⟨rfl, rfl, trivial⟩) rfl ?_
 refine Om1 rfl rfl ?_
 refine Ops.ef rfl (ef_call (tr_taddC tb mb clk blk T kv kH hk hx hn s j hj) rfl rfl) ?_
 rintro _ _ ⟨_, Q1, ⟨e1, T1, rfl, ha1, hH1⟩, rfl, rfl⟩
 refine Ops.app ?_
 skip
 refine Oa1 rfl rfl ?_
 refine On ?_
 refine Wp.ret ?_
 exact Ends.ret (L' := Q1) (res1 rfl rfl) ⟨e1, T1, rfl, ha1, hH1⟩
theorem tr_tChild (tb : Nat) (L : Hp) (T : TreeM) (hH : TrH T tb L) (hx : T.Ix) (hn : T.n ≤ 2 ^ 20) (o s : SlotM) : Tr Tryz.prog 82 [.pointer (some ⟨tb, 0, none⟩), slotV o, slotV s] L (fun u L' => ∃ e T', u = .int .i64 e ∧ TChild T o s e T' ∧ TrH T' tb L') := by
 cases h : tget o T.M with
 | none => exact (tr_tChild0 tb L T hH o s h).mono fun u L' ⟨hu, hl⟩ => ⟨3, T, hu, .inl ⟨h, rfl, rfl⟩, hl⟩
 | some j => exact (tr_tChild1 tb L T hH hx hn o s j h).mono fun u L' ⟨e, T', hu, ha, hl⟩ => ⟨e, T', hu, .inr ⟨j, h, ha⟩, hl⟩
theorem tr_tMove0 (tb : Nat) (L : Hp) (T : TreeM) (hH : TrH T tb L) (o s : SlotM) (h : tget o T.M = none) : Tr Tryz.prog 93 [.pointer (some ⟨tb, 0, none⟩), slotV o, slotV s] (L) (fun u L' => u = .int .i64 3 ∧ TrH T tb L') := by
 obtain ⟨mb, clk, blk, kv, kH, hk, rfl⟩ := hH
 have hm := tptr_hm blk T.M o
 rw [tptr_no h] at hm
 refine Tr.enter Tryz.func93 rfl Tryz.ntmps93 rfl (fun W F => ?_)
 refine Wp.app ?_
 refine Wr ?_
 refine Ops.ef rfl (ef_boxK rfl rfl) ?_
 rintro _ _ ⟨b1, rfl, rfl⟩
 refine Ops.ef rfl (ef_boxK rfl rfl) ?_
 rintro _ _ ⟨b2, rfl, rfl⟩
 refine Oa1 rfl rfl ?_
 refine On ?_
 refine Wp.seq ?_
 refine AnyH.start ((b1, .cells [.int .i64 o.1, .int .i64 o.2].toArray 31) :: trBlk tb mb :: mpBlk mb blk T.M clk :: segs (knS blk T kv kH) T.n) 7 rfl ?_
 refine Tk 0 rfl rfl (pv_move rfl) rfl ?_
 refine Tk 1 rfl rfl (pv_nilCheck rfl) rfl ?_
 refine Tk 2 rfl rfl (pv_fieldAddr0 rfl rfl) rfl ?_
 refine Tk 3 rfl rfl (pv_load rfl rfl rfl) rfl ?_
 refine Tk 4 rfl rfl (pv_loadK [_, _] rfl rfl rfl ⟨rfl, rfl, trivial⟩) rfl ?_
 refine Tk 5 rfl rfl (pv_lookup_s o rfl rfl hm) rfl ?_
 refine Tk 6 rfl rfl (pv_assign rfl) rfl ?_
 refine AnyH.done (by kernel_rfl) ?_
 refine Ends.seq ?_
 refine Wp.seq ?_
 refine Wp.block ?_
 refine Wr ?_
 refine Om1 rfl rfl ?_
 refine Ops.pv (pv_eql_nil rfl rfl) rfl ?_
 refine Oa1 rfl rfl ?_
 refine On ?_
 refine Wp.cond_true rfl ?_
 refine Wr ?_
 refine Oa1 rfl rfl ?_
 refine On ?_
 refine Wp.ret ?_
 refine Ends.block_ret ?_
 refine Ends.then_ret ?_
 exact Ends.ret (L' := trBlk tb mb :: mpBlk mb blk T.M clk :: segs (knS blk T kv kH) T.n) (res1 rfl rfl) ⟨rfl, mb, clk, blk, kv, kH, hk, rfl⟩
theorem tr_tMove1 (tb : Nat) (L : Hp) (T : TreeM) (hH : TrH T tb L) (hx : T.Ix) (o s : SlotM) (i j : Nat) (h : tget o T.M = some i) (h2 : tget s T.M = some j) : Tr Tryz.prog 93 [.pointer (some ⟨tb, 0, none⟩), slotV o, slotV s] (L) (fun u L' => u = .int .i64 4 ∧ TrH T tb L') := by
 obtain ⟨mb, clk, blk, kv, kH, hk, rfl⟩ := hH
 have hm := tptr_hm blk T.M o
 rw [tptr_some h] at hm
 refine Tr.enter Tryz.func93 rfl Tryz.ntmps93 rfl (fun W F => ?_)
 refine Wp.app ?_
 refine Wr ?_
 refine Ops.ef rfl (ef_boxK rfl rfl) ?_
 rintro _ _ ⟨b1, rfl, rfl⟩
 refine Ops.ef rfl (ef_boxK rfl rfl) ?_
 rintro _ _ ⟨b2, rfl, rfl⟩
 refine Oa1 rfl rfl ?_
 refine On ?_
 refine Wp.seq ?_
 refine AnyH.start ((b1, .cells [.int .i64 o.1, .int .i64 o.2].toArray 31) :: trBlk tb mb :: mpBlk mb blk T.M clk :: segs (knS blk T kv kH) T.n) 7 rfl ?_
 refine Tk 0 rfl rfl (pv_move rfl) rfl ?_
 refine Tk 1 rfl rfl (pv_nilCheck rfl) rfl ?_
 refine Tk 2 rfl rfl (pv_fieldAddr0 rfl rfl) rfl ?_
 refine Tk 3 rfl rfl (pv_load rfl rfl rfl) rfl ?_
 refine Tk 4 rfl rfl (pv_loadK [_, _] rfl rfl rfl ⟨rfl, rfl, trivial⟩) rfl ?_
 refine Tk 5 rfl rfl (pv_lookup_s o rfl rfl hm) rfl ?_
 refine Tk 6 rfl rfl (pv_assign rfl) rfl ?_
 refine AnyH.done (by kernel_rfl) ?_
 refine Ends.seq ?_
 refine Wp.seq ?_
 refine Wp.block ?_
 refine Wr ?_
 refine Om1 rfl rfl ?_
 refine Ops.pv (pv_eql_nil rfl rfl) rfl ?_
 refine Oa1 rfl rfl ?_
 refine On ?_
 refine Wp.cond_false rfl ?_
 refine Wr ?_
 refine Om1 rfl rfl ?_
 refine Ops.pv (pv_loadK [_, _] rfl rfl rfl ⟨rfl, rfl, trivial⟩) rfl ?_
 refine Ops.ef rfl (ef_callr ((tr_tHas tb _ T ⟨mb, clk, blk, kv, kH, hk, rfl⟩ s).eq (r' := .bool true) (by simp [h2])) rfl rfl) ?_
 rintro _ _ ⟨rfl, rfl⟩
 refine Oa1 rfl rfl ?_
 refine On ?_
 refine Wp.cond_true rfl ?_
 refine Wr ?_
 refine Oa1 rfl rfl ?_
 refine On ?_
 refine Wp.ret ?_
 refine Ends.block_ret ?_
 refine Ends.then_ret ?_
 exact Ends.ret (L' := trBlk tb mb :: mpBlk mb blk T.M clk :: segs (knS blk T kv kH) T.n) (res1 rfl rfl) ⟨rfl, mb, clk, blk, kv, kH, hk, rfl⟩
theorem tr_tMove2 (tb : Nat) (L : Hp) (T : TreeM) (hH : TrH T tb L) (hx : T.Ix) (o s : SlotM) (i : Nat) (h : tget o T.M = some i) (h2 : tget s T.M = none) : Tr Tryz.prog 93 [.pointer (some ⟨tb, 0, none⟩), slotV o, slotV s] (L) (fun u L' => u = .int .i64 0 ∧ ∃ t, TrH (T.moved o s i t) tb L') := by
 obtain ⟨mb, clk, blk, kv, kH, hk, rfl⟩ := hH
 have hm := tptr_hm blk T.M o
 rw [tptr_some h] at hm
 have hi := hx.get h
 have hb_i := kn_blk (blk := blk) (T := T) (kv := kv) (kH := kH) (i := i) hi
 have hupd := fun o1 => segs_upd (h := knS blk T kv kH) (o' := o1) hi rfl
 refine Tr.enter Tryz.func93 rfl Tryz.ntmps93 rfl (fun W F => ?_)
 refine Wp.app ?_
 refine Wr ?_
 refine Ops.ef rfl (ef_boxK rfl rfl) ?_
 rintro _ _ ⟨b1, rfl, rfl⟩
 refine Ops.ef rfl (ef_boxK rfl rfl) ?_
 rintro _ _ ⟨b2, rfl, rfl⟩
 refine Oa1 rfl rfl ?_
 refine On ?_
 refine Wp.seq ?_
 refine AnyH.start ((b1, .cells [.int .i64 o.1, .int .i64 o.2].toArray 31) :: trBlk tb mb :: mpBlk mb blk T.M clk :: segs (knS blk T kv kH) T.n) 7 rfl ?_
 refine Tk 0 rfl rfl (pv_move rfl) rfl ?_
 refine Tk 1 rfl rfl (pv_nilCheck rfl) rfl ?_
 refine Tk 2 rfl rfl (pv_fieldAddr0 rfl rfl) rfl ?_
 refine Tk 3 rfl rfl (pv_load rfl rfl rfl) rfl ?_
 refine Tk 4 rfl rfl (pv_loadK [_, _] rfl rfl rfl ⟨rfl, rfl, trivial⟩) rfl ?_
 refine Tk 5 rfl rfl (pv_lookup_s o rfl rfl hm) rfl ?_
 refine Tk 6 rfl rfl (pv_assign rfl) rfl ?_
 refine AnyH.done (by kernel_rfl) ?_
 refine Ends.seq ?_
 refine Wp.seq ?_
 refine Wp.block ?_
 refine Wr ?_
 refine Om1 rfl rfl ?_
 refine Ops.pv (pv_eql_nil rfl rfl) rfl ?_
 refine Oa1 rfl rfl ?_
 refine On ?_
 refine Wp.cond_false rfl ?_
 refine Wr ?_
 refine Om1 rfl rfl ?_
 refine Ops.pv (pv_loadK [_, _] rfl rfl rfl ⟨rfl, rfl, trivial⟩) rfl ?_
 refine Ops.ef rfl (ef_callr ((tr_tHas tb _ T ⟨mb, clk, blk, kv, kH, hk, rfl⟩ s).eq (r' := .bool false) (by simp [h2])) rfl rfl) ?_
 rintro _ _ ⟨rfl, rfl⟩
 refine Oa1 rfl rfl ?_
 refine On ?_
 refine Wp.cond_false rfl ?_
 refine Wp.skip ?_
 refine Ends.block_normal ?_
 refine Ends.seq ?_
 refine Wp.seq ?_
 refine AnyH.start ((b1, .cells [.int .i64 o.1, .int .i64 o.2].toArray 31) :: trBlk tb mb :: []) 6 rfl ?_
 refine Tk 0 rfl rfl (pv_move rfl) rfl ?_
 refine Tk 1 rfl rfl (pv_nilCheck rfl) rfl ?_
 refine Tk 2 rfl rfl (pv_fieldAddr0 rfl rfl) rfl ?_
 refine Tk 3 rfl rfl (pv_load rfl rfl rfl) rfl ?_
 refine Tk 4 rfl rfl (pv_loadK [_, _] rfl rfl rfl ⟨rfl, rfl, trivial⟩) rfl ?_
 refine AnyH.one 5 (by kernel_rfl) ?_
 refine Turn.ef rfl rfl (ef_deleten_s (T := 121) _ rfl rfl rfl) ?_ ?_
 ·
  rintro _ _ ⟨rfl, rfl⟩; infer_instance
 rintro _ _ ⟨rfl, rfl⟩
 refine AnyH.done (by kernel_rfl) ?_
 refine Ends.seq ?_
 refine Wr ?_
 refine Om1 rfl rfl ?_
 refine Ops.pv (pv_loadK [_, _] rfl rfl rfl ⟨rfl, rfl, trivial⟩) rfl ?_
 refine Ops.pv (pv_nilCheck rfl) rfl ?_
 refine Of1 rfl rfl rfl ?_
 refine Ops.ef rfl (ef_storeK rfl rfl rfl rfl) ?_
 rintro _ _ ⟨rfl, rfl⟩
 rw [moved_segs (f := o) (t := clk)]
 rw [tdel_kvT]
 refine On ?_
 refine Wp.seq ?_
 refine AnyH.start ((b2, .cells [.int .i64 s.1, .int .i64 s.2].toArray 31) :: trBlk tb mb :: []) 7 rfl ?_
 refine Tk 0 rfl rfl (pv_move rfl) rfl ?_
 refine Tk 1 rfl rfl (pv_nilCheck rfl) rfl ?_
 refine Tk 2 rfl rfl (pv_fieldAddr0 rfl rfl) rfl ?_
 refine Tk 3 rfl rfl (pv_load rfl rfl rfl) rfl ?_
 refine Tk 4 rfl rfl (pv_loadK [_, _] rfl rfl rfl ⟨rfl, rfl, trivial⟩) rfl ?_
 refine Tk 5 rfl rfl (pv_move rfl) rfl ?_
 refine AnyH.one 6 (by kernel_rfl) ?_
 refine Turn.ef rfl rfl (ef_mapUpdate_s _ rfl rfl rfl) ?_ ?_
 ·
  rintro _ _ ⟨rfl, rfl⟩; infer_instance
 rintro _ _ ⟨rfl, rfl⟩
 refine AnyH.done (by kernel_rfl) ?_
 refine Ends.seq ?_
 refine Wr ?_
 refine Oa1 rfl rfl ?_
 refine On ?_
 refine Wp.ret ?_
 rw [tput_new (tdel_none h2), tclk_new (tdel_none h2)]
 have em : kvT blk (tdel o T.M) ++ [(s, .pointer (some ⟨blk i, 0, none⟩), clk)] = kvT blk (T.moved o s i clk).M := by simp [kvT, TreeM.moved]
 rw [em]
 exact Ends.ret (L' := trBlk tb mb :: mpBlk mb blk (T.moved o s i clk).M (clk + 1) :: segs (knS blk (T.moved o s i clk) kv kH) T.n) (res1 rfl rfl) ⟨rfl, clk, mb, clk + 1, blk, kv, kH, hk, rfl⟩
theorem tr_tMove (tb : Nat) (L : Hp) (T : TreeM) (hH : TrH T tb L) (hx : T.Ix) (o s : SlotM) : Tr Tryz.prog 93 [.pointer (some ⟨tb, 0, none⟩), slotV o, slotV s] L (fun u L' => ∃ e T', u = .int .i64 e ∧ TMove T o s e T' ∧ TrH T' tb L') := by
 cases h : tget o T.M with
 | none => exact (tr_tMove0 tb L T hH o s h).mono fun u L' ⟨hu, hl⟩ => ⟨3, T, hu, .inl ⟨h, rfl, rfl⟩, hl⟩
 | some i =>
  cases h2 : tget s T.M with
  | some j => exact (tr_tMove1 tb L T hH hx o s i j h h2).mono fun u L' ⟨hu, hl⟩ => ⟨4, T, hu, .inr ⟨i, h, .inl ⟨j, h2, rfl, rfl⟩⟩, hl⟩
  | none => exact (tr_tMove2 tb L T hH hx o s i h h2).mono fun u L' ⟨hu, t, hl⟩ => ⟨0, _, hu, .inr ⟨i, h, .inr ⟨h2, rfl, t, rfl⟩⟩, hl⟩
end Go.Proofs.YtdodfnjmkpgdbaaGreat
end
section
set_option linter.unusedVariables false
set_option linter.unusedSimpArgs false
namespace Go.Proofs.YtdodfnjmkpgdbaaGreat
open Go.SL
theorem tr_tDrop0 (tb : Nat) (L : Hp) (T : TreeM) (hH : TrH T tb L) (s : SlotM) (h : tget s T.M = none) : Tr Tryz.prog 96 [.pointer (some ⟨tb, 0, none⟩), slotV s] (L) (fun u L' => u = .int .i64 3 ∧ TrH T tb L') := by
 obtain ⟨mb, clk, blk, kv, kH, hk, rfl⟩ := hH
 have hm := tptr_hm blk T.M s
 rw [tptr_no h] at hm
 refine Tr.enter Tryz.func96 rfl Tryz.ntmps96 rfl (fun W F => ?_)
 refine Wp.app ?_
 refine Wr ?_
 refine Ops.ef rfl (ef_boxK rfl rfl) ?_
 rintro _ _ ⟨b1, rfl, rfl⟩
 refine Oa1 rfl rfl ?_
 refine On ?_
 refine Wp.seq ?_
 refine AnyH.start ((b1, .cells [.int .i64 s.1, .int .i64 s.2].toArray 31) :: trBlk tb mb :: mpBlk mb blk T.M clk :: segs (knS blk T kv kH) T.n) 7 rfl ?_
 refine Tk 0 rfl rfl (pv_move rfl) rfl ?_
 refine Tk 1 rfl rfl (pv_nilCheck rfl) rfl ?_
 refine Tk 2 rfl rfl (pv_fieldAddr0 rfl rfl) rfl ?_
 refine Tk 3 rfl rfl (pv_load rfl rfl rfl) rfl ?_
 refine Tk 4 rfl rfl (pv_loadK [_, _] rfl rfl rfl ⟨rfl, rfl, trivial⟩) rfl ?_
 refine Tk 5 rfl rfl (pv_lookup_s s rfl rfl hm) rfl ?_
 refine Tk 6 rfl rfl (pv_assign rfl) rfl ?_
 refine AnyH.done (by kernel_rfl) ?_
 refine Ends.seq ?_
 refine Wp.seq ?_
 refine Wr ?_
 refine Om1 rfl rfl ?_
 refine Ops.pv (pv_eql_nil rfl rfl) rfl ?_
 refine On ?_
 refine Wp.cond_true rfl ?_
 refine Wr ?_
 refine Oa1 rfl rfl ?_
 refine On ?_
 refine Wp.ret ?_
 refine Ends.then_ret ?_
 exact Ends.ret (L' := trBlk tb mb :: mpBlk mb blk T.M clk :: segs (knS blk T kv kH) T.n) (res1 rfl rfl) ⟨rfl, mb, clk, blk, kv, kH, hk, rfl⟩
set_option maxHeartbeats 1000000 in
theorem tr_tDrop1 (tb : Nat) (L : Hp) (T : TreeM) (hH : TrH T tb L) (hx : T.Ix) (hn : T.n ≤ 2 ^ 20) (so : SlotM) (x : Nat) (h : tget so T.M = some x) (hxk : x ∉ T.kids x) (hp : T.par x = none) : Tr Tryz.prog 96 [.pointer (some ⟨tb, 0, none⟩), slotV so] (L) (fun u L' => u = .int .i64 0 ∧ TrH (T.gone so x) tb L') := by
 obtain ⟨mb, clk, blk, kv, kH, hk, rfl⟩ := hH
 have hm := tptr_hm blk T.M so
 rw [tptr_some h] at hm
 have hi := hx.get h
 obtain ⟨ka, kc, hkv⟩ := kn_form hk hi
 have hb_x := kn_blk (blk := blk) (T := T) (kv := kv) (kH := kH) (i := x) hi
 rw [hkv, hp] at hb_x
 have hlm : ((T.kids x).map blk).length = (T.kids x).length := List.length_map ..
 have hsx := hx.small x hi
 refine Tr.enter Tryz.func96 rfl Tryz.ntmps96 rfl (fun W F => ?_)
 refine Wp.app ?_
 refine Wr ?_
 refine Ops.ef rfl (ef_boxK rfl rfl) ?_
 rintro _ _ ⟨b1, rfl, rfl⟩
 refine Oa1 rfl rfl ?_
 refine On ?_
 refine Wp.seq ?_
 refine AnyH.start ((b1, .cells [.int .i64 so.1, .int .i64 so.2].toArray 31) :: trBlk tb mb :: mpBlk mb blk T.M clk :: segs (knS blk T kv kH) T.n) 7 rfl ?_
 refine Tk 0 rfl rfl (pv_move rfl) rfl ?_
 refine Tk 1 rfl rfl (pv_nilCheck rfl) rfl ?_
 refine Tk 2 rfl rfl (pv_fieldAddr0 rfl rfl) rfl ?_
 refine Tk 3 rfl rfl (pv_load rfl rfl rfl) rfl ?_
 refine Tk 4 rfl rfl (pv_loadK [_, _] rfl rfl rfl ⟨rfl, rfl, trivial⟩) rfl ?_
 refine Tk 5 rfl rfl (pv_lookup_s so rfl rfl hm) rfl ?_
 refine Tk 6 rfl rfl (pv_assign rfl) rfl ?_
 refine AnyH.done (by kernel_rfl) ?_
 refine Ends.seq ?_
 refine Wp.seq ?_
 refine Wr ?_
 refine Om1 rfl rfl ?_
 refine Ops.pv (pv_eql_nil rfl rfl) rfl ?_
 refine On ?_
 refine Wp.cond_false rfl ?_
 refine Wp.skip ?_
 refine Ends.seq ?_
 refine Wp.seq ?_
 refine Wr ?_
 refine Om1 rfl rfl ?_
 refine Ops.pv (pv_nilCheck rfl) rfl ?_
 refine Of1 rfl rfl rfl ?_
 refine Ol1 rfl rfl rfl rfl ?_
 refine Ops.pv (pv_len_slice (T := 131) rfl rfl) rfl ?_
 refine Om1 rfl rfl ?_
 refine On ?_
 refine Wp.block ?_
 refine Wp.loopK (σ := Nat) [(0, _), (3, _), (5, _), (21, _), (22, _)] (fun s => [(23, .int .i64 s)]) (fun s => (b1, .cells [.int .i64 so.1, .int .i64 so.2].toArray 31) :: trBlk tb mb :: mpBlk mb blk T.M clk :: (segs (knS blk (T.dropK x s) kv kH) T.n ++ F)) (fun s => s ≤ (T.kids x).length) (fun s => (T.kids x).length - s) 0 (Nat.zero_le _) ⟨rfl, rfl, rfl, rfl, rfl, trivial⟩ ⟨rfl, trivial⟩ (by intro w ho; rw [dropK_zero]; exact Drop.own ho) ?_
 rintro k KK hkl hK
 dsimp only [List.cons_append, List.nil_append] at hK ⊢
 refine Wr ?_
 refine Ops.pv (pv_lss rfl rfl) rfl ?_
 refine On ?_
 refine Wp.seq ?_
 refine Wp.cond_dect rfl (fun h1 => ?_) (fun h1 => ?_)
 ·
  clear hb_x
  have hv2 : View (segs (knS blk (T.dropK x k) kv kH) T.n) 1 (kv x) ((T.kids x).map blk).length (ptsC ((T.kids x).map blk)) := kn_view2 (T := T.dropK x k) (kv := kv) (kH := kH) (i := x) hk hi
  rw [hkv] at hv2
  obtain ⟨b, o, cap, cc, T0, f, hv1, hbv, hr⟩ := hv2.open (by show 0 < ((T.kids x).map blk).length; omega)
  cases hv1
  obtain ⟨q, hq⟩ : ∃ q, (T.kids x)[k]? = some q := ⟨_, List.getElem?_eq_getElem (by omega)⟩
  have hbq : ((T.kids x).map blk)[k]? = some (blk q) := by rw [List.getElem?_map, hq]; rfl
  have hqn := hx.kids x q hi (List.mem_of_getElem? hq)
  have hb_x : Blk (segs (knS blk (T.dropK x k) kv kH) T.n) (blk x) (.cells [.int .i64 (T.sl x).1, .int .i64 (T.sl x).2, ptrO blk ((T.dropK x k).par x), kv x].toArray 134 (0, 0)) := kn_blk (blk := blk) (T := T.dropK x k) (kv := kv) (kH := kH) (i := x) hi
  rw [dropK_par hxk, hp] at hb_x
  have hb_q : Blk (segs (knS blk (T.dropK x k) kv kH) T.n) (blk q) (.cells [.int .i64 (T.sl q).1, .int .i64 (T.sl q).2, ptrO blk ((T.dropK x k).par q), kv q].toArray 134 (0, 0)) := kn_blk (blk := blk) (T := T.dropK x k) (kv := kv) (kH := kH) (i := q) hqn
  have hupd := fun o1 => segs_upd (h := knS blk (T.dropK x k) kv kH) (o' := o1) hqn rfl
  have hds := dropK_succ (blk := blk) (kv := kv) (kH := kH) hq
  rw [hp] at hds
  refine Wp.skip ?_
  refine Ends.seq ?_
  refine Wp.seq ?_
  refine Wp.block ?_
  refine Wr ?_
  refine Ops.pv (pv_indexAddr (i := k) rfl rfl rfl (by omega)) rfl ?_
  refine Ops.pv (pv_load rfl rfl (pts_nth hr hbq)) rfl ?_
  refine Oa1 rfl rfl ?_
  refine On ?_
  refine Wp.region ?_
  refine Om1 rfl rfl ?_
  refine Om1 rfl rfl ?_
  refine Ops.pv (pv_nilCheck rfl) rfl ?_
  refine Of1 rfl rfl rfl ?_
  refine Ol1 rfl rfl rfl rfl ?_
  refine Ops.pv (pv_nilCheck rfl) rfl ?_
  refine Of1 rfl rfl rfl ?_
  refine Ops.ef rfl (ef_store1 rfl rfl (by first | rfl | assumption) (by first | rfl | assumption)) ?_
  rintro _ _ ⟨rfl, rfl⟩
  refine Ops.nil ?_
  refine Ends.block_normal ?_
  refine Ends.seq ?_
  refine Wp.region ?_
  refine Ops.pv (pv_add rfl rfl (w64 (by omega) (by omega))) rfl ?_
  refine Om1 rfl rfl ?_
  refine Ops.nil ?_
  refine Ends.goes ?_
  rw [hds]
  refine Goes.back (hK (k + 1) (by omega) (by omega)) ⟨rfl, rfl, rfl, rfl, rfl, rfl, trivial⟩
 clear hb_x
 obtain rfl : k = (T.kids x).length := by omega
 have hb_x : Blk (segs (knS blk (T.dropK x (T.kids x).length) kv kH) T.n) (blk x) (.cells [.int .i64 (T.sl x).1, .int .i64 (T.sl x).2, ptrO blk ((T.dropK x (T.kids x).length).par x), kv x].toArray 134 (0, 0)) := kn_blk (blk := blk) (T := T.dropK x (T.kids x).length) (kv := kv) (kH := kH) (i := x) hi
 rw [dropK_par hxk, hp, hkv] at hb_x
 refine Wp.exit ?_
 refine Ends.then_exit ?_
 refine Ends.then_exit ?_
 refine Ends.block_hit ?_
 refine Ends.seq ?_
 refine Wp.seq ?_
 refine Wr ?_
 refine Om1 rfl rfl ?_
 refine Ops.pv (pv_nilCheck rfl) rfl ?_
 refine Of1 rfl rfl rfl ?_
 refine Ol1 rfl rfl rfl rfl ?_
 refine Oa1 rfl rfl ?_
 refine On ?_
 refine Wr ?_
 refine Om1 rfl rfl ?_
 refine Ops.pv (pv_neq_nil rfl rfl) rfl ?_
 refine On ?_
 refine Wp.cond_false rfl ?_
 refine Wp.skip ?_
 refine Ends.seq ?_
 refine Wp.seq ?_
 refine AnyH.start ((b1, .cells [.int .i64 so.1, .int .i64 so.2].toArray 31) :: trBlk tb mb :: []) 6 rfl ?_
 refine Tk 0 rfl rfl (pv_move rfl) rfl ?_
 refine Tk 1 rfl rfl (pv_nilCheck rfl) rfl ?_
 refine Tk 2 rfl rfl (pv_fieldAddr0 rfl rfl) rfl ?_
 refine Tk 3 rfl rfl (pv_load rfl rfl rfl) rfl ?_
 refine Tk 4 rfl rfl (pv_loadK [_, _] rfl rfl rfl ⟨rfl, rfl, trivial⟩) rfl ?_
 refine AnyH.one 5 (by kernel_rfl) ?_
 refine Turn.ef rfl rfl (ef_deleten_s (T := 121) _ rfl rfl rfl) ?_ ?_
 ·
  rintro _ _ ⟨rfl, rfl⟩; infer_instance
 rintro _ _ ⟨rfl, rfl⟩
 refine AnyH.done (by kernel_rfl) ?_
 refine Ends.seq ?_
 refine Wr ?_
 refine Oa1 rfl rfl ?_
 refine On ?_
 refine Wp.ret ?_
 rw [gone_none (s := so) hp, tdel_kvT]
 exact Ends.ret (L' := trBlk tb mb :: mpBlk mb blk (tdel so T.M) clk :: segs (knS blk (T.gone so x) kv kH) T.n) (res1 rfl rfl) ⟨rfl, mb, clk, blk, kv, kH, gone_none_ok hp hk, rfl⟩
set_option maxHeartbeats 1000000 in
theorem tr_tDrop2 (tb : Nat) (L : Hp) (T : TreeM) (hH : TrH T tb L) (hx : T.Ix) (hn : T.n ≤ 2 ^ 20) (so : SlotM) (x : Nat) (h : tget so T.M = some x) (hxk : x ∉ T.kids x) (j : Nat) (hp : T.par x = some j) (hxj : x ∈ T.kids j) : Tr Tryz.prog 96 [.pointer (some ⟨tb, 0, none⟩), slotV so] (L) (fun u L' => u = .int .i64 0 ∧ TrH (T.gone so x) tb L') := by
 obtain ⟨mb, clk, blk, kv, kH, hk, rfl⟩ := hH
 have hm := tptr_hm blk T.M so
 rw [tptr_some h] at hm
 have hi := hx.get h
 obtain ⟨ka, kc, hkv⟩ := kn_form hk hi
 have hb_x := kn_blk (blk := blk) (T := T) (kv := kv) (kH := kH) (i := x) hi
 rw [hkv, hp] at hb_x
 have hlm : ((T.kids x).map blk).length = (T.kids x).length := List.length_map ..
 have hsx := hx.small x hi
 have hj := hx.par x j hi hp
 obtain ⟨ja, jc, hjv⟩ := kn_form hk hj
 obtain ⟨p, hp1, hp2, hp3⟩ := repl_at (l := T.kids x) hxj
 have hpl := (List.getElem?_eq_some_iff.1 hp2).1
 have hsj := hx.small j hj
 have hlj : ((T.kids j).map blk).length = (T.kids j).length := List.length_map ..
 refine Tr.enter Tryz.func96 rfl Tryz.ntmps96 rfl (fun W F => ?_)
 refine Wp.app ?_
 refine Wr ?_
 refine Ops.ef rfl (ef_boxK rfl rfl) ?_
 rintro _ _ ⟨b1, rfl, rfl⟩
 refine Oa1 rfl rfl ?_
 refine On ?_
 refine Wp.seq ?_
 refine AnyH.start ((b1, .cells [.int .i64 so.1, .int .i64 so.2].toArray 31) :: trBlk tb mb :: mpBlk mb blk T.M clk :: segs (knS blk T kv kH) T.n) 7 rfl ?_
 refine Tk 0 rfl rfl (pv_move rfl) rfl ?_
 refine Tk 1 rfl rfl (pv_nilCheck rfl) rfl ?_
 refine Tk 2 rfl rfl (pv_fieldAddr0 rfl rfl) rfl ?_
 refine Tk 3 rfl rfl (pv_load rfl rfl rfl) rfl ?_
 refine Tk 4 rfl rfl (pv_loadK [_, _] rfl rfl rfl ⟨rfl, rfl, trivial⟩) rfl ?_
 refine Tk 5 rfl rfl (pv_lookup_s so rfl rfl hm) rfl ?_
 refine Tk 6 rfl rfl (pv_assign rfl) rfl ?_
 refine AnyH.done (by kernel_rfl) ?_
 refine Ends.seq ?_
 refine Wp.seq ?_
 refine Wr ?_
 refine Om1 rfl rfl ?_
 refine Ops.pv (pv_eql_nil rfl rfl) rfl ?_
 refine On ?_
 refine Wp.cond_false rfl ?_
 refine Wp.skip ?_
 refine Ends.seq ?_
 refine Wp.seq ?_
 refine Wr ?_
 refine Om1 rfl rfl ?_
 refine Ops.pv (pv_nilCheck rfl) rfl ?_
 refine Of1 rfl rfl rfl ?_
 refine Ol1 rfl rfl rfl rfl ?_
 refine Ops.pv (pv_len_slice (T := 131) rfl rfl) rfl ?_
 refine Om1 rfl rfl ?_
 refine On ?_
 refine Wp.block ?_
 refine Wp.loopK (σ := Nat) [(0, _), (3, _), (5, _), (21, _), (22, _)] (fun s => [(23, .int .i64 s)]) (fun s => (b1, .cells [.int .i64 so.1, .int .i64 so.2].toArray 31) :: trBlk tb mb :: mpBlk mb blk T.M clk :: (segs (knS blk (T.dropK x s) kv kH) T.n ++ F)) (fun s => s ≤ (T.kids x).length) (fun s => (T.kids x).length - s) 0 (Nat.zero_le _) ⟨rfl, rfl, rfl, rfl, rfl, trivial⟩ ⟨rfl, trivial⟩ (by intro w ho; rw [dropK_zero]; exact Drop.own ho) ?_
 rintro k KK hkl hK
 dsimp only [List.cons_append, List.nil_append] at hK ⊢
 refine Wr ?_
 refine Ops.pv (pv_lss rfl rfl) rfl ?_
 refine On ?_
 refine Wp.seq ?_
 refine Wp.cond_dect rfl (fun h1 => ?_) (fun h1 => ?_)
 ·
  clear hb_x
  have hv2 : View (segs (knS blk (T.dropK x k) kv kH) T.n) 1 (kv x) ((T.kids x).map blk).length (ptsC ((T.kids x).map blk)) := kn_view2 (T := T.dropK x k) (kv := kv) (kH := kH) (i := x) hk hi
  rw [hkv] at hv2
  obtain ⟨b, o, cap, cc, T0, f, hv1, hbv, hr⟩ := hv2.open (by show 0 < ((T.kids x).map blk).length; omega)
  cases hv1
  obtain ⟨q, hq⟩ : ∃ q, (T.kids x)[k]? = some q := ⟨_, List.getElem?_eq_getElem (by omega)⟩
  have hbq : ((T.kids x).map blk)[k]? = some (blk q) := by rw [List.getElem?_map, hq]; rfl
  have hqn := hx.kids x q hi (List.mem_of_getElem? hq)
  have hb_x : Blk (segs (knS blk (T.dropK x k) kv kH) T.n) (blk x) (.cells [.int .i64 (T.sl x).1, .int .i64 (T.sl x).2, ptrO blk ((T.dropK x k).par x), kv x].toArray 134 (0, 0)) := kn_blk (blk := blk) (T := T.dropK x k) (kv := kv) (kH := kH) (i := x) hi
  rw [dropK_par hxk, hp] at hb_x
  have hb_q : Blk (segs (knS blk (T.dropK x k) kv kH) T.n) (blk q) (.cells [.int .i64 (T.sl q).1, .int .i64 (T.sl q).2, ptrO blk ((T.dropK x k).par q), kv q].toArray 134 (0, 0)) := kn_blk (blk := blk) (T := T.dropK x k) (kv := kv) (kH := kH) (i := q) hqn
  have hupd := fun o1 => segs_upd (h := knS blk (T.dropK x k) kv kH) (o' := o1) hqn rfl
  have hds := dropK_succ (blk := blk) (kv := kv) (kH := kH) hq
  rw [hp] at hds
  refine Wp.skip ?_
  refine Ends.seq ?_
  refine Wp.seq ?_
  refine Wp.block ?_
  refine Wr ?_
  refine Ops.pv (pv_indexAddr (i := k) rfl rfl rfl (by omega)) rfl ?_
  refine Ops.pv (pv_load rfl rfl (pts_nth hr hbq)) rfl ?_
  refine Oa1 rfl rfl ?_
  refine On ?_
  refine Wp.region ?_
  refine Om1 rfl rfl ?_
  refine Om1 rfl rfl ?_
  refine Ops.pv (pv_nilCheck rfl) rfl ?_
  refine Of1 rfl rfl rfl ?_
  refine Ol1 rfl rfl rfl rfl ?_
  refine Ops.pv (pv_nilCheck rfl) rfl ?_
  refine Of1 rfl rfl rfl ?_
  refine Ops.ef rfl (ef_store1 rfl rfl (by first | rfl | assumption) (by first | rfl | assumption)) ?_
  rintro _ _ ⟨rfl, rfl⟩
  refine Ops.nil ?_
  refine Ends.block_normal ?_
  refine Ends.seq ?_
  refine Wp.region ?_
  refine Ops.pv (pv_add rfl rfl (w64 (by omega) (by omega))) rfl ?_
  refine Om1 rfl rfl ?_
  refine Ops.nil ?_
  refine Ends.goes ?_
  rw [hds]
  refine Goes.back (hK (k + 1) (by omega) (by omega)) ⟨rfl, rfl, rfl, rfl, rfl, rfl, trivial⟩
 clear hb_x
 obtain rfl : k = (T.kids x).length := by omega
 have hb_x : Blk (segs (knS blk (T.dropK x (T.kids x).length) kv kH) T.n) (blk x) (.cells [.int .i64 (T.sl x).1, .int .i64 (T.sl x).2, ptrO blk ((T.dropK x (T.kids x).length).par x), kv x].toArray 134 (0, 0)) := kn_blk (blk := blk) (T := T.dropK x (T.kids x).length) (kv := kv) (kH := kH) (i := x) hi
 rw [dropK_par hxk, hp, hkv] at hb_x
 have hb_j : Blk (segs (knS blk (T.dropK x (T.kids x).length) kv kH) T.n) (blk j) (.cells [.int .i64 (T.sl j).1, .int .i64 (T.sl j).2, ptrO blk ((T.dropK x (T.kids x).length).par j), kv j].toArray 134 (0, 0)) := kn_blk (blk := blk) (T := T.dropK x (T.kids x).length) (kv := kv) (kH := kH) (i := j) hj
 rw [hjv] at hb_j
 have hvj : View (segs (knS blk (T.dropK x (T.kids x).length) kv kH) T.n) 1 (kv j) ((T.kids j).map blk).length (ptsC ((T.kids j).map blk)) := kn_view2 (T := T.dropK x (T.kids x).length) (kv := kv) (kH := kH) (i := j) hk hj
 rw [hjv] at hvj
 have hvx : View (segs (knS blk (T.dropK x (T.kids x).length) kv kH) T.n) 1 (kv x) ((T.kids x).map blk).length (ptsC ((T.kids x).map blk)) := kn_view2 (T := T.dropK x (T.kids x).length) (kv := kv) (kH := kH) (i := x) hk hi
 rw [hkv] at hvx
 have hA := View.part (f := ptrE) (l := (T.kids j).map blk) hvj (i := 0) (j := p) (Nat.zero_le _) (by omega)
 have hB := View.part (f := ptrE) (l := (T.kids j).map blk) hvj (i := p + 1) (j := ((T.kids j).map blk).length) (by omega) (Nat.le_refl _)
 have eA : (((T.kids j).map blk).drop 0).take (p - 0) = ((T.kids j).map blk).take p := by simp
 have eB : (((T.kids j).map blk).drop (p + 1)).take (((T.kids j).map blk).length - (p + 1)) = ((T.kids j).map blk).drop (p + 1) := List.take_of_length_le (by simp)
 rw [eA] at hA
 rw [eB] at hB
 have lA : (((T.kids j).map blk).take p).length = p := by rw [List.length_take]; omega
 have lB : (((T.kids j).map blk).drop (p + 1)).length = ((T.kids j).map blk).length - (p + 1) := List.length_drop ..
 have hjc : ((T.kids j).map blk).length ≤ jc := by obtain ⟨_, _, _, e, h, _⟩ := hvj; cases e; exact h
 refine Wp.exit ?_
 refine Ends.then_exit ?_
 refine Ends.then_exit ?_
 refine Ends.block_hit ?_
 refine Ends.seq ?_
 refine Wp.seq ?_
 refine Wr ?_
 refine Om1 rfl rfl ?_
 refine Ops.pv (pv_nilCheck rfl) rfl ?_
 refine Of1 rfl rfl rfl ?_
 refine Ol1 rfl rfl rfl rfl ?_
 refine Oa1 rfl rfl ?_
 refine On ?_
 refine Wr ?_
 refine Om1 rfl rfl ?_
 refine Ops.pv (pv_neq_nil rfl rfl) rfl ?_
 refine On ?_
 refine Wp.cond_true rfl ?_
 refine Wr ?_
 refine Ops.ndD (segs (knS blk (T.dropK x (T.kids x).length) kv kH) T.n) fun hnd => ?_
 have hinj := segs_inj (fun i => rfl) hnd
 clear hnd
 have hupd2 := fun o1 => segs_upd (h := knS blk (T.dropK x (T.kids x).length) kv kH) (o' := o1) hj rfl
 refine Om1 rfl rfl ?_
 refine Ops.pv (pv_nilCheck rfl) rfl ?_
 refine Of1 rfl rfl rfl ?_
 refine Ol1 rfl rfl rfl rfl ?_
 refine Om1 rfl rfl ?_
 refine Ops.ef rfl (ef_callr ((tr_index (segs (knS blk (T.dropK x (T.kids x).length) kv kH) T.n) ja jc ((T.kids j).map blk) (blk x) hvj (by omega) (fun b hb => by obtain ⟨a, ha, rfl⟩ := List.mem_map.1 hb; exact kn_isC (hx.kids j a hj ha)) (kn_isC hi)).eq (r' := .int .i64 p) (by rw [idxN_map blk (fun a ha e => hinj a x (hx.kids j a hj ha) hi e), hp1])) rfl rfl) ?_
 rintro _ _ ⟨rfl, rfl⟩
 refine Oa1 rfl rfl ?_
 refine On ?_
 refine AnyH.start ([] : Hp) 23 rfl ?_
 refine Tk 0 rfl rfl (pv_move rfl) rfl ?_
 refine Tk 1 rfl rfl (pv_move rfl) rfl ?_
 refine Tk 2 rfl rfl (pv_nilCheck rfl) rfl ?_
 refine Tk 3 rfl rfl (pv_fieldAddr0 rfl rfl) rfl ?_
 refine Tk 5 rfl rfl (pv_move rfl) rfl ?_
 refine Tk 7 rfl rfl (pv_move rfl) rfl ?_
 refine Tk 8 rfl rfl (pv_nilCheck rfl) rfl ?_
 refine Tk 9 rfl rfl (pv_fieldAddr0 rfl rfl) rfl ?_
 refine Tk 11 rfl rfl (pv_move rfl) rfl ?_
 refine Tk 12 rfl rfl (pv_nilCheck rfl) rfl ?_
 refine Tk 13 rfl rfl (pv_fieldAddr0 rfl rfl) rfl ?_
 refine Tk 15 rfl rfl (pv_move rfl) rfl ?_
 refine Tk 16 rfl rfl (pv_add rfl rfl (w64n (k := p + 1) (by omega) (by omega))) rfl ?_
 refine AnyH.three 4 10 14 (by kernel_rfl) ?_ ?_ ?_
 ·
  refine Turn.ef rfl rfl (ef_pv (pv_load rfl rfl rfl) rfl) ?_ ?_
  ·
   rintro _ _ ⟨rfl, rfl⟩; infer_instance
  rintro _ _ ⟨rfl, rfl⟩
  refine Tk 6 rfl rfl (pv_sliceL (i := 0) (j := p) (r := (((T.kids j).map blk).take p).length) rfl rfl ⟨_, rfl⟩ (Nat.zero_le _) (by omega) lA.symm) rfl ?_
  refine AnyH.two 10 14 (by kernel_rfl) ?_ ?_
  ·
   refine Turn.ef rfl rfl (ef_pv (pv_load rfl rfl rfl) rfl) ?_ ?_
   ·
    rintro _ _ ⟨rfl, rfl⟩; infer_instance
   rintro _ _ ⟨rfl, rfl⟩
   refine AnyH.one 14 (by kernel_rfl) ?_
   refine Turn.ef rfl rfl (ef_pv (pv_load rfl rfl rfl) rfl) ?_ ?_
   ·
    rintro _ _ ⟨rfl, rfl⟩; infer_instance
   rintro _ _ ⟨rfl, rfl⟩
   refine Tk 17 rfl rfl (pv_sliceL (i := p + 1) (j := ((T.kids j).map blk).length) (r := (((T.kids j).map blk).drop (p + 1)).length) rfl ⟨_, rfl⟩ rfl (by omega) hjc lB.symm) rfl ?_
   refine AnyH.one 18 (by kernel_rfl) ?_
   refine Turn.ef rfl rfl (ef_buildSliceN [.slice none 0 0, .slice none 0 0, .slice none 0 0] [(0, 1), (1, 1), (2, 1)] rfl (by kernel_rfl) (by first | decide | rfl) rfl rfl rfl) ?_ ?_
   ·
    rintro _ _ ⟨b2, rfl, rfl⟩; infer_instance
   rintro _ _ ⟨b2, rfl, rfl⟩
   refine AnyH.one 19 (by kernel_rfl) ?_
   refine Turn.ef rfl rfl (ef_call (tr_concat3 (segs (knS blk (T.dropK x (T.kids x).length) kv kH) T.n) b2 3 _ _ _ _ _ _ (((T.kids j).map blk).take p) ((T.kids x).map blk) (((T.kids j).map blk).drop (p + 1)) hA hvx hB (by simp only [List.length_append]; omega)) rfl rfl) ?_ ?_
   ·
    rintro _ _ ⟨_, _, ⟨K1, hu1, rfl⟩, rfl, rfl⟩; infer_instance
   rintro _ _ ⟨_, _, ⟨K1, hu1, rfl⟩, rfl, rfl⟩
   refine AnyH.app ?_
   rename_i u1
   have ho1 := hu1.one
   have ho2 := hu1.cells1
   refine Tk 20 rfl rfl (pv_nilCheck rfl) rfl ?_
   refine Tk 21 rfl rfl (pv_fieldAddr0 rfl rfl) rfl ?_
   refine AnyH.one 22 (by kernel_rfl) ?_
   refine Turn.ef rfl rfl (ef_store1 rfl rfl (by first | rfl | assumption) (by first | rfl | assumption)) ?_ ?_
   ·
    rintro _ _ ⟨rfl, rfl⟩; infer_instance
   rintro _ _ ⟨rfl, rfl⟩
   refine AnyH.done (by kernel_rfl) ?_
   refine Ends.seq ?_
   refine Wp.seq ?_
   refine AnyH.start ((b1, .cells [.int .i64 so.1, .int .i64 so.2].toArray 31) :: trBlk tb mb :: []) 6 rfl ?_
   refine Tk 0 rfl rfl (pv_move rfl) rfl ?_
   refine Tk 1 rfl rfl (pv_nilCheck rfl) rfl ?_
   refine Tk 2 rfl rfl (pv_fieldAddr0 rfl rfl) rfl ?_
   refine Tk 3 rfl rfl (pv_load rfl rfl rfl) rfl ?_
   refine Tk 4 rfl rfl (pv_loadK [_, _] rfl rfl rfl ⟨rfl, rfl, trivial⟩) rfl ?_
   refine AnyH.one 5 (by kernel_rfl) ?_
   refine Turn.ef rfl rfl (ef_deleten_s (T := 121) _ rfl rfl rfl) ?_ ?_
   ·
    rintro _ _ ⟨rfl, rfl⟩; infer_instance
   rintro _ _ ⟨rfl, rfl⟩
   refine AnyH.done (by kernel_rfl) ?_
   refine Ends.seq ?_
   refine Wr ?_
   refine Oa1 rfl rfl ?_
   refine On ?_
   refine Wp.ret ?_
   rw [tdel_kvT]
   refine Ends.heap (L' := trBlk tb mb :: mpBlk mb blk (tdel so T.M) clk :: (segs (fset (knS blk (T.dropK x (T.kids x).length) kv kH) j ((blk j, .cells [.int .i64 (T.sl j).1, .int .i64 (T.sl j).2, ptrO blk ((T.dropK x (T.kids x).length).par j), u1].toArray 134) :: K1)) T.n ++ F)) (fun w ho => ?_) ?_
   ·
    have h2 : Own W w (K1 ++ (segs (fset (knS blk (T.dropK x (T.kids x).length) kv kH) j ((blk j, .cells [.int .i64 (T.sl j).1, .int .i64 (T.sl j).2, ptrO blk ((T.dropK x (T.kids x).length).par j), u1].toArray 134) :: kH j)) T.n ++ (trBlk tb mb :: mpBlk mb blk (tdel so T.M) clk :: F))) := Drop.own ho
    have h3 := Own.swapSeg hj h2
    exact (Drop.own h3 : Own W w (trBlk tb mb :: mpBlk mb blk (tdel so T.M) clk :: (segs (fset (knS blk (T.dropK x (T.kids x).length) kv kH) j ((blk j, .cells [.int .i64 (T.sl j).1, .int .i64 (T.sl j).2, ptrO blk ((T.dropK x (T.kids x).length).par j), u1].toArray 134) :: K1)) T.n ++ F)))
   rw [gone_some (s := so) hp]
   exact Ends.ret (L' := trBlk tb mb :: mpBlk mb blk (tdel so T.M) clk :: segs (knS blk (T.gone so x) (fset kv j u1) (fset kH j K1)) T.n) (res1 rfl rfl) ⟨rfl, mb, clk, blk, _, _, gone_some_ok hp hk (by rw [hp3, ← List.length_map (f := blk), List.map_append, List.map_append, List.map_take, List.map_drop]; exact hu1), rfl⟩
  refine Turn.ef rfl rfl (ef_pv (pv_load rfl rfl rfl) rfl) ?_ ?_
  ·
   rintro _ _ ⟨rfl, rfl⟩; infer_instance
  rintro _ _ ⟨rfl, rfl⟩
  refine Tk 17 rfl rfl (pv_sliceL (i := p + 1) (j := ((T.kids j).map blk).length) (r := (((T.kids j).map blk).drop (p + 1)).length) rfl ⟨_, rfl⟩ rfl (by omega) hjc lB.symm) rfl ?_
  refine AnyH.one 10 (by kernel_rfl) ?_
  refine Turn.ef rfl rfl (ef_pv (pv_load rfl rfl rfl) rfl) ?_ ?_
  ·
   rintro _ _ ⟨rfl, rfl⟩; infer_instance
  rintro _ _ ⟨rfl, rfl⟩
  refine AnyH.one 18 (by kernel_rfl) ?_
  refine Turn.ef rfl rfl (ef_buildSliceN [.slice none 0 0, .slice none 0 0, .slice none 0 0] [(0, 1), (1, 1), (2, 1)] rfl (by kernel_rfl) (by first | decide | rfl) rfl rfl rfl) ?_ ?_
  ·
   rintro _ _ ⟨b3, rfl, rfl⟩; infer_instance
  rintro _ _ ⟨b3, rfl, rfl⟩
  refine AnyH.one 19 (by kernel_rfl) ?_
  refine Turn.ef rfl rfl (ef_call (tr_concat3 (segs (knS blk (T.dropK x (T.kids x).length) kv kH) T.n) b3 3 _ _ _ _ _ _ (((T.kids j).map blk).take p) ((T.kids x).map blk) (((T.kids j).map blk).drop (p + 1)) hA hvx hB (by simp only [List.length_append]; omega)) rfl rfl) ?_ ?_
  ·
   rintro _ _ ⟨_, _, ⟨K2, hu2, rfl⟩, rfl, rfl⟩; infer_instance
  rintro _ _ ⟨_, _, ⟨K2, hu2, rfl⟩, rfl, rfl⟩
  refine AnyH.app ?_
  rename_i u2
  have ho1 := hu2.one
  have ho2 := hu2.cells1
  refine Tk 20 rfl rfl (pv_nilCheck rfl) rfl ?_
  refine Tk 21 rfl rfl (pv_fieldAddr0 rfl rfl) rfl ?_
  refine AnyH.one 22 (by kernel_rfl) ?_
  refine Turn.ef rfl rfl (ef_store1 rfl rfl (by first | rfl | assumption) (by first | rfl | assumption)) ?_ ?_
  ·
   rintro _ _ ⟨rfl, rfl⟩; infer_instance
  rintro _ _ ⟨rfl, rfl⟩
  refine AnyH.done (by kernel_rfl) ?_
  refine Ends.seq ?_
  refine Wp.seq ?_
  refine AnyH.start ((b1, .cells [.int .i64 so.1, .int .i64 so.2].toArray 31) :: trBlk tb mb :: []) 6 rfl ?_
  refine Tk 0 rfl rfl (pv_move rfl) rfl ?_
  refine Tk 1 rfl rfl (pv_nilCheck rfl) rfl ?_
  refine Tk 2 rfl rfl (pv_fieldAddr0 rfl rfl) rfl ?_
  refine Tk 3 rfl rfl (pv_load rfl rfl rfl) rfl ?_
  refine Tk 4 rfl rfl (pv_loadK [_, _] rfl rfl rfl ⟨rfl, rfl, trivial⟩) rfl ?_
  refine AnyH.one 5 (by kernel_rfl) ?_
  refine Turn.ef rfl rfl (ef_deleten_s (T := 121) _ rfl rfl rfl) ?_ ?_
  ·
   rintro _ _ ⟨rfl, rfl⟩; infer_instance
  rintro _ _ ⟨rfl, rfl⟩
  refine AnyH.done (by kernel_rfl) ?_
  refine Ends.seq ?_
  refine Wr ?_
  refine Oa1 rfl rfl ?_
  refine On ?_
  refine Wp.ret ?_
  rw [tdel_kvT]
  refine Ends.heap (L' := trBlk tb mb :: mpBlk mb blk (tdel so T.M) clk :: (segs (fset (knS blk (T.dropK x (T.kids x).length) kv kH) j ((blk j, .cells [.int .i64 (T.sl j).1, .int .i64 (T.sl j).2, ptrO blk ((T.dropK x (T.kids x).length).par j), u2].toArray 134) :: K2)) T.n ++ F)) (fun w ho => ?_) ?_
  ·
   have h2 : Own W w (K2 ++ (segs (fset (knS blk (T.dropK x (T.kids x).length) kv kH) j ((blk j, .cells [.int .i64 (T.sl j).1, .int .i64 (T.sl j).2, ptrO blk ((T.dropK x (T.kids x).length).par j), u2].toArray 134) :: kH j)) T.n ++ (trBlk tb mb :: mpBlk mb blk (tdel so T.M) clk :: F))) := Drop.own ho
   have h3 := Own.swapSeg hj h2
   exact (Drop.own h3 : Own W w (trBlk tb mb :: mpBlk mb blk (tdel so T.M) clk :: (segs (fset (knS blk (T.dropK x (T.kids x).length) kv kH) j ((blk j, .cells [.int .i64 (T.sl j).1, .int .i64 (T.sl j).2, ptrO blk ((T.dropK x (T.kids x).length).par j), u2].toArray 134) :: K2)) T.n ++ F)))
  rw [gone_some (s := so) hp]
  exact Ends.ret (L' := trBlk tb mb :: mpBlk mb blk (tdel so T.M) clk :: segs (knS blk (T.gone so x) (fset kv j u2) (fset kH j K2)) T.n) (res1 rfl rfl) ⟨rfl, mb, clk, blk, _, _, gone_some_ok hp hk (by rw [hp3, ← List.length_map (f := blk), List.map_append, List.map_append, List.map_take, List.map_drop]; exact hu2), rfl⟩
 ·
  refine Turn.ef rfl rfl (ef_pv (pv_load rfl rfl rfl) rfl) ?_ ?_
  ·
   rintro _ _ ⟨rfl, rfl⟩; infer_instance
  rintro _ _ ⟨rfl, rfl⟩
  refine AnyH.two 4 14 (by kernel_rfl) ?_ ?_
  ·
   refine Turn.ef rfl rfl (ef_pv (pv_load rfl rfl rfl) rfl) ?_ ?_
   ·
    rintro _ _ ⟨rfl, rfl⟩; infer_instance
   rintro _ _ ⟨rfl, rfl⟩
   refine Tk 6 rfl rfl (pv_sliceL (i := 0) (j := p) (r := (((T.kids j).map blk).take p).length) rfl rfl ⟨_, rfl⟩ (Nat.zero_le _) (by omega) lA.symm) rfl ?_
   refine AnyH.one 14 (by kernel_rfl) ?_
   refine Turn.ef rfl rfl (ef_pv (pv_load rfl rfl rfl) rfl) ?_ ?_
   ·
    rintro _ _ ⟨rfl, rfl⟩; infer_instance
   rintro _ _ ⟨rfl, rfl⟩
   refine Tk 17 rfl rfl (pv_sliceL (i := p + 1) (j := ((T.kids j).map blk).length) (r := (((T.kids j).map blk).drop (p + 1)).length) rfl ⟨_, rfl⟩ rfl (by omega) hjc lB.symm) rfl ?_
   refine AnyH.one 18 (by kernel_rfl) ?_
   refine Turn.ef rfl rfl (ef_buildSliceN [.slice none 0 0, .slice none 0 0, .slice none 0 0] [(0, 1), (1, 1), (2, 1)] rfl (by kernel_rfl) (by first | decide | rfl) rfl rfl rfl) ?_ ?_
   ·
    rintro _ _ ⟨b4, rfl, rfl⟩; infer_instance
   rintro _ _ ⟨b4, rfl, rfl⟩
   refine AnyH.one 19 (by kernel_rfl) ?_
   refine Turn.ef rfl rfl (ef_call (tr_concat3 (segs (knS blk (T.dropK x (T.kids x).length) kv kH) T.n) b4 3 _ _ _ _ _ _ (((T.kids j).map blk).take p) ((T.kids x).map blk) (((T.kids j).map blk).drop (p + 1)) hA hvx hB (by simp only [List.length_append]; omega)) rfl rfl) ?_ ?_
   ·
    rintro _ _ ⟨_, _, ⟨K3, hu3, rfl⟩, rfl, rfl⟩; infer_instance
   rintro _ _ ⟨_, _, ⟨K3, hu3, rfl⟩, rfl, rfl⟩
   refine AnyH.app ?_
   rename_i u3
   have ho1 := hu3.one
   have ho2 := hu3.cells1
   refine Tk 20 rfl rfl (pv_nilCheck rfl) rfl ?_
   refine Tk 21 rfl rfl (pv_fieldAddr0 rfl rfl) rfl ?_
   refine AnyH.one 22 (by kernel_rfl) ?_
   refine Turn.ef rfl rfl (ef_store1 rfl rfl (by first | rfl | assumption) (by first | rfl | assumption)) ?_ ?_
   ·
    rintro _ _ ⟨rfl, rfl⟩; infer_instance
   rintro _ _ ⟨rfl, rfl⟩
   refine AnyH.done (by kernel_rfl) ?_
   refine Ends.seq ?_
   refine Wp.seq ?_
   refine AnyH.start ((b1, .cells [.int .i64 so.1, .int .i64 so.2].toArray 31) :: trBlk tb mb :: []) 6 rfl ?_
   refine Tk 0 rfl rfl (pv_move rfl) rfl ?_
   refine Tk 1 rfl rfl (pv_nilCheck rfl) rfl ?_
   refine Tk 2 rfl rfl (pv_fieldAddr0 rfl rfl) rfl ?_
   refine Tk 3 rfl rfl (pv_load rfl rfl rfl) rfl ?_
   refine Tk 4 rfl rfl (pv_loadK [_, _] rfl rfl rfl ⟨rfl, rfl, trivial⟩) rfl ?_
   refine AnyH.one 5 (by kernel_rfl) ?_
   refine Turn.ef rfl rfl (ef_deleten_s (T := 121) _ rfl rfl rfl) ?_ ?_
   ·
    rintro _ _ ⟨rfl, rfl⟩; infer_instance
   rintro _ _ ⟨rfl, rfl⟩
   refine AnyH.done (by kernel_rfl) ?_
   refine Ends.seq ?_
   refine Wr ?_
   refine Oa1 rfl rfl ?_
   refine On ?_
   refine Wp.ret ?_
   rw [tdel_kvT]
   refine Ends.heap (L' := trBlk tb mb :: mpBlk mb blk (tdel so T.M) clk :: (segs (fset (knS blk (T.dropK x (T.kids x).length) kv kH) j ((blk j, .cells [.int .i64 (T.sl j).1, .int .i64 (T.sl j).2, ptrO blk ((T.dropK x (T.kids x).length).par j), u3].toArray 134) :: K3)) T.n ++ F)) (fun w ho => ?_) ?_
   ·
    have h2 : Own W w (K3 ++ (segs (fset (knS blk (T.dropK x (T.kids x).length) kv kH) j ((blk j, .cells [.int .i64 (T.sl j).1, .int .i64 (T.sl j).2, ptrO blk ((T.dropK x (T.kids x).length).par j), u3].toArray 134) :: kH j)) T.n ++ (trBlk tb mb :: mpBlk mb blk (tdel so T.M) clk :: F))) := Drop.own ho
    have h3 := Own.swapSeg hj h2
    exact (Drop.own h3 : Own W w (trBlk tb mb :: mpBlk mb blk (tdel so T.M) clk :: (segs (fset (knS blk (T.dropK x (T.kids x).length) kv kH) j ((blk j, .cells [.int .i64 (T.sl j).1, .int .i64 (T.sl j).2, ptrO blk ((T.dropK x (T.kids x).length).par j), u3].toArray 134) :: K3)) T.n ++ F)))
   rw [gone_some (s := so) hp]
   exact Ends.ret (L' := trBlk tb mb :: mpBlk mb blk (tdel so T.M) clk :: segs (knS blk (T.gone so x) (fset kv j u3) (fset kH j K3)) T.n) (res1 rfl rfl) ⟨rfl, mb, clk, blk, _, _, gone_some_ok hp hk (by rw [hp3, ← List.length_map (f := blk), List.map_append, List.map_append, List.map_take, List.map_drop]; exact hu3), rfl⟩
  refine Turn.ef rfl rfl (ef_pv (pv_load rfl rfl rfl) rfl) ?_ ?_
  ·
   rintro _ _ ⟨rfl, rfl⟩; infer_instance
  rintro _ _ ⟨rfl, rfl⟩
  refine Tk 17 rfl rfl (pv_sliceL (i := p + 1) (j := ((T.kids j).map blk).length) (r := (((T.kids j).map blk).drop (p + 1)).length) rfl ⟨_, rfl⟩ rfl (by omega) hjc lB.symm) rfl ?_
  refine AnyH.one 4 (by kernel_rfl) ?_
  refine Turn.ef rfl rfl (ef_pv (pv_load rfl rfl rfl) rfl) ?_ ?_
  ·
   rintro _ _ ⟨rfl, rfl⟩; infer_instance
  rintro _ _ ⟨rfl, rfl⟩
  refine Tk 6 rfl rfl (pv_sliceL (i := 0) (j := p) (r := (((T.kids j).map blk).take p).length) rfl rfl ⟨_, rfl⟩ (Nat.zero_le _) (by omega) lA.symm) rfl ?_
  refine AnyH.one 18 (by kernel_rfl) ?_
  refine Turn.ef rfl rfl (ef_buildSliceN [.slice none 0 0, .slice none 0 0, .slice none 0 0] [(0, 1), (1, 1), (2, 1)] rfl (by kernel_rfl) (by first | decide | rfl) rfl rfl rfl) ?_ ?_
  ·
   rintro _ _ ⟨b5, rfl, rfl⟩; infer_instance
  rintro _ _ ⟨b5, rfl, rfl⟩
  refine AnyH.one 19 (by kernel_rfl) ?_
  refine Turn.ef rfl rfl (ef_call (tr_concat3 (segs (knS blk (T.dropK x (T.kids x).length) kv kH) T.n) b5 3 _ _ _ _ _ _ (((T.kids j).map blk).take p) ((T.kids x).map blk) (((T.kids j).map blk).drop (p + 1)) hA hvx hB (by simp only [List.length_append]; omega)) rfl rfl) ?_ ?_
  ·
   rintro _ _ ⟨_, _, ⟨K4, hu4, rfl⟩, rfl, rfl⟩; infer_instance
  rintro _ _ ⟨_, _, ⟨K4, hu4, rfl⟩, rfl, rfl⟩
  refine AnyH.app ?_
  rename_i u4
  have ho1 := hu4.one
  have ho2 := hu4.cells1
  refine Tk 20 rfl rfl (pv_nilCheck rfl) rfl ?_
  refine Tk 21 rfl rfl (pv_fieldAddr0 rfl rfl) rfl ?_
  refine AnyH.one 22 (by kernel_rfl) ?_
  refine Turn.ef rfl rfl (ef_store1 rfl rfl (by first | rfl | assumption) (by first | rfl | assumption)) ?_ ?_
  ·
   rintro _ _ ⟨rfl, rfl⟩; infer_instance
  rintro _ _ ⟨rfl, rfl⟩
  refine AnyH.done (by kernel_rfl) ?_
  refine Ends.seq ?_
  refine Wp.seq ?_
  refine AnyH.start ((b1, .cells [.int .i64 so.1, .int .i64 so.2].toArray 31) :: trBlk tb mb :: []) 6 rfl ?_
  refine Tk 0 rfl rfl (pv_move rfl) rfl ?_
  refine Tk 1 rfl rfl (pv_nilCheck rfl) rfl ?_
  refine Tk 2 rfl rfl (pv_fieldAddr0 rfl rfl) rfl ?_
  refine Tk 3 rfl rfl (pv_load rfl rfl rfl) rfl ?_
  refine Tk 4 rfl rfl (pv_loadK [_, _] rfl rfl rfl ⟨rfl, rfl, trivial⟩) rfl ?_
  refine AnyH.one 5 (by kernel_rfl) ?_
  refine Turn.ef rfl rfl (ef_deleten_s (T := 121) _ rfl rfl rfl) ?_ ?_
  ·
   rintro _ _ ⟨rfl, rfl⟩; infer_instance
  rintro _ _ ⟨rfl, rfl⟩
  refine AnyH.done (by kernel_rfl) ?_
  refine Ends.seq ?_
  refine Wr ?_
  refine Oa1 rfl rfl ?_
  refine On ?_
  refine Wp.ret ?_
  rw [tdel_kvT]
  refine Ends.heap (L' := trBlk tb mb :: mpBlk mb blk (tdel so T.M) clk :: (segs (fset (knS blk (T.dropK x (T.kids x).length) kv kH) j ((blk j, .cells [.int .i64 (T.sl j).1, .int .i64 (T.sl j).2, ptrO blk ((T.dropK x (T.kids x).length).par j), u4].toArray 134) :: K4)) T.n ++ F)) (fun w ho => ?_) ?_
  ·
   have h2 : Own W w (K4 ++ (segs (fset (knS blk (T.dropK x (T.kids x).length) kv kH) j ((blk j, .cells [.int .i64 (T.sl j).1, .int .i64 (T.sl j).2, ptrO blk ((T.dropK x (T.kids x).length).par j), u4].toArray 134) :: kH j)) T.n ++ (trBlk tb mb :: mpBlk mb blk (tdel so T.M) clk :: F))) := Drop.own ho
   have h3 := Own.swapSeg hj h2
   exact (Drop.own h3 : Own W w (trBlk tb mb :: mpBlk mb blk (tdel so T.M) clk :: (segs (fset (knS blk (T.dropK x (T.kids x).length) kv kH) j ((blk j, .cells [.int .i64 (T.sl j).1, .int .i64 (T.sl j).2, ptrO blk ((T.dropK x (T.kids x).length).par j), u4].toArray 134) :: K4)) T.n ++ F)))
  rw [gone_some (s := so) hp]
  exact Ends.ret (L' := trBlk tb mb :: mpBlk mb blk (tdel so T.M) clk :: segs (knS blk (T.gone so x) (fset kv j u4) (fset kH j K4)) T.n) (res1 rfl rfl) ⟨rfl, mb, clk, blk, _, _, gone_some_ok hp hk (by rw [hp3, ← List.length_map (f := blk), List.map_append, List.map_append, List.map_take, List.map_drop]; exact hu4), rfl⟩
 refine Turn.ef rfl rfl (ef_pv (pv_load rfl rfl rfl) rfl) ?_ ?_
 ·
  rintro _ _ ⟨rfl, rfl⟩; infer_instance
 rintro _ _ ⟨rfl, rfl⟩
 refine Tk 17 rfl rfl (pv_sliceL (i := p + 1) (j := ((T.kids j).map blk).length) (r := (((T.kids j).map blk).drop (p + 1)).length) rfl ⟨_, rfl⟩ rfl (by omega) hjc lB.symm) rfl ?_
 refine AnyH.two 4 10 (by kernel_rfl) ?_ ?_
 ·
  refine Turn.ef rfl rfl (ef_pv (pv_load rfl rfl rfl) rfl) ?_ ?_
  ·
   rintro _ _ ⟨rfl, rfl⟩; infer_instance
  rintro _ _ ⟨rfl, rfl⟩
  refine Tk 6 rfl rfl (pv_sliceL (i := 0) (j := p) (r := (((T.kids j).map blk).take p).length) rfl rfl ⟨_, rfl⟩ (Nat.zero_le _) (by omega) lA.symm) rfl ?_
  refine AnyH.one 10 (by kernel_rfl) ?_
  refine Turn.ef rfl rfl (ef_pv (pv_load rfl rfl rfl) rfl) ?_ ?_
  ·
   rintro _ _ ⟨rfl, rfl⟩; infer_instance
  rintro _ _ ⟨rfl, rfl⟩
  refine AnyH.one 18 (by kernel_rfl) ?_
  refine Turn.ef rfl rfl (ef_buildSliceN [.slice none 0 0, .slice none 0 0, .slice none 0 0] [(0, 1), (1, 1), (2, 1)] rfl (by kernel_rfl) (by first | decide | rfl) rfl rfl rfl) ?_ ?_
  ·
   rintro _ _ ⟨b6, rfl, rfl⟩; infer_instance
  rintro _ _ ⟨b6, rfl, rfl⟩
  refine AnyH.one 19 (by kernel_rfl) ?_
  refine Turn.ef rfl rfl (ef_call (tr_concat3 (segs (knS blk (T.dropK x (T.kids x).length) kv kH) T.n) b6 3 _ _ _ _ _ _ (((T.kids j).map blk).take p) ((T.kids x).map blk) (((T.kids j).map blk).drop (p + 1)) hA hvx hB (by simp only [List.length_append]; omega)) rfl rfl) ?_ ?_
  ·
   rintro _ _ ⟨_, _, ⟨K5, hu5, rfl⟩, rfl, rfl⟩; infer_instance
  rintro _ _ ⟨_, _, ⟨K5, hu5, rfl⟩, rfl, rfl⟩
  refine AnyH.app ?_
  rename_i u5
  have ho1 := hu5.one
  have ho2 := hu5.cells1
  refine Tk 20 rfl rfl (pv_nilCheck rfl) rfl ?_
  refine Tk 21 rfl rfl (pv_fieldAddr0 rfl rfl) rfl ?_
  refine AnyH.one 22 (by kernel_rfl) ?_
  refine Turn.ef rfl rfl (ef_store1 rfl rfl (by first | rfl | assumption) (by first | rfl | assumption)) ?_ ?_
  ·
   rintro _ _ ⟨rfl, rfl⟩; infer_instance
  rintro _ _ ⟨rfl, rfl⟩
  refine AnyH.done (by kernel_rfl) ?_
  refine Ends.seq ?_
  refine Wp.seq ?_
  refine AnyH.start ((b1, .cells [.int .i64 so.1, .int .i64 so.2].toArray 31) :: trBlk tb mb :: []) 6 rfl ?_
  refine Tk 0 rfl rfl (pv_move rfl) rfl ?_
  refine Tk 1 rfl rfl (pv_nilCheck rfl) rfl ?_
  refine Tk 2 rfl rfl (pv_fieldAddr0 rfl rfl) rfl ?_
  refine Tk 3 rfl rfl (pv_load rfl rfl rfl) rfl ?_
  refine Tk 4 rfl rfl (pv_loadK [_, _] rfl rfl rfl ⟨rfl, rfl, trivial⟩) rfl ?_
  refine AnyH.one 5 (by kernel_rfl) ?_
  refine Turn.ef rfl rfl (ef_deleten_s (T := 121) _ rfl rfl rfl) ?_ ?_
  ·
   rintro _ _ ⟨rfl, rfl⟩; infer_instance
  rintro _ _ ⟨rfl, rfl⟩
  refine AnyH.done (by kernel_rfl) ?_
  refine Ends.seq ?_
  refine Wr ?_
  refine Oa1 rfl rfl ?_
  refine On ?_
  refine Wp.ret ?_
  rw [tdel_kvT]
  refine Ends.heap (L' := trBlk tb mb :: mpBlk mb blk (tdel so T.M) clk :: (segs (fset (knS blk (T.dropK x (T.kids x).length) kv kH) j ((blk j, .cells [.int .i64 (T.sl j).1, .int .i64 (T.sl j).2, ptrO blk ((T.dropK x (T.kids x).length).par j), u5].toArray 134) :: K5)) T.n ++ F)) (fun w ho => ?_) ?_
  ·
   have h2 : Own W w (K5 ++ (segs (fset (knS blk (T.dropK x (T.kids x).length) kv kH) j ((blk j, .cells [.int .i64 (T.sl j).1, .int .i64 (T.sl j).2, ptrO blk ((T.dropK x (T.kids x).length).par j), u5].toArray 134) :: kH j)) T.n ++ (trBlk tb mb :: mpBlk mb blk (tdel so T.M) clk :: F))) := Drop.own ho
   have h3 := Own.swapSeg hj h2
   exact (Drop.own h3 : Own W w (trBlk tb mb :: mpBlk mb blk (tdel so T.M) clk :: (segs (fset (knS blk (T.dropK x (T.kids x).length) kv kH) j ((blk j, .cells [.int .i64 (T.sl j).1, .int .i64 (T.sl j).2, ptrO blk ((T.dropK x (T.kids x).length).par j), u5].toArray 134) :: K5)) T.n ++ F)))
  rw [gone_some (s := so) hp]
  exact Ends.ret (L' := trBlk tb mb :: mpBlk mb blk (tdel so T.M) clk :: segs (knS blk (T.gone so x) (fset kv j u5) (fset kH j K5)) T.n) (res1 rfl rfl) ⟨rfl, mb, clk, blk, _, _, gone_some_ok hp hk (by rw [hp3, ← List.length_map (f := blk), List.map_append, List.map_append, List.map_take, List.map_drop]; exact hu5), rfl⟩
 refine Turn.ef rfl rfl (ef_pv (pv_load rfl rfl rfl) rfl) ?_ ?_
 ·
  rintro _ _ ⟨rfl, rfl⟩; infer_instance
 rintro _ _ ⟨rfl, rfl⟩
 refine AnyH.one 4 (by kernel_rfl) ?_
 refine Turn.ef rfl rfl (ef_pv (pv_load rfl rfl rfl) rfl) ?_ ?_
 ·
  rintro _ _ ⟨rfl, rfl⟩; infer_instance
 rintro _ _ ⟨rfl, rfl⟩
 refine Tk 6 rfl rfl (pv_sliceL (i := 0) (j := p) (r := (((T.kids j).map blk).take p).length) rfl rfl ⟨_, rfl⟩ (Nat.zero_le _) (by omega) lA.symm) rfl ?_
 refine AnyH.one 18 (by kernel_rfl) ?_
 refine Turn.ef rfl rfl (ef_buildSliceN [.slice none 0 0, .slice none 0 0, .slice none 0 0] [(0, 1), (1, 1), (2, 1)] rfl (by kernel_rfl) (by first | decide | rfl) rfl rfl rfl) ?_ ?_
 ·
  rintro _ _ ⟨b7, rfl, rfl⟩; infer_instance
 rintro _ _ ⟨b7, rfl, rfl⟩
 refine AnyH.one 19 (by kernel_rfl) ?_
 refine Turn.ef rfl rfl (ef_call (tr_concat3 (segs (knS blk (T.dropK x (T.kids x).length) kv kH) T.n) b7 3 _ _ _ _ _ _ (((T.kids j).map blk).take p) ((T.kids x).map blk) (((T.kids j).map blk).drop (p + 1)) hA hvx hB (by simp only [List.length_append]; omega)) rfl rfl) ?_ ?_
 ·
  rintro _ _ ⟨_, _, ⟨K6, hu6, rfl⟩, rfl, rfl⟩; infer_instance
 rintro _ _ ⟨_, _, ⟨K6, hu6, rfl⟩, rfl, rfl⟩
 refine AnyH.app ?_
 rename_i u6
 have ho1 := hu6.one
 have ho2 := hu6.cells1
 refine Tk 20 rfl rfl (pv_nilCheck rfl) rfl ?_
 refine Tk 21 rfl rfl (pv_fieldAddr0 rfl rfl) rfl ?_
 refine AnyH.one 22 (by kernel_rfl) ?_
 refine Turn.ef rfl rfl (ef_store1 rfl rfl (by first | rfl | assumption) (by first | rfl | assumption)) ?_ ?_
 ·
  rintro _ _ ⟨rfl, rfl⟩; infer_instance
 rintro _ _ ⟨rfl, rfl⟩
 refine AnyH.done (by kernel_rfl) ?_
 refine Ends.seq ?_
 refine Wp.seq ?_
 refine AnyH.start ((b1, .cells [.int .i64 so.1, .int .i64 so.2].toArray 31) :: trBlk tb mb :: []) 6 rfl ?_
 refine Tk 0 rfl rfl (pv_move rfl) rfl ?_
 refine Tk 1 rfl rfl (pv_nilCheck rfl) rfl ?_
 refine Tk 2 rfl rfl (pv_fieldAddr0 rfl rfl) rfl ?_
 refine Tk 3 rfl rfl (pv_load rfl rfl rfl) rfl ?_
 refine Tk 4 rfl rfl (pv_loadK [_, _] rfl rfl rfl ⟨rfl, rfl, trivial⟩) rfl ?_
 refine AnyH.one 5 (by kernel_rfl) ?_
 refine Turn.ef rfl rfl (ef_deleten_s (T := 121) _ rfl rfl rfl) ?_ ?_
 ·
  rintro _ _ ⟨rfl, rfl⟩; infer_instance
 rintro _ _ ⟨rfl, rfl⟩
 refine AnyH.done (by kernel_rfl) ?_
 refine Ends.seq ?_
 refine Wr ?_
 refine Oa1 rfl rfl ?_
 refine On ?_
 refine Wp.ret ?_
 rw [tdel_kvT]
 refine Ends.heap (L' := trBlk tb mb :: mpBlk mb blk (tdel so T.M) clk :: (segs (fset (knS blk (T.dropK x (T.kids x).length) kv kH) j ((blk j, .cells [.int .i64 (T.sl j).1, .int .i64 (T.sl j).2, ptrO blk ((T.dropK x (T.kids x).length).par j), u6].toArray 134) :: K6)) T.n ++ F)) (fun w ho => ?_) ?_
 ·
  have h2 : Own W w (K6 ++ (segs (fset (knS blk (T.dropK x (T.kids x).length) kv kH) j ((blk j, .cells [.int .i64 (T.sl j).1, .int .i64 (T.sl j).2, ptrO blk ((T.dropK x (T.kids x).length).par j), u6].toArray 134) :: kH j)) T.n ++ (trBlk tb mb :: mpBlk mb blk (tdel so T.M) clk :: F))) := Drop.own ho
  have h3 := Own.swapSeg hj h2
  exact (Drop.own h3 : Own W w (trBlk tb mb :: mpBlk mb blk (tdel so T.M) clk :: (segs (fset (knS blk (T.dropK x (T.kids x).length) kv kH) j ((blk j, .cells [.int .i64 (T.sl j).1, .int .i64 (T.sl j).2, ptrO blk ((T.dropK x (T.kids x).length).par j), u6].toArray 134) :: K6)) T.n ++ F)))
 rw [gone_some (s := so) hp]
 exact Ends.ret (L' := trBlk tb mb :: mpBlk mb blk (tdel so T.M) clk :: segs (knS blk (T.gone so x) (fset kv j u6) (fset kH j K6)) T.n) (res1 rfl rfl) ⟨rfl, mb, clk, blk, _, _, gone_some_ok hp hk (by rw [hp3, ← List.length_map (f := blk), List.map_append, List.map_append, List.map_take, List.map_drop]; exact hu6), rfl⟩
theorem tr_tDrop (tb : Nat) (L : Hp) (T : TreeM) (hH : TrH T tb L) (hx : T.Ix) (hn : T.n ≤ 2 ^ 20) (s : SlotM) (hxk : ∀ x, tget s T.M = some x → x ∉ T.kids x) (hxj : ∀ x j, tget s T.M = some x → T.par x = some j → x ∈ T.kids j) : Tr Tryz.prog 96 [.pointer (some ⟨tb, 0, none⟩), slotV s] L (fun u L' => ∃ e T', u = .int .i64 e ∧ TDrop T s e T' ∧ TrH T' tb L') := by
 cases h : tget s T.M with
 | none => exact (tr_tDrop0 tb L T hH s h).mono fun u L' ⟨hu, hl⟩ => ⟨3, T, hu, .inl ⟨h, rfl, rfl⟩, hl⟩
 | some x =>
  cases hp : T.par x with
  | none => exact (tr_tDrop1 tb L T hH hx hn s x h (hxk x h) hp).mono fun u L' ⟨hu, hl⟩ => ⟨0, _, hu, .inr ⟨x, h, rfl, rfl⟩, hl⟩
  | some j => exact (tr_tDrop2 tb L T hH hx hn s x h (hxk x h) j hp (hxj x j h hp)).mono fun u L' ⟨hu, hl⟩ => ⟨0, _, hu, .inr ⟨x, h, rfl, rfl⟩, hl⟩
end Go.Proofs.YtdodfnjmkpgdbaaGreat
end
section
set_option linter.unusedVariables false
set_option linter.unusedSimpArgs false
set_option linter.unusedSectionVars false
namespace Go.Proofs.YtdodfnjmkpgdbaaGreat
open Go.SL
abbrev trP (tb : Nat) : Value := .pointer (some ⟨tb, 0, none⟩)
theorem tr_fNew : Tr Tryz.prog 28 [] [] (fun v L' => ∃ tb, v = trP tb ∧ TrF 0 .nil tb L') :=
  tr_treeNew.mono fun v L' ⟨tb, hv, h⟩ => ⟨tb, hv, _, .nil, tok_new, h, Nat.le_refl _, rfl⟩
theorem TAdd.root {n tb : Nat} {L : Hp} {T T' : TreeM} {G : Fo Nat} (hT : TOk T G) {s : SlotM} {e : Int} (h : TAdd T s none e T') (hL : TrH T' tb L) (hn : T.n ≤ n) : e = (ftRoot (G.map T.sl) s).1 ∧ TrF (n + 1) (ftRoot (G.map T.sl) s).2 tb L := by
 rcases h with ⟨i, h1, rfl, rfl⟩ | ⟨h1, rfl, t, rfl⟩
 ·
  have := hT.in_all.2 ⟨i, h1⟩
  unfold ftRoot; rw [if_pos this]
  exact ⟨rfl, T', G, hT, hL, by omega, rfl⟩
 have := hT.out_all.1 h1
 unfold ftRoot; rw [if_neg this]
 exact ⟨rfl, _, _, tok_root hT h1, hL, by show T.n + 1 ≤ _; omega, (more_rootS hT).symm⟩
section
variable {n : Nat} {F : FoS} {tb : Nat} {L : Hp} (hH : TrF n F tb L)
include hH
theorem TrF.nd : Fo.Nd F := by obtain ⟨T, G, hT, _, _, rfl⟩ := hH; exact hT.ndS
theorem TrF.len : F.all.length ≤ n := by
 obtain ⟨T, G, hT, _, hn, rfl⟩ := hH
 have := hT.all_len
 rw [Fo.all_map, List.length_map]; omega
theorem TrF.more {m : Nat} (h : n ≤ m) : TrF m F tb L := by
 obtain ⟨T, G, hT, hL, hn, e⟩ := hH
 exact ⟨T, G, hT, hL, Nat.le_trans hn h, e⟩
theorem tr_fPar (s : SlotM) : TrR Tryz.prog 99 [trP tb, slotV s] L (.tuple #[slotV (ftPar F s), .bool (ftParB F s)]) := by
 obtain ⟨T, G, hT, hL, hn, rfl⟩ := hH
 exact (tr_tParent tb L T hL hT.ix s).eq (by rw [hT.parS, hT.parB])
theorem tr_fKids (h : n ≤ 2 ^ 20) (s : SlotM) : Tr Tryz.prog 100 [trP tb, slotV s] L (fun u L' => ∃ K, Slc 31 2 u (ftKids F s).length (slotsCells (ftKids F s)) K ∧ L' = K ++ L) := by
 obtain ⟨T, G, hT, hL, hn, rfl⟩ := hH
 have := tr_tChildren tb L T hL hT.ix (by omega) s
 rw [hT.kidsS] at this; exact this
theorem tr_fKin (h : n ≤ 2 ^ 20) (s : SlotM) : Tr Tryz.prog 59 [trP tb, slotV s] L (fun u L' => ∃ K, Slc 31 2 u (ftKin F s).length (slotsCells (ftKin F s)) K ∧ L' = K ++ L) := by
 obtain ⟨T, G, hT, hL, hn, rfl⟩ := hH
 rw [← hT.kinS]
 unfold tkin
 cases e : tget s T.M with
 | none => exact (tr_tKin0 tb L T hL s e).mono fun u L' ⟨hu, hl⟩ => ⟨[], by rw [hu]; exact Slc.nil _ _, hl⟩
 | some i => exact tr_tKin1 tb L T hL G hT (by omega) s i e
theorem tr_fRoot (s : SlotM) : Tr Tryz.prog 78 [trP tb, slotV s] L (fun u L' => u = .int .i64 (ftRoot F s).1 ∧ TrF (n + 1) (ftRoot F s).2 tb L') := by
 obtain ⟨T, G, hT, hL, hn, rfl⟩ := hH
 refine (tr_tRoot tb L T hL hT.ix s).mono ?_
 rintro u L' ⟨e, T', rfl, ha, hl⟩
 obtain ⟨h1, h2⟩ := TAdd.root hT ha hl hn
 exact ⟨by rw [h1], h2⟩
theorem tr_fChild (h : n ≤ 2 ^ 20) (o s : SlotM) : Tr Tryz.prog 82 [trP tb, slotV o, slotV s] L (fun u L' => u = .int .i64 (ftChild F o s).1 ∧ TrF (n + 1) (ftChild F o s).2 tb L') := by
 obtain ⟨T, G, hT, hL, hn, rfl⟩ := hH
 refine (tr_tChild tb L T hL hT.ix (by omega) o s).mono ?_
 rintro u L' ⟨e, T', rfl, ha, hl⟩
 rcases ha with ⟨h1, rfl, rfl⟩ | ⟨j, h1, ⟨i, h2, rfl, rfl⟩ | ⟨h2, rfl, t, rfl⟩⟩
 ·
  unfold ftChild; rw [if_neg (hT.out_all.1 h1)]
  exact ⟨rfl, _, G, hT, hl, by omega, rfl⟩
 ·
  unfold ftChild; rw [if_pos (hT.in_all.2 ⟨j, h1⟩), if_pos (hT.in_all.2 ⟨i, h2⟩)]
  exact ⟨rfl, _, G, hT, hl, by omega, rfl⟩
 unfold ftChild; rw [if_pos (hT.in_all.2 ⟨j, h1⟩), if_neg (hT.out_all.1 h2)]
 exact ⟨rfl, _, _, tok_child hT h2 (hT.mem h1), hl, by show T.n + 1 ≤ _; omega, (more_childS hT h1).symm⟩
theorem tr_fDrop (h : n ≤ 2 ^ 20) (s : SlotM) : Tr Tryz.prog 96 [trP tb, slotV s] L (fun u L' => u = .int .i64 (ftDrop F s).1 ∧ TrF n (ftDrop F s).2 tb L') := by
 obtain ⟨T, G, hT, hL, hn, rfl⟩ := hH
 refine (tr_tDrop tb L T hL hT.ix (by omega) s (fun x hx => hT.xk hx) (fun x j hx hp => (hT.xj hx hp).1)).mono ?_
 rintro u L' ⟨e, T', rfl, ha, hl⟩
 rcases ha with ⟨h1, rfl, rfl⟩ | ⟨i, h1, rfl, rfl⟩
 ·
  unfold ftDrop; rw [if_neg (hT.out_all.1 h1)]
  exact ⟨rfl, _, G, hT, hl, by omega, rfl⟩
 unfold ftDrop; rw [if_pos (hT.in_all.2 ⟨i, h1⟩)]
 exact ⟨rfl, _, _, tok_drop hT h1, hl, by show T.n ≤ _; omega, (gone_S hT h1).symm⟩
theorem tr_fMove (o s : SlotM) : Tr Tryz.prog 93 [trP tb, slotV o, slotV s] L (fun u L' => u = .int .i64 (ftMove F o s).1 ∧ TrF n (ftMove F o s).2 tb L') := by
 obtain ⟨T, G, hT, hL, hn, rfl⟩ := hH
 refine (tr_tMove tb L T hL hT.ix o s).mono ?_
 rintro u L' ⟨e, T', rfl, ha, hl⟩
 rcases ha with ⟨h1, rfl, rfl⟩ | ⟨i, h1, ⟨j, h2, rfl, rfl⟩ | ⟨h2, rfl, t, rfl⟩⟩
 ·
  unfold ftMove; rw [if_neg (hT.out_all.1 h1)]
  exact ⟨rfl, _, G, hT, hl, by omega, rfl⟩
 ·
  unfold ftMove; rw [if_pos (hT.in_all.2 ⟨i, h1⟩), if_pos (hT.in_all.2 ⟨j, h2⟩)]
  exact ⟨rfl, _, G, hT, hl, by omega, rfl⟩
 unfold ftMove; rw [if_pos (hT.in_all.2 ⟨i, h1⟩), if_neg (hT.out_all.1 h2)]
 exact ⟨rfl, _, _, tok_move hT h1 h2, hl, by show T.n ≤ _; omega, (moved_S hT h1).symm⟩
end
end Go.Proofs.YtdodfnjmkpgdbaaGreat
end
section
set_option linter.unusedVariables false
set_option linter.unusedSimpArgs false
namespace Go.Proofs.YtdodfnjmkpgdbaaGreat
open Go.SL
abbrev cpP (cb : Nat) : Value := .pointer (some ⟨cb, 0, none⟩)
theorem tr_mask (a b : Int) : TrR Tryz.prog 116 [.int .i64 a, .int .i64 b] ([]) (.int .i64 (maskM a b)) := by
 refine Tr.enter Tryz.func116 rfl Tryz.ntmps116 rfl (fun W F => ?_)
 refine Wp.app ?_
 refine Wr ?_
 refine Oa1 rfl rfl ?_
 refine On ?_
 refine Wp.seq ?_
 refine Wr ?_
 refine Om1 rfl rfl ?_
 refine Ops.ef rfl (ef_callr (tr_rightsOk a) rfl rfl) ?_
 rintro _ _ ⟨rfl, rfl⟩
 refine Ops.pv (pv_not_dec rfl) rfl ?_
 refine Om1 rfl rfl ?_
 refine Ops.split (t := 8) rfl (fun h1 => ?_) (fun h1 => ?_)
 ·
  refine Os1 rfl rfl rfl rfl ?_
  refine Os1 rfl rfl rfl rfl ?_
  refine Os1 rfl rfl rfl rfl ?_
  refine Ops.pv (pv_pick_true rfl rfl) rfl ?_
  refine On ?_
  refine Wp.cond_true rfl ?_
  refine Wr ?_
  refine Oa1 rfl rfl ?_
  refine On ?_
  refine Wp.ret ?_
  refine Ends.then_ret ?_
  exact Ends.ret (res1 rfl rfl) ⟨by simp_all [maskM, rightsOk], rfl⟩
 refine Ops.pvg ⟨_, _, rfl, rfl, rfl⟩ (pv_move rfl) rfl ?_
 refine Ops.efg ⟨_, _, rfl, rfl, rfl⟩ (ef_callr (tr_rightsOk b) rfl rfl) ?_
 rintro _ _ ⟨rfl, rfl⟩
 refine Ops.pvg ⟨_, _, rfl, rfl, rfl⟩ (pv_not_dec rfl) rfl ?_
 refine Ops.pv (pv_pick_false rfl rfl) rfl ?_
 refine On ?_
 refine Wp.cond_dect rfl (fun h2 => ?_) (fun h2 => ?_)
 ·
  refine Wr ?_
  refine Oa1 rfl rfl ?_
  refine On ?_
  refine Wp.ret ?_
  refine Ends.then_ret ?_
  exact Ends.ret (res1 rfl rfl) ⟨by simp_all [maskM, rightsOk], rfl⟩
 refine Wp.skip ?_
 refine Ends.seq ?_
 refine Wr ?_
 refine Om1 rfl rfl ?_
 refine Om1 rfl rfl ?_
 refine Ops.pv (pv_and rfl rfl rfl) rfl ?_
 refine Oa1 rfl rfl ?_
 refine On ?_
 refine Wp.ret ?_
 exact Ends.ret (res1 rfl rfl) ⟨by simp_all [maskM, rightsOk], rfl⟩
set_option maxHeartbeats 4000000 in
theorem tr_derive (c : CapM) (r bd g n : Int) : TrR Tryz.prog 86 [c.v, .int .i64 r, .int .u64 bd, .int .u64 g, .int .i64 n] ([]) (.tuple #[(derive c r bd g n).1.v, .int .i64 (derive c r bd g n).2]) := by
 refine Tr.enter Tryz.func86 rfl Tryz.ntmps86 rfl (fun W F => ?_)
 refine Wp.app ?_
 refine Wr ?_
 refine Ops.ef rfl (ef_boxK rfl rfl) ?_
 rintro _ _ ⟨b1, rfl, rfl⟩
 refine Ops.ef rfl (ef_allocK tyZ25 rfl) ?_
 rintro _ _ ⟨b2, rfl, rfl⟩
 refine Oa1 rfl rfl ?_
 refine On ?_
 refine Wp.seq ?_
 refine Wr ?_
 refine Ops.pv (pv_loadK [_, _, _, _, _, _] rfl rfl rfl ⟨rfl, rfl, rfl, rfl, rfl, rfl, trivial⟩) rfl ?_
 refine Ops.ef rfl (ef_callr (tr_check c) rfl rfl) ?_
 rintro _ _ ⟨rfl, rfl⟩
 refine Oa1 rfl rfl ?_
 refine On ?_
 refine Wr ?_
 refine Om1 rfl rfl ?_
 refine Ops.pv (pv_neq rfl rfl) rfl ?_
 refine On ?_
 refine Wp.cond_dect rfl (fun h1 => ?_) (fun h1 => ?_)
 ·
  refine Wr ?_
  refine Ops.pv (pv_build rfl) rfl ?_
  refine Om1 rfl rfl ?_
  refine Ops.ef rfl (ef_storeK rfl rfl rfl rfl) ?_
  rintro _ _ ⟨rfl, rfl⟩
  refine Oa1 rfl rfl ?_
  refine On ?_
  refine Wp.ret ?_
  refine Ends.then_ret ?_
  exact Ends.ret (res_list (rs := [.cell 10 25, .tmp 11]) rfl ⟨_, _, rfl, rv_cellK [_, _, _, _, _, _] rfl rfl rfl ⟨rfl, rfl, rfl, rfl, rfl, rfl, trivial⟩, ⟨_, _, rfl, rv_tmp rfl, rfl⟩⟩ rfl) ⟨by simp_all [derive, rightsOk, IntKind.bits], rfl⟩
 refine Wp.skip ?_
 refine Ends.seq ?_
 refine Wp.seq ?_
 refine Wr ?_
 refine Of1 rfl rfl rfl ?_
 refine Ol1 rfl rfl rfl rfl ?_
 refine On ?_
 refine Wp.block ?_
 refine Wr ?_
 refine Ops.pv (pv_eql rfl rfl) rfl ?_
 refine Oa1 rfl rfl ?_
 refine On ?_
 refine Wp.cond_dect rfl (fun h2 => ?_) (fun h2 => ?_)
 ·
  refine Wr ?_
  refine Ops.pv (pv_build rfl) rfl ?_
  refine Ops.ef rfl (ef_storeK rfl rfl rfl rfl) ?_
  rintro _ _ ⟨rfl, rfl⟩
  refine Oa1 rfl rfl ?_
  refine On ?_
  refine Wp.ret ?_
  refine Ends.block_ret ?_
  refine Ends.then_ret ?_
  exact Ends.ret (res_list (rs := [.cell 10 25, .tmp 11]) rfl ⟨_, _, rfl, rv_cellK [_, _, _, _, _, _] rfl rfl rfl ⟨rfl, rfl, rfl, rfl, rfl, rfl, trivial⟩, ⟨_, _, rfl, rv_tmp rfl, rfl⟩⟩ rfl) ⟨by simp_all [derive, rightsOk, IntKind.bits], rfl⟩
 refine Wp.seq ?_
 refine Wr ?_
 refine Ops.pv (pv_eql rfl rfl) rfl ?_
 refine Oa1 rfl rfl ?_
 refine On ?_
 refine Wp.cond_dect rfl (fun h3 => ?_) (fun h3 => ?_)
 ·
  refine Wp.skip ?_
  refine Ends.seq ?_
  refine Wp.cond_true rfl ?_
  refine Wr ?_
  refine Ops.pv (pv_build rfl) rfl ?_
  refine Ops.ef rfl (ef_storeK rfl rfl rfl rfl) ?_
  rintro _ _ ⟨rfl, rfl⟩
  refine Oa1 rfl rfl ?_
  refine On ?_
  refine Wp.ret ?_
  refine Ends.block_ret ?_
  refine Ends.then_ret ?_
  exact Ends.ret (res_list (rs := [.cell 10 25, .tmp 11]) rfl ⟨_, _, rfl, rv_cellK [_, _, _, _, _, _] rfl rfl rfl ⟨rfl, rfl, rfl, rfl, rfl, rfl, trivial⟩, ⟨_, _, rfl, rv_tmp rfl, rfl⟩⟩ rfl) ⟨by simp_all [derive, rightsOk, IntKind.bits], rfl⟩
 refine Wr ?_
 refine Ops.pv (pv_eql rfl rfl) rfl ?_
 refine Oa1 rfl rfl ?_
 refine On ?_
 refine Wp.cond_dect rfl (fun h4 => ?_) (fun h4 => ?_)
 ·
  refine Wp.skip ?_
  refine Ends.seq ?_
  refine Wp.cond_true rfl ?_
  refine Wr ?_
  refine Ops.pv (pv_build rfl) rfl ?_
  refine Ops.ef rfl (ef_storeK rfl rfl rfl rfl) ?_
  rintro _ _ ⟨rfl, rfl⟩
  refine Oa1 rfl rfl ?_
  refine On ?_
  refine Wp.ret ?_
  refine Ends.block_ret ?_
  refine Ends.then_ret ?_
  exact Ends.ret (res_list (rs := [.cell 10 25, .tmp 11]) rfl ⟨_, _, rfl, rv_cellK [_, _, _, _, _, _] rfl rfl rfl ⟨rfl, rfl, rfl, rfl, rfl, rfl, trivial⟩, ⟨_, _, rfl, rv_tmp rfl, rfl⟩⟩ rfl) ⟨by simp_all [derive, rightsOk, IntKind.bits], rfl⟩
 refine Wp.region ?_
 refine Ops.pv (pv_eql rfl rfl) rfl ?_
 refine Oa1 rfl rfl ?_
 refine On ?_
 refine Wp.cond_dect rfl (fun h5 => ?_) (fun h5 => ?_)
 ·
  refine Wr ?_
  refine Ops.pv (pv_build rfl) rfl ?_
  refine Ops.ef rfl (ef_storeK rfl rfl rfl rfl) ?_
  rintro _ _ ⟨rfl, rfl⟩
  refine Oa1 rfl rfl ?_
  refine On ?_
  refine Wp.ret ?_
  refine Ends.block_ret ?_
  refine Ends.then_ret ?_
  exact Ends.ret (res_list (rs := [.cell 10 25, .tmp 11]) rfl ⟨_, _, rfl, rv_cellK [_, _, _, _, _, _] rfl rfl rfl ⟨rfl, rfl, rfl, rfl, rfl, rfl, trivial⟩, ⟨_, _, rfl, rv_tmp rfl, rfl⟩⟩ rfl) ⟨by simp_all [derive, rightsOk, IntKind.bits], rfl⟩
 refine Wp.skip ?_
 refine Ends.block_normal ?_
 refine Ends.seq ?_
 refine Wp.seq ?_
 refine Wr ?_
 refine Om1 rfl rfl ?_
 refine Ops.ef rfl (ef_callr (tr_rightsOk r) rfl rfl) ?_
 rintro _ _ ⟨rfl, rfl⟩
 refine Ops.pv (pv_not_dec rfl) rfl ?_
 refine On ?_
 refine Wp.cond_dect rfl (fun h6 => ?_) (fun h6 => ?_)
 ·
  refine Wr ?_
  refine Ops.pv (pv_build rfl) rfl ?_
  refine Ops.ef rfl (ef_storeK rfl rfl rfl rfl) ?_
  rintro _ _ ⟨rfl, rfl⟩
  refine Oa1 rfl rfl ?_
  refine On ?_
  refine Wp.ret ?_
  refine Ends.then_ret ?_
  exact Ends.ret (res_list (rs := [.cell 10 25, .tmp 11]) rfl ⟨_, _, rfl, rv_cellK [_, _, _, _, _, _] rfl rfl rfl ⟨rfl, rfl, rfl, rfl, rfl, rfl, trivial⟩, ⟨_, _, rfl, rv_tmp rfl, rfl⟩⟩ rfl) ⟨by simp_all [derive, rightsOk, IntKind.bits], rfl⟩
 refine Wp.skip ?_
 refine Ends.seq ?_
 refine Wp.seq ?_
 refine Wr ?_
 refine Of1 rfl rfl rfl ?_
 refine Ol1 rfl rfl rfl rfl ?_
 refine On ?_
 refine Wp.block ?_
 refine Wr ?_
 refine Ops.pv (pv_eql rfl rfl) rfl ?_
 refine Oa1 rfl rfl ?_
 refine On ?_
 refine Wp.cond_dect rfl (fun h7 => ?_) (fun h7 => ?_)
 ·
  refine Wp.region ?_
  refine Of1 rfl rfl rfl ?_
  refine Ol1 rfl rfl rfl rfl ?_
  refine Om1 rfl rfl ?_
  refine Ops.ef rfl (ef_callr (tr_mask c.rights r) rfl rfl) ?_
  rintro _ _ ⟨rfl, rfl⟩
  refine Of1 rfl rfl rfl ?_
  refine Ops.ef rfl (ef_store1 rfl rfl (by first | rfl | assumption) (by first | rfl | assumption)) ?_
  rintro _ _ ⟨rfl, rfl⟩
  refine Ops.nil ?_
  refine Ends.block_normal ?_
  refine Ends.seq ?_
  refine Wr ?_
  refine Ops.pv (pv_loadK [_, _, _, _, _, _] rfl rfl rfl ⟨rfl, rfl, rfl, rfl, rfl, rfl, trivial⟩) rfl ?_
  refine Ops.ef rfl (ef_storeK rfl rfl rfl rfl) ?_
  rintro _ _ ⟨rfl, rfl⟩
  refine Oa1 rfl rfl ?_
  refine On ?_
  refine Wp.ret ?_
  exact Ends.ret (res_list (rs := [.cell 10 25, .tmp 11]) rfl ⟨_, _, rfl, rv_cellK [_, _, _, _, _, _] rfl rfl rfl ⟨rfl, rfl, rfl, rfl, rfl, rfl, trivial⟩, ⟨_, _, rfl, rv_tmp rfl, rfl⟩⟩ rfl) ⟨by simp_all [derive, rightsOk, IntKind.bits], rfl⟩
 refine Wr ?_
 refine Ops.pv (pv_eql rfl rfl) rfl ?_
 refine Oa1 rfl rfl ?_
 refine On ?_
 refine Wp.cond_dect rfl (fun h8 => ?_) (fun h8 => ?_)
 ·
  refine Wp.seq ?_
  refine Wr ?_
  refine Om1 rfl rfl ?_
  refine Om1 rfl rfl ?_
  refine Ops.ef rfl (ef_callr (tr_fits g n) rfl rfl) ?_
  rintro _ _ ⟨rfl, rfl⟩
  refine Ops.pv (pv_not rfl) rfl ?_
  refine On ?_
  refine Wp.cond_t rfl (fun h9 => ?_) (fun h9 => ?_)
  ·
   refine Wr ?_
   refine Ops.pv (pv_build rfl) rfl ?_
   refine Ops.ef rfl (ef_storeK rfl rfl rfl rfl) ?_
   rintro _ _ ⟨rfl, rfl⟩
   refine Oa1 rfl rfl ?_
   refine On ?_
   refine Wp.ret ?_
   refine Ends.then_ret ?_
   refine Ends.block_ret ?_
   refine Ends.then_ret ?_
   exact Ends.ret (res_list (rs := [.cell 10 25, .tmp 11]) rfl ⟨_, _, rfl, rv_cellK [_, _, _, _, _, _] rfl rfl rfl ⟨rfl, rfl, rfl, rfl, rfl, rfl, trivial⟩, ⟨_, _, rfl, rv_tmp rfl, rfl⟩⟩ rfl) ⟨by simp_all [derive, rightsOk, IntKind.bits], rfl⟩
  refine Wp.skip ?_
  refine Ends.seq ?_
  refine Wp.region ?_
  refine Om1 rfl rfl ?_
  refine Om1 rfl rfl ?_
  refine Of1 rfl rfl rfl ?_
  refine Ops.ef rfl (ef_store1 rfl rfl (by first | rfl | assumption) (by first | rfl | assumption)) ?_
  rintro _ _ ⟨rfl, rfl⟩
  refine Of1 rfl rfl rfl ?_
  refine Ops.ef rfl (ef_store1 rfl rfl (by first | rfl | assumption) (by first | rfl | assumption)) ?_
  rintro _ _ ⟨rfl, rfl⟩
  refine Ops.nil ?_
  refine Ends.block_normal ?_
  refine Ends.seq ?_
  refine Wr ?_
  refine Ops.pv (pv_loadK [_, _, _, _, _, _] rfl rfl rfl ⟨rfl, rfl, rfl, rfl, rfl, rfl, trivial⟩) rfl ?_
  refine Ops.ef rfl (ef_storeK rfl rfl rfl rfl) ?_
  rintro _ _ ⟨rfl, rfl⟩
  refine Oa1 rfl rfl ?_
  refine On ?_
  refine Wp.ret ?_
  exact Ends.ret (res_list (rs := [.cell 10 25, .tmp 11]) rfl ⟨_, _, rfl, rv_cellK [_, _, _, _, _, _] rfl rfl rfl ⟨rfl, rfl, rfl, rfl, rfl, rfl, trivial⟩, ⟨_, _, rfl, rv_tmp rfl, rfl⟩⟩ rfl) ⟨by simp_all [derive, rightsOk, IntKind.bits], rfl⟩
 refine Wp.seq ?_
 refine Wr ?_
 refine Ops.pv (pv_eql rfl rfl) rfl ?_
 refine Oa1 rfl rfl ?_
 refine On ?_
 refine Wp.cond_dect rfl (fun h10 => ?_) (fun h10 => ?_)
 ·
  refine Wp.skip ?_
  refine Ends.seq ?_
  refine Wp.cond_true rfl ?_
  refine Wr ?_
  refine Of1 rfl rfl rfl ?_
  refine Ol1 rfl rfl rfl rfl ?_
  refine Om1 rfl rfl ?_
  refine Ops.ef rfl (ef_callr (tr_mask c.rights r) rfl rfl) ?_
  rintro _ _ ⟨rfl, rfl⟩
  refine Of1 rfl rfl rfl ?_
  refine Ops.ef rfl (ef_store1 rfl rfl (by first | rfl | assumption) (by first | rfl | assumption)) ?_
  rintro _ _ ⟨rfl, rfl⟩
  refine On ?_
  refine Wp.seq ?_
  refine Wr ?_
  refine Om1 rfl rfl ?_
  refine Ops.pv (pv_neq rfl rfl) rfl ?_
  refine On ?_
  refine Wp.cond_dect rfl (fun h11 => ?_) (fun h11 => ?_)
  ·
   refine Wp.seq ?_
   refine Wr ?_
   refine Of1 rfl rfl rfl ?_
   refine Ol1 rfl rfl rfl rfl ?_
   refine Ops.pv (pv_neq rfl rfl) rfl ?_
   refine On ?_
   refine Wp.cond_dect rfl (fun h12 => ?_) (fun h12 => ?_)
   ·
    refine Wr ?_
    refine Ops.pv (pv_build rfl) rfl ?_
    refine Ops.ef rfl (ef_storeK rfl rfl rfl rfl) ?_
    rintro _ _ ⟨rfl, rfl⟩
    refine Oa1 rfl rfl ?_
    refine On ?_
    refine Wp.ret ?_
    refine Ends.then_ret ?_
    refine Ends.then_ret ?_
    refine Ends.block_ret ?_
    refine Ends.then_ret ?_
    exact Ends.ret (res_list (rs := [.cell 10 25, .tmp 11]) rfl ⟨_, _, rfl, rv_cellK [_, _, _, _, _, _] rfl rfl rfl ⟨rfl, rfl, rfl, rfl, rfl, rfl, trivial⟩, ⟨_, _, rfl, rv_tmp rfl, rfl⟩⟩ rfl) ⟨by simp_all [derive, rightsOk, IntKind.bits], rfl⟩
   refine Wp.skip ?_
   refine Ends.seq ?_
   refine Wp.region ?_
   refine Om1 rfl rfl ?_
   refine Of1 rfl rfl rfl ?_
   refine Ops.ef rfl (ef_store1 rfl rfl (by first | rfl | assumption) (by first | rfl | assumption)) ?_
   rintro _ _ ⟨rfl, rfl⟩
   refine On ?_
   refine Wr ?_
   refine Of1 rfl rfl rfl ?_
   refine Ol1 rfl rfl rfl rfl ?_
   refine Ops.pv (pv_shr rfl rfl (by omega) rfl) rfl ?_
   refine Ops.pv (pv_neq rfl rfl) rfl ?_
   refine On ?_
   refine Wp.cond_dect rfl (fun h13 => ?_) (fun h13 => ?_)
   ·
    refine Wr ?_
    refine Ops.pv (pv_build rfl) rfl ?_
    refine Ops.ef rfl (ef_storeK rfl rfl rfl rfl) ?_
    rintro _ _ ⟨rfl, rfl⟩
    refine Oa1 rfl rfl ?_
    refine On ?_
    refine Wp.ret ?_
    refine Ends.block_ret ?_
    refine Ends.then_ret ?_
    exact Ends.ret (res_list (rs := [.cell 10 25, .tmp 11]) rfl ⟨_, _, rfl, rv_cellK [_, _, _, _, _, _] rfl rfl rfl ⟨rfl, rfl, rfl, rfl, rfl, rfl, trivial⟩, ⟨_, _, rfl, rv_tmp rfl, rfl⟩⟩ rfl) ⟨by simp_all [derive, rightsOk, IntKind.bits], rfl⟩
   refine Wp.skip ?_
   refine Ends.block_normal ?_
   refine Ends.seq ?_
   refine Wr ?_
   refine Ops.pv (pv_loadK [_, _, _, _, _, _] rfl rfl rfl ⟨rfl, rfl, rfl, rfl, rfl, rfl, trivial⟩) rfl ?_
   refine Ops.ef rfl (ef_storeK rfl rfl rfl rfl) ?_
   rintro _ _ ⟨rfl, rfl⟩
   refine Oa1 rfl rfl ?_
   refine On ?_
   refine Wp.ret ?_
   exact Ends.ret (res_list (rs := [.cell 10 25, .tmp 11]) rfl ⟨_, _, rfl, rv_cellK [_, _, _, _, _, _] rfl rfl rfl ⟨rfl, rfl, rfl, rfl, rfl, rfl, trivial⟩, ⟨_, _, rfl, rv_tmp rfl, rfl⟩⟩ rfl) ⟨by simp_all [derive, rightsOk, IntKind.bits], rfl⟩
  refine Wp.skip ?_
  refine Ends.seq ?_
  refine Wr ?_
  refine Of1 rfl rfl rfl ?_
  refine Ol1 rfl rfl rfl rfl ?_
  refine Ops.pv (pv_shr rfl rfl (by omega) rfl) rfl ?_
  refine Ops.pv (pv_neq rfl rfl) rfl ?_
  refine On ?_
  refine Wp.cond_dect rfl (fun h14 => ?_) (fun h14 => ?_)
  ·
   refine Wr ?_
   refine Ops.pv (pv_build rfl) rfl ?_
   refine Ops.ef rfl (ef_storeK rfl rfl rfl rfl) ?_
   rintro _ _ ⟨rfl, rfl⟩
   refine Oa1 rfl rfl ?_
   refine On ?_
   refine Wp.ret ?_
   refine Ends.block_ret ?_
   refine Ends.then_ret ?_
   exact Ends.ret (res_list (rs := [.cell 10 25, .tmp 11]) rfl ⟨_, _, rfl, rv_cellK [_, _, _, _, _, _] rfl rfl rfl ⟨rfl, rfl, rfl, rfl, rfl, rfl, trivial⟩, ⟨_, _, rfl, rv_tmp rfl, rfl⟩⟩ rfl) ⟨by simp_all [derive, rightsOk, IntKind.bits], rfl⟩
  refine Wp.skip ?_
  refine Ends.block_normal ?_
  refine Ends.seq ?_
  refine Wr ?_
  refine Ops.pv (pv_loadK [_, _, _, _, _, _] rfl rfl rfl ⟨rfl, rfl, rfl, rfl, rfl, rfl, trivial⟩) rfl ?_
  refine Ops.ef rfl (ef_storeK rfl rfl rfl rfl) ?_
  rintro _ _ ⟨rfl, rfl⟩
  refine Oa1 rfl rfl ?_
  refine On ?_
  refine Wp.ret ?_
  exact Ends.ret (res_list (rs := [.cell 10 25, .tmp 11]) rfl ⟨_, _, rfl, rv_cellK [_, _, _, _, _, _] rfl rfl rfl ⟨rfl, rfl, rfl, rfl, rfl, rfl, trivial⟩, ⟨_, _, rfl, rv_tmp rfl, rfl⟩⟩ rfl) ⟨by simp_all [derive, rightsOk, IntKind.bits], rfl⟩
 refine Wp.region ?_
 refine Ops.pv (pv_eql rfl rfl) rfl ?_
 refine Oa1 rfl rfl ?_
 refine On ?_
 refine Wp.cond_dect rfl (fun h15 => ?_) (fun h15 => ?_)
 ·
  refine Wr ?_
  refine Of1 rfl rfl rfl ?_
  refine Ol1 rfl rfl rfl rfl ?_
  refine Om1 rfl rfl ?_
  refine Ops.ef rfl (ef_callr (tr_mask c.rights r) rfl rfl) ?_
  rintro _ _ ⟨rfl, rfl⟩
  refine Of1 rfl rfl rfl ?_
  refine Ops.ef rfl (ef_store1 rfl rfl (by first | rfl | assumption) (by first | rfl | assumption)) ?_
  rintro _ _ ⟨rfl, rfl⟩
  refine On ?_
  refine Wp.seq ?_
  refine Wr ?_
  refine Om1 rfl rfl ?_
  refine Ops.pv (pv_neq rfl rfl) rfl ?_
  refine On ?_
  refine Wp.cond_dect rfl (fun h16 => ?_) (fun h16 => ?_)
  ·
   refine Wp.seq ?_
   refine Wr ?_
   refine Of1 rfl rfl rfl ?_
   refine Ol1 rfl rfl rfl rfl ?_
   refine Ops.pv (pv_neq rfl rfl) rfl ?_
   refine On ?_
   refine Wp.cond_dect rfl (fun h17 => ?_) (fun h17 => ?_)
   ·
    refine Wr ?_
    refine Ops.pv (pv_build rfl) rfl ?_
    refine Ops.ef rfl (ef_storeK rfl rfl rfl rfl) ?_
    rintro _ _ ⟨rfl, rfl⟩
    refine Oa1 rfl rfl ?_
    refine On ?_
    refine Wp.ret ?_
    refine Ends.then_ret ?_
    refine Ends.then_ret ?_
    refine Ends.block_ret ?_
    refine Ends.then_ret ?_
    exact Ends.ret (res_list (rs := [.cell 10 25, .tmp 11]) rfl ⟨_, _, rfl, rv_cellK [_, _, _, _, _, _] rfl rfl rfl ⟨rfl, rfl, rfl, rfl, rfl, rfl, trivial⟩, ⟨_, _, rfl, rv_tmp rfl, rfl⟩⟩ rfl) ⟨by simp_all [derive, rightsOk, IntKind.bits], rfl⟩
   refine Wp.skip ?_
   refine Ends.seq ?_
   refine Wp.region ?_
   refine Om1 rfl rfl ?_
   refine Of1 rfl rfl rfl ?_
   refine Ops.ef rfl (ef_store1 rfl rfl (by first | rfl | assumption) (by first | rfl | assumption)) ?_
   rintro _ _ ⟨rfl, rfl⟩
   refine On ?_
   refine Wr ?_
   refine Of1 rfl rfl rfl ?_
   refine Ol1 rfl rfl rfl rfl ?_
   refine Ops.pv (pv_shr rfl rfl (by omega) rfl) rfl ?_
   refine Ops.pv (pv_neq rfl rfl) rfl ?_
   refine On ?_
   refine Wp.cond_dect rfl (fun h18 => ?_) (fun h18 => ?_)
   ·
    refine Wr ?_
    refine Ops.pv (pv_build rfl) rfl ?_
    refine Ops.ef rfl (ef_storeK rfl rfl rfl rfl) ?_
    rintro _ _ ⟨rfl, rfl⟩
    refine Oa1 rfl rfl ?_
    refine On ?_
    refine Wp.ret ?_
    refine Ends.block_ret ?_
    refine Ends.then_ret ?_
    exact Ends.ret (res_list (rs := [.cell 10 25, .tmp 11]) rfl ⟨_, _, rfl, rv_cellK [_, _, _, _, _, _] rfl rfl rfl ⟨rfl, rfl, rfl, rfl, rfl, rfl, trivial⟩, ⟨_, _, rfl, rv_tmp rfl, rfl⟩⟩ rfl) ⟨by simp_all [derive, rightsOk, IntKind.bits], rfl⟩
   refine Wp.skip ?_
   refine Ends.block_normal ?_
   refine Ends.seq ?_
   refine Wr ?_
   refine Ops.pv (pv_loadK [_, _, _, _, _, _] rfl rfl rfl ⟨rfl, rfl, rfl, rfl, rfl, rfl, trivial⟩) rfl ?_
   refine Ops.ef rfl (ef_storeK rfl rfl rfl rfl) ?_
   rintro _ _ ⟨rfl, rfl⟩
   refine Oa1 rfl rfl ?_
   refine On ?_
   refine Wp.ret ?_
   exact Ends.ret (res_list (rs := [.cell 10 25, .tmp 11]) rfl ⟨_, _, rfl, rv_cellK [_, _, _, _, _, _] rfl rfl rfl ⟨rfl, rfl, rfl, rfl, rfl, rfl, trivial⟩, ⟨_, _, rfl, rv_tmp rfl, rfl⟩⟩ rfl) ⟨by simp_all [derive, rightsOk, IntKind.bits], rfl⟩
  refine Wp.skip ?_
  refine Ends.seq ?_
  refine Wr ?_
  refine Of1 rfl rfl rfl ?_
  refine Ol1 rfl rfl rfl rfl ?_
  refine Ops.pv (pv_shr rfl rfl (by omega) rfl) rfl ?_
  refine Ops.pv (pv_neq rfl rfl) rfl ?_
  refine On ?_
  refine Wp.cond_dect rfl (fun h19 => ?_) (fun h19 => ?_)
  ·
   refine Wr ?_
   refine Ops.pv (pv_build rfl) rfl ?_
   refine Ops.ef rfl (ef_storeK rfl rfl rfl rfl) ?_
   rintro _ _ ⟨rfl, rfl⟩
   refine Oa1 rfl rfl ?_
   refine On ?_
   refine Wp.ret ?_
   refine Ends.block_ret ?_
   refine Ends.then_ret ?_
   exact Ends.ret (res_list (rs := [.cell 10 25, .tmp 11]) rfl ⟨_, _, rfl, rv_cellK [_, _, _, _, _, _] rfl rfl rfl ⟨rfl, rfl, rfl, rfl, rfl, rfl, trivial⟩, ⟨_, _, rfl, rv_tmp rfl, rfl⟩⟩ rfl) ⟨by simp_all [derive, rightsOk, IntKind.bits], rfl⟩
  refine Wp.skip ?_
  refine Ends.block_normal ?_
  refine Ends.seq ?_
  refine Wr ?_
  refine Ops.pv (pv_loadK [_, _, _, _, _, _] rfl rfl rfl ⟨rfl, rfl, rfl, rfl, rfl, rfl, trivial⟩) rfl ?_
  refine Ops.ef rfl (ef_storeK rfl rfl rfl rfl) ?_
  rintro _ _ ⟨rfl, rfl⟩
  refine Oa1 rfl rfl ?_
  refine On ?_
  refine Wp.ret ?_
  exact Ends.ret (res_list (rs := [.cell 10 25, .tmp 11]) rfl ⟨_, _, rfl, rv_cellK [_, _, _, _, _, _] rfl rfl rfl ⟨rfl, rfl, rfl, rfl, rfl, rfl, trivial⟩, ⟨_, _, rfl, rv_tmp rfl, rfl⟩⟩ rfl) ⟨by simp_all [derive, rightsOk, IntKind.bits], rfl⟩
 refine Wp.skip ?_
 refine Ends.block_normal ?_
 refine Ends.seq ?_
 refine Wr ?_
 refine Ops.pv (pv_loadK [_, _, _, _, _, _] rfl rfl rfl ⟨rfl, rfl, rfl, rfl, rfl, rfl, trivial⟩) rfl ?_
 refine Ops.ef rfl (ef_storeK rfl rfl rfl rfl) ?_
 rintro _ _ ⟨rfl, rfl⟩
 refine Oa1 rfl rfl ?_
 refine On ?_
 refine Wp.ret ?_
 exact Ends.ret (res_list (rs := [.cell 10 25, .tmp 11]) rfl ⟨_, _, rfl, rv_cellK [_, _, _, _, _, _] rfl rfl rfl ⟨rfl, rfl, rfl, rfl, rfl, rfl, trivial⟩, ⟨_, _, rfl, rv_tmp rfl, rfl⟩⟩ rfl) ⟨by simp_all [derive, rightsOk, IntKind.bits], rfl⟩
theorem tr_mNew  : Tr Tryz.prog 5 [] ([]) (fun v L' => ∃ cb, v = cpP cb ∧ CapsH 0 PS.new cb L') := by
 refine Tr.enter Tryz.func5 rfl Tryz.ntmps5 rfl (fun W F => ?_)
 refine Wp.app ?_
 refine Wr ?_
 refine Oa1 rfl rfl ?_
 refine On ?_
 refine Wr ?_
 refine Ops.ef rfl (ef_call sf_new rfl rfl) ?_
 rintro _ _ ⟨_, Q1, ⟨sb1, rfl, hS1⟩, rfl, rfl⟩
 refine Ops.app ?_
 skip
 refine Ops.pv (pv_build rfl) rfl ?_
 refine Ops.ef rfl (ef_call tr_fNew rfl rfl) ?_
 rintro _ _ ⟨_, R1, ⟨tb1, rfl, hT1⟩, rfl, rfl⟩
 refine Ops.app ?_
 skip
 refine Ops.pv (pv_build rfl) rfl ?_
 refine Ops.ef rfl (ef_boxK rfl rfl) ?_
 rintro _ _ ⟨b1, rfl, rfl⟩
 refine Oa1 rfl rfl ?_
 refine On ?_
 refine Wp.ret ?_
 exact Ends.ret (L' := cBlk b1 sb1 tb1 :: (Q1 ++ R1)) (res1 rfl rfl) ⟨b1, rfl, sb1, tb1, Q1, R1, hS1, hT1, rfl⟩
theorem tr_smNode (l : List DN) (sb : Nat) (Ls : Hp) (hS : StF l sb Ls) (x r : Int) : Tr Tryz.prog 29 [.agg #[stP sb], .int .i64 x, .int .i64 r] (Ls) (fun u L' => u = .int .i64 (dadd l x r).1 ∧ StF (dadd l x r).2 sb L') := by
 refine Tr.enter Tryz.func29 rfl Tryz.ntmps29 rfl (fun W F => ?_)
 refine Wp.app ?_
 refine Wr ?_
 refine Ops.ef rfl (ef_boxK rfl rfl) ?_
 rintro _ _ ⟨b1, rfl, rfl⟩
 refine Oa1 rfl rfl ?_
 refine On ?_
 refine Wr ?_
 refine Of1 rfl rfl rfl ?_
 refine Ol1 rfl rfl rfl rfl ?_
 refine Om1 rfl rfl ?_
 refine Om1 rfl rfl ?_
 refine Ops.ef rfl (ef_call (sf_add hS x r) rfl rfl) ?_
 rintro _ _ ⟨_, Q1, ⟨rfl, hS1⟩, rfl, rfl⟩
 refine Ops.app ?_
 skip
 refine Oa1 rfl rfl ?_
 refine On ?_
 refine Wp.ret ?_
 exact Ends.ret (L' := Q1) (res1 rfl rfl) ⟨rfl, hS1⟩
theorem tr_smClear (l : List DN) (sb : Nat) (Ls : Hp) (hS : StF l sb Ls) (x : Int) : Tr Tryz.prog 31 [.agg #[stP sb], .int .i64 x] (Ls) (fun u L' => u = .int .i64 (ddrop l x).1 ∧ StF (ddrop l x).2 sb L') := by
 refine Tr.enter Tryz.func31 rfl Tryz.ntmps31 rfl (fun W F => ?_)
 refine Wp.app ?_
 refine Wr ?_
 refine Ops.ef rfl (ef_boxK rfl rfl) ?_
 rintro _ _ ⟨b1, rfl, rfl⟩
 refine Oa1 rfl rfl ?_
 refine On ?_
 refine Wr ?_
 refine Of1 rfl rfl rfl ?_
 refine Ol1 rfl rfl rfl rfl ?_
 refine Om1 rfl rfl ?_
 refine Ops.ef rfl (ef_call (sf_drop hS x) rfl rfl) ?_
 rintro _ _ ⟨_, Q1, ⟨rfl, hS1⟩, rfl, rfl⟩
 refine Ops.app ?_
 skip
 refine Oa1 rfl rfl ?_
 refine On ?_
 refine Wp.ret ?_
 exact Ends.ret (L' := Q1) (res1 rfl rfl) ⟨rfl, hS1⟩
theorem tr_mSource (n cb : Nat) (L : Hp) (p : PS) (hH : CapsH n p cb L) (so : SlotM) : TrR Tryz.prog 90 [cpP cb, slotV so] (L) (.tuple #[(mSource p so).1.v, .int .i64 (mSource p so).2]) := by
 obtain ⟨sb, tb, Ls, Lt, hS, hT, rfl⟩ := hH
 refine Tr.enter Tryz.func90 rfl Tryz.ntmps90 rfl (fun W F => ?_)
 refine Wp.app ?_
 refine Wr ?_
 refine Ops.ef rfl (ef_boxK rfl rfl) ?_
 rintro _ _ ⟨b1, rfl, rfl⟩
 refine Ops.ef rfl (ef_allocK tyZ25 rfl) ?_
 rintro _ _ ⟨b2, rfl, rfl⟩
 refine Oa1 rfl rfl ?_
 refine On ?_
 refine Wp.seq ?_
 refine AnyH.start ((b1, .cells [.int .i64 so.1, .int .i64 so.2].toArray 31) :: cBlk cb sb tb :: []) 13 rfl ?_
 refine Tk 0 rfl rfl (pv_move rfl) rfl ?_
 refine Tk 1 rfl rfl (pv_nilCheck rfl) rfl ?_
 refine Tk 2 rfl rfl (pv_fieldAddr0 rfl rfl) rfl ?_
 refine Tk 3 rfl rfl (pv_fieldAddr0 rfl rfl) rfl ?_
 refine Tk 4 rfl rfl (pv_load rfl rfl rfl) rfl ?_
 refine Tk 5 rfl rfl (pv_loadK [_, _] rfl rfl rfl ⟨rfl, rfl, trivial⟩) rfl ?_
 refine AnyH.two 6 10 (by kernel_rfl) ?_ ?_
 ·
  refine Turn.ef rfl rfl (ef_callr (sf_get hS so) rfl rfl) ?_ ?_
  ·
   rintro _ _ ⟨rfl, rfl⟩; infer_instance
  rintro _ _ ⟨rfl, rfl⟩
  refine Tk 7 rfl rfl (pv_move rfl) rfl ?_
  refine Tk 8 rfl rfl (pv_extract rfl rfl) rfl ?_
  refine Tk 9 rfl rfl (pv_extract rfl rfl) rfl ?_
  refine AnyH.one 10 (by kernel_rfl) ?_
  refine Turn.ef rfl rfl (ef_allocK tyZ25 rfl) ?_ ?_
  ·
   rintro _ _ ⟨b3, rfl, rfl⟩; infer_instance
  rintro _ _ ⟨b3, rfl, rfl⟩
  refine AnyH.one 11 (by kernel_rfl) ?_
  refine Turn.ef rfl rfl (ef_storeK rfl rfl rfl rfl) ?_ ?_
  ·
   rintro _ _ ⟨rfl, rfl⟩; infer_instance
  rintro _ _ ⟨rfl, rfl⟩
  refine Tk 12 rfl rfl (pv_assign rfl) rfl ?_
  refine AnyH.done (by kernel_rfl) ?_
  refine Ends.seq ?_
  refine Wp.seq ?_
  refine Wr ?_
  refine Om1 rfl rfl ?_
  refine Ops.pv (pv_eql rfl rfl) rfl ?_
  refine Om1 rfl rfl ?_
  refine Ops.pvc rfl rfl (fun hg => pv_fieldAddr0 rfl rfl) rfl ?_
  refine Ops.pvc rfl rfl (fun hg => Pv.setE (t := 21) rfl (cv_pos hg) (pv_load rfl rfl rfl)) rfl ?_
  refine Ops.pvc rfl rfl (fun hg => Pv.setE (t := 21) rfl (cv_pos hg) (Pv.setE (t := 22) rfl (cv_pos hg) (pv_eql rfl rfl))) rfl ?_
  refine Ops.pv (pv_pick_and rfl rfl) rfl ?_
  refine On ?_
  refine Wp.cond_dect rfl (fun h1 => ?_) (fun h1 => ?_)
  ·
   refine Wp.region ?_
   refine Oa1 rfl rfl ?_
   refine On ?_
   refine Wr ?_
   refine Ops.pv (pv_loadK [_, _, _, _, _, _] rfl rfl rfl ⟨rfl, rfl, rfl, rfl, rfl, rfl, trivial⟩) rfl ?_
   refine Om1 rfl rfl ?_
   refine Ops.ef rfl (ef_storeK rfl rfl rfl rfl) ?_
   rintro _ _ ⟨rfl, rfl⟩
   refine Oa1 rfl rfl ?_
   refine On ?_
   refine Wp.ret ?_
   have he : mSource p so = ((dget p.l so).1, 3) := if_pos (by assumption)
   exact Ends.ret (res_list (rs := [.cell 4 25, .tmp 5]) rfl ⟨_, _, rfl, rv_cellK [_, _, _, _, _, _] rfl rfl rfl ⟨rfl, rfl, rfl, rfl, rfl, rfl, trivial⟩, ⟨_, _, rfl, rv_tmp rfl, rfl⟩⟩ rfl) ⟨by rw [he], rfl⟩
  refine Wp.skip ?_
  refine Ends.seq ?_
  refine Wr ?_
  refine Ops.pv (pv_loadK [_, _, _, _, _, _] rfl rfl rfl ⟨rfl, rfl, rfl, rfl, rfl, rfl, trivial⟩) rfl ?_
  refine Om1 rfl rfl ?_
  refine Ops.ef rfl (ef_storeK rfl rfl rfl rfl) ?_
  rintro _ _ ⟨rfl, rfl⟩
  refine Oa1 rfl rfl ?_
  refine On ?_
  refine Wp.ret ?_
  have he : mSource p so = dget p.l so := if_neg (by assumption)
  exact Ends.ret (res_list (rs := [.cell 4 25, .tmp 5]) rfl ⟨_, _, rfl, rv_cellK [_, _, _, _, _, _] rfl rfl rfl ⟨rfl, rfl, rfl, rfl, rfl, rfl, trivial⟩, ⟨_, _, rfl, rv_tmp rfl, rfl⟩⟩ rfl) ⟨by rw [he], rfl⟩
 refine Turn.ef rfl rfl (ef_allocK tyZ25 rfl) ?_ ?_
 ·
  rintro _ _ ⟨b4, rfl, rfl⟩; infer_instance
 rintro _ _ ⟨b4, rfl, rfl⟩
 refine AnyH.one 6 (by kernel_rfl) ?_
 refine Turn.ef rfl rfl (ef_callr (sf_get hS so) rfl rfl) ?_ ?_
 ·
  rintro _ _ ⟨rfl, rfl⟩; infer_instance
 rintro _ _ ⟨rfl, rfl⟩
 refine Tk 7 rfl rfl (pv_move rfl) rfl ?_
 refine Tk 8 rfl rfl (pv_extract rfl rfl) rfl ?_
 refine Tk 9 rfl rfl (pv_extract rfl rfl) rfl ?_
 refine AnyH.one 11 (by kernel_rfl) ?_
 refine Turn.ef rfl rfl (ef_storeK rfl rfl rfl rfl) ?_ ?_
 ·
  rintro _ _ ⟨rfl, rfl⟩; infer_instance
 rintro _ _ ⟨rfl, rfl⟩
 refine Tk 12 rfl rfl (pv_assign rfl) rfl ?_
 refine AnyH.done (by kernel_rfl) ?_
 refine Ends.seq ?_
 refine Wp.seq ?_
 refine Wr ?_
 refine Om1 rfl rfl ?_
 refine Ops.pv (pv_eql rfl rfl) rfl ?_
 refine Om1 rfl rfl ?_
 refine Ops.pvc rfl rfl (fun hg => pv_fieldAddr0 rfl rfl) rfl ?_
 refine Ops.pvc rfl rfl (fun hg => Pv.setE (t := 21) rfl (cv_pos hg) (pv_load rfl rfl rfl)) rfl ?_
 refine Ops.pvc rfl rfl (fun hg => Pv.setE (t := 21) rfl (cv_pos hg) (Pv.setE (t := 22) rfl (cv_pos hg) (pv_eql rfl rfl))) rfl ?_
 refine Ops.pv (pv_pick_and rfl rfl) rfl ?_
 refine On ?_
 refine Wp.cond_dect rfl (fun h2 => ?_) (fun h2 => ?_)
 ·
  refine Wp.region ?_
  refine Oa1 rfl rfl ?_
  refine On ?_
  refine Wr ?_
  refine Ops.pv (pv_loadK [_, _, _, _, _, _] rfl rfl rfl ⟨rfl, rfl, rfl, rfl, rfl, rfl, trivial⟩) rfl ?_
  refine Om1 rfl rfl ?_
  refine Ops.ef rfl (ef_storeK rfl rfl rfl rfl) ?_
  rintro _ _ ⟨rfl, rfl⟩
  refine Oa1 rfl rfl ?_
  refine On ?_
  refine Wp.ret ?_
  have he : mSource p so = ((dget p.l so).1, 3) := if_pos (by assumption)
  exact Ends.ret (res_list (rs := [.cell 4 25, .tmp 5]) rfl ⟨_, _, rfl, rv_cellK [_, _, _, _, _, _] rfl rfl rfl ⟨rfl, rfl, rfl, rfl, rfl, rfl, trivial⟩, ⟨_, _, rfl, rv_tmp rfl, rfl⟩⟩ rfl) ⟨by rw [he], rfl⟩
 refine Wp.skip ?_
 refine Ends.seq ?_
 refine Wr ?_
 refine Ops.pv (pv_loadK [_, _, _, _, _, _] rfl rfl rfl ⟨rfl, rfl, rfl, rfl, rfl, rfl, trivial⟩) rfl ?_
 refine Om1 rfl rfl ?_
 refine Ops.ef rfl (ef_storeK rfl rfl rfl rfl) ?_
 rintro _ _ ⟨rfl, rfl⟩
 refine Oa1 rfl rfl ?_
 refine On ?_
 refine Wp.ret ?_
 have he : mSource p so = dget p.l so := if_neg (by assumption)
 exact Ends.ret (res_list (rs := [.cell 4 25, .tmp 5]) rfl ⟨_, _, rfl, rv_cellK [_, _, _, _, _, _] rfl rfl rfl ⟨rfl, rfl, rfl, rfl, rfl, rfl, trivial⟩, ⟨_, _, rfl, rv_tmp rfl, rfl⟩⟩ rfl) ⟨by rw [he], rfl⟩
theorem tr_mPlace (n cb : Nat) (L : Hp) (p : PS) (hH : CapsH n p cb L) (so : SlotM) : TrR Tryz.prog 91 [cpP cb, slotV so] (L) (.int .i64 (mPlace p so)) := by
 obtain ⟨sb, tb, Ls, Lt, hS, hT, rfl⟩ := hH
 refine Tr.enter Tryz.func91 rfl Tryz.ntmps91 rfl (fun W F => ?_)
 refine Wp.app ?_
 refine Wr ?_
 refine Ops.ef rfl (ef_boxK rfl rfl) ?_
 rintro _ _ ⟨b1, rfl, rfl⟩
 refine Oa1 rfl rfl ?_
 refine On ?_
 refine Wp.seq ?_
 refine AnyH.start ((b1, .cells [.int .i64 so.1, .int .i64 so.2].toArray 31) :: cBlk cb sb tb :: []) 13 rfl ?_
 refine Tk 0 rfl rfl (pv_move rfl) rfl ?_
 refine Tk 1 rfl rfl (pv_nilCheck rfl) rfl ?_
 refine Tk 2 rfl rfl (pv_fieldAddr0 rfl rfl) rfl ?_
 refine Tk 3 rfl rfl (pv_fieldAddr0 rfl rfl) rfl ?_
 refine Tk 4 rfl rfl (pv_load rfl rfl rfl) rfl ?_
 refine Tk 5 rfl rfl (pv_loadK [_, _] rfl rfl rfl ⟨rfl, rfl, trivial⟩) rfl ?_
 refine AnyH.two 6 10 (by kernel_rfl) ?_ ?_
 ·
  refine Turn.ef rfl rfl (ef_callr (sf_get hS so) rfl rfl) ?_ ?_
  ·
   rintro _ _ ⟨rfl, rfl⟩; infer_instance
  rintro _ _ ⟨rfl, rfl⟩
  refine Tk 7 rfl rfl (pv_move rfl) rfl ?_
  refine Tk 8 rfl rfl (pv_extract rfl rfl) rfl ?_
  refine Tk 9 rfl rfl (pv_extract rfl rfl) rfl ?_
  refine AnyH.one 10 (by kernel_rfl) ?_
  refine Turn.ef rfl rfl (ef_allocK tyZ25 rfl) ?_ ?_
  ·
   rintro _ _ ⟨b2, rfl, rfl⟩; infer_instance
  rintro _ _ ⟨b2, rfl, rfl⟩
  refine AnyH.one 11 (by kernel_rfl) ?_
  refine Turn.ef rfl rfl (ef_storeK rfl rfl rfl rfl) ?_ ?_
  ·
   rintro _ _ ⟨rfl, rfl⟩; infer_instance
  rintro _ _ ⟨rfl, rfl⟩
  refine Tk 12 rfl rfl (pv_assign rfl) rfl ?_
  refine AnyH.done (by kernel_rfl) ?_
  refine Ends.seq ?_
  refine Wp.seq ?_
  refine Wr ?_
  refine Om1 rfl rfl ?_
  refine Ops.pv (pv_eql rfl rfl) rfl ?_
  refine Om1 rfl rfl ?_
  refine Ops.pvc rfl rfl (fun hg => pv_fieldAddr0 rfl rfl) rfl ?_
  refine Ops.pvc rfl rfl (fun hg => Pv.setE (t := 20) rfl (cv_pos hg) (pv_load rfl rfl rfl)) rfl ?_
  refine Ops.pvc rfl rfl (fun hg => Pv.setE (t := 20) rfl (cv_pos hg) (Pv.setE (t := 21) rfl (cv_pos hg) (pv_neq rfl rfl))) rfl ?_
  refine Ops.pv (pv_pick_and rfl rfl) rfl ?_
  refine On ?_
  refine Wp.cond_dect rfl (fun h1 => ?_) (fun h1 => ?_)
  ·
   refine Wp.region ?_
   refine Oa1 rfl rfl ?_
   refine On ?_
   refine Wr ?_
   refine Om1 rfl rfl ?_
   refine Oa1 rfl rfl ?_
   refine On ?_
   refine Wp.ret ?_
   have he : mPlace p so = 4 := if_pos (by assumption)
   exact Ends.ret (res1 rfl rfl) ⟨by rw [he], rfl⟩
  refine Wp.skip ?_
  refine Ends.seq ?_
  refine Wr ?_
  refine Om1 rfl rfl ?_
  refine Oa1 rfl rfl ?_
  refine On ?_
  refine Wp.ret ?_
  have he : mPlace p so = (dget p.l so).2 := if_neg (by assumption)
  exact Ends.ret (res1 rfl rfl) ⟨by rw [he], rfl⟩
 refine Turn.ef rfl rfl (ef_allocK tyZ25 rfl) ?_ ?_
 ·
  rintro _ _ ⟨b3, rfl, rfl⟩; infer_instance
 rintro _ _ ⟨b3, rfl, rfl⟩
 refine AnyH.one 6 (by kernel_rfl) ?_
 refine Turn.ef rfl rfl (ef_callr (sf_get hS so) rfl rfl) ?_ ?_
 ·
  rintro _ _ ⟨rfl, rfl⟩; infer_instance
 rintro _ _ ⟨rfl, rfl⟩
 refine Tk 7 rfl rfl (pv_move rfl) rfl ?_
 refine Tk 8 rfl rfl (pv_extract rfl rfl) rfl ?_
 refine Tk 9 rfl rfl (pv_extract rfl rfl) rfl ?_
 refine AnyH.one 11 (by kernel_rfl) ?_
 refine Turn.ef rfl rfl (ef_storeK rfl rfl rfl rfl) ?_ ?_
 ·
  rintro _ _ ⟨rfl, rfl⟩; infer_instance
 rintro _ _ ⟨rfl, rfl⟩
 refine Tk 12 rfl rfl (pv_assign rfl) rfl ?_
 refine AnyH.done (by kernel_rfl) ?_
 refine Ends.seq ?_
 refine Wp.seq ?_
 refine Wr ?_
 refine Om1 rfl rfl ?_
 refine Ops.pv (pv_eql rfl rfl) rfl ?_
 refine Om1 rfl rfl ?_
 refine Ops.pvc rfl rfl (fun hg => pv_fieldAddr0 rfl rfl) rfl ?_
 refine Ops.pvc rfl rfl (fun hg => Pv.setE (t := 20) rfl (cv_pos hg) (pv_load rfl rfl rfl)) rfl ?_
 refine Ops.pvc rfl rfl (fun hg => Pv.setE (t := 20) rfl (cv_pos hg) (Pv.setE (t := 21) rfl (cv_pos hg) (pv_neq rfl rfl))) rfl ?_
 refine Ops.pv (pv_pick_and rfl rfl) rfl ?_
 refine On ?_
 refine Wp.cond_dect rfl (fun h2 => ?_) (fun h2 => ?_)
 ·
  refine Wp.region ?_
  refine Oa1 rfl rfl ?_
  refine On ?_
  refine Wr ?_
  refine Om1 rfl rfl ?_
  refine Oa1 rfl rfl ?_
  refine On ?_
  refine Wp.ret ?_
  have he : mPlace p so = 4 := if_pos (by assumption)
  exact Ends.ret (res1 rfl rfl) ⟨by rw [he], rfl⟩
 refine Wp.skip ?_
 refine Ends.seq ?_
 refine Wr ?_
 refine Om1 rfl rfl ?_
 refine Oa1 rfl rfl ?_
 refine On ?_
 refine Wp.ret ?_
 have he : mPlace p so = (dget p.l so).2 := if_neg (by assumption)
 exact Ends.ret (res1 rfl rfl) ⟨by rw [he], rfl⟩
theorem tr_mBoth (n cb : Nat) (L : Hp) (p : PS) (hH : CapsH n p cb L) (so de : SlotM) : TrR Tryz.prog 81 [cpP cb, slotV so, slotV de] (L) (.tuple #[(mBoth p so de).1.v, .int .i64 (mBoth p so de).2]) := by
 refine Tr.enter Tryz.func81 rfl Tryz.ntmps81 rfl (fun W F => ?_)
 refine Wp.app ?_
 refine Wr ?_
 refine Ops.ef rfl (ef_boxK rfl rfl) ?_
 rintro _ _ ⟨b1, rfl, rfl⟩
 refine Ops.ef rfl (ef_boxK rfl rfl) ?_
 rintro _ _ ⟨b2, rfl, rfl⟩
 refine Ops.ef rfl (ef_allocK tyZ25 rfl) ?_
 rintro _ _ ⟨b3, rfl, rfl⟩
 refine Oa1 rfl rfl ?_
 refine On ?_
 refine Wr ?_
 refine Om1 rfl rfl ?_
 refine Ops.pv (pv_loadK [_, _] rfl rfl rfl ⟨rfl, rfl, trivial⟩) rfl ?_
 refine Ops.ef rfl (ef_callr (tr_mSource n cb L p hH so) rfl rfl) ?_
 rintro _ _ ⟨rfl, rfl⟩
 refine Om1 rfl rfl ?_
 refine Ops.pv (pv_extract rfl rfl) rfl ?_
 refine Ops.pv (pv_extract rfl rfl) rfl ?_
 refine Ops.ef rfl (ef_allocK tyZ25 rfl) ?_
 rintro _ _ ⟨b4, rfl, rfl⟩
 refine Ops.ef rfl (ef_storeK rfl rfl rfl rfl) ?_
 rintro _ _ ⟨rfl, rfl⟩
 refine Oa1 rfl rfl ?_
 refine On ?_
 refine Wp.seq ?_
 refine Wr ?_
 refine Om1 rfl rfl ?_
 refine Ops.pv (pv_eql rfl rfl) rfl ?_
 refine On ?_
 refine Wp.cond_dect rfl (fun h1 => ?_) (fun h1 => ?_)
 ·
  refine Wp.region ?_
  refine Om1 rfl rfl ?_
  refine Ops.pv (pv_loadK [_, _] rfl rfl rfl ⟨rfl, rfl, trivial⟩) rfl ?_
  refine Ops.ef rfl (ef_callr (tr_mPlace n cb L p hH de) rfl rfl) ?_
  rintro _ _ ⟨rfl, rfl⟩
  refine Oa1 rfl rfl ?_
  refine On ?_
  refine Wr ?_
  refine Ops.pv (pv_loadK [_, _, _, _, _, _] rfl rfl rfl ⟨rfl, rfl, rfl, rfl, rfl, rfl, trivial⟩) rfl ?_
  refine Om1 rfl rfl ?_
  refine Ops.ef rfl (ef_storeK rfl rfl rfl rfl) ?_
  rintro _ _ ⟨rfl, rfl⟩
  refine Oa1 rfl rfl ?_
  refine On ?_
  refine Wp.ret ?_
  have he : mBoth p so de = ((mSource p so).1, mPlace p de) := by unfold mBoth; rw [if_pos (by assumption)]
  exact Ends.ret (res_list (rs := [.cell 6 25, .tmp 7]) rfl ⟨_, _, rfl, rv_cellK [_, _, _, _, _, _] rfl rfl rfl ⟨rfl, rfl, rfl, rfl, rfl, rfl, trivial⟩, ⟨_, _, rfl, rv_tmp rfl, rfl⟩⟩ rfl) ⟨by rw [he], rfl⟩
 refine Wp.skip ?_
 refine Ends.seq ?_
 refine Wr ?_
 refine Ops.pv (pv_loadK [_, _, _, _, _, _] rfl rfl rfl ⟨rfl, rfl, rfl, rfl, rfl, rfl, trivial⟩) rfl ?_
 refine Om1 rfl rfl ?_
 refine Ops.ef rfl (ef_storeK rfl rfl rfl rfl) ?_
 rintro _ _ ⟨rfl, rfl⟩
 refine Oa1 rfl rfl ?_
 refine On ?_
 refine Wp.ret ?_
 have he : mBoth p so de = ((mSource p so).1, (mSource p so).2) := by unfold mBoth; rw [if_neg (by assumption)]
 exact Ends.ret (res_list (rs := [.cell 6 25, .tmp 7]) rfl ⟨_, _, rfl, rv_cellK [_, _, _, _, _, _] rfl rfl rfl ⟨rfl, rfl, rfl, rfl, rfl, rfl, trivial⟩, ⟨_, _, rfl, rv_tmp rfl, rfl⟩⟩ rfl) ⟨by rw [he], rfl⟩
theorem tr_mPar (n cb : Nat) (L : Hp) (p : PS) (hH : CapsH n p cb L) (so : SlotM) : TrR Tryz.prog 53 [cpP cb, slotV so] (L) (.tuple #[slotV (ftPar p.F so), .bool (ftParB p.F so)]) := by
 obtain ⟨sb, tb, Ls, Lt, hS, hT, rfl⟩ := hH
 refine Tr.enter Tryz.func53 rfl Tryz.ntmps53 rfl (fun W F => ?_)
 refine Wp.app ?_
 refine Wr ?_
 refine Ops.ef rfl (ef_boxK rfl rfl) ?_
 rintro _ _ ⟨b1, rfl, rfl⟩
 refine Ops.ef rfl (ef_allocK tyZ31 rfl) ?_
 rintro _ _ ⟨b2, rfl, rfl⟩
 refine Oa1 rfl rfl ?_
 refine On ?_
 refine Wp.seq ?_
 refine AnyH.start ((b1, .cells [.int .i64 so.1, .int .i64 so.2].toArray 31) :: cBlk cb sb tb :: []) 10 rfl ?_
 refine Tk 0 rfl rfl (pv_move rfl) rfl ?_
 refine Tk 1 rfl rfl (pv_nilCheck rfl) rfl ?_
 refine Tk 2 rfl rfl (pv_fieldAddr0 rfl rfl) rfl ?_
 refine Tk 3 rfl rfl (pv_load rfl rfl rfl) rfl ?_
 refine Tk 4 rfl rfl (pv_loadK [_, _] rfl rfl rfl ⟨rfl, rfl, trivial⟩) rfl ?_
 refine AnyH.one 5 (by kernel_rfl) ?_
 refine Turn.ef rfl rfl (ef_callr (tr_fPar hT so) rfl rfl) ?_ ?_
 ·
  rintro _ _ ⟨rfl, rfl⟩; infer_instance
 rintro _ _ ⟨rfl, rfl⟩
 refine Tk 6 rfl rfl (pv_extract rfl rfl) rfl ?_
 refine Tk 7 rfl rfl (pv_extract rfl rfl) rfl ?_
 refine AnyH.one 8 (by kernel_rfl) ?_
 refine Turn.ef rfl rfl (ef_storeK rfl rfl rfl rfl) ?_ ?_
 ·
  rintro _ _ ⟨rfl, rfl⟩; infer_instance
 rintro _ _ ⟨rfl, rfl⟩
 refine Tk 9 rfl rfl (pv_assign rfl) rfl ?_
 refine AnyH.done (by kernel_rfl) ?_
 refine Ends.seq ?_
 refine Wp.ret ?_
 exact Ends.ret (res_list (rs := [.cell 4 31, .tmp 5]) rfl ⟨_, _, rfl, rv_cellK [_, _] rfl rfl rfl ⟨rfl, rfl, trivial⟩, ⟨_, _, rfl, rv_tmp rfl, rfl⟩⟩ rfl) ⟨rfl, rfl⟩
theorem tr_mKin (n cb : Nat) (L : Hp) (p : PS) (hH : CapsH n p cb L) (hn : n ≤ 2 ^ 19) (so : SlotM) : Tr Tryz.prog 14 [cpP cb, slotV so] (L) (fun u L' => ∃ K, Slc 31 2 u (ftKin p.F so).length (slotsCells (ftKin p.F so)) K ∧ L' = K ++ L) := by
 obtain ⟨sb, tb, Ls, Lt, hS, hT, rfl⟩ := hH
 refine Tr.enter Tryz.func14 rfl Tryz.ntmps14 rfl (fun W F => ?_)
 refine Wp.app ?_
 refine Wr ?_
 refine Ops.ef rfl (ef_boxK rfl rfl) ?_
 rintro _ _ ⟨b1, rfl, rfl⟩
 refine Oa1 rfl rfl ?_
 refine On ?_
 refine Wp.seq ?_
 refine AnyH.start ((b1, .cells [.int .i64 so.1, .int .i64 so.2].toArray 31) :: cBlk cb sb tb :: []) 7 rfl ?_
 refine Tk 0 rfl rfl (pv_move rfl) rfl ?_
 refine Tk 1 rfl rfl (pv_nilCheck rfl) rfl ?_
 refine Tk 2 rfl rfl (pv_fieldAddr0 rfl rfl) rfl ?_
 refine Tk 3 rfl rfl (pv_load rfl rfl rfl) rfl ?_
 refine Tk 4 rfl rfl (pv_loadK [_, _] rfl rfl rfl ⟨rfl, rfl, trivial⟩) rfl ?_
 refine AnyH.one 5 (by kernel_rfl) ?_
 refine Turn.ef rfl rfl (ef_call (tr_fKin hT (by omega) so) rfl rfl) ?_ ?_
 ·
  rintro _ _ ⟨_, _, ⟨C1, hc1, rfl⟩, rfl, rfl⟩; infer_instance
 rintro _ _ ⟨_, _, ⟨C1, hc1, rfl⟩, rfl, rfl⟩
 refine AnyH.app ?_
 obtain ⟨pp1, qq1, rfl⟩ := hc1.form
 refine Tk 6 rfl rfl (pv_assign rfl) rfl ?_
 refine AnyH.done (by kernel_rfl) ?_
 refine Ends.seq ?_
 refine Wp.ret ?_
 exact Ends.ret (L' := C1 ++ (cBlk cb sb tb :: (Ls ++ Lt))) (res1 rfl rfl) ⟨C1, hc1, rfl⟩
theorem tr_mKids (n cb : Nat) (L : Hp) (p : PS) (hH : CapsH n p cb L) (hn : n ≤ 2 ^ 19) (so : SlotM) : Tr Tryz.prog 55 [cpP cb, slotV so] (L) (fun u L' => ∃ K, Slc 31 2 u (ftKids p.F so).length (slotsCells (ftKids p.F so)) K ∧ L' = K ++ L) := by
 obtain ⟨sb, tb, Ls, Lt, hS, hT, rfl⟩ := hH
 refine Tr.enter Tryz.func55 rfl Tryz.ntmps55 rfl (fun W F => ?_)
 refine Wp.app ?_
 refine Wr ?_
 refine Ops.ef rfl (ef_boxK rfl rfl) ?_
 rintro _ _ ⟨b1, rfl, rfl⟩
 refine Oa1 rfl rfl ?_
 refine On ?_
 refine Wp.seq ?_
 refine AnyH.start ((b1, .cells [.int .i64 so.1, .int .i64 so.2].toArray 31) :: cBlk cb sb tb :: []) 7 rfl ?_
 refine Tk 0 rfl rfl (pv_move rfl) rfl ?_
 refine Tk 1 rfl rfl (pv_nilCheck rfl) rfl ?_
 refine Tk 2 rfl rfl (pv_fieldAddr0 rfl rfl) rfl ?_
 refine Tk 3 rfl rfl (pv_load rfl rfl rfl) rfl ?_
 refine Tk 4 rfl rfl (pv_loadK [_, _] rfl rfl rfl ⟨rfl, rfl, trivial⟩) rfl ?_
 refine AnyH.one 5 (by kernel_rfl) ?_
 refine Turn.ef rfl rfl (ef_call (tr_fKids hT (by omega) so) rfl rfl) ?_ ?_
 ·
  rintro _ _ ⟨_, _, ⟨C1, hc1, rfl⟩, rfl, rfl⟩; infer_instance
 rintro _ _ ⟨_, _, ⟨C1, hc1, rfl⟩, rfl, rfl⟩
 refine AnyH.app ?_
 obtain ⟨pp1, qq1, rfl⟩ := hc1.form
 refine Tk 6 rfl rfl (pv_assign rfl) rfl ?_
 refine AnyH.done (by kernel_rfl) ?_
 refine Ends.seq ?_
 refine Wp.ret ?_
 exact Ends.ret (L' := C1 ++ (cBlk cb sb tb :: (Ls ++ Lt))) (res1 rfl rfl) ⟨C1, hc1, rfl⟩
theorem tr_mPlant (n cb : Nat) (L : Hp) (p : PS) (hH : CapsH n p cb L) (so : SlotM) (c : CapM) : Tr Tryz.prog 33 [cpP cb, slotV so, c.v] (L) (fun u L' => u = .int .i64 (mPlant p so c).1 ∧ CapsH (n + 1) (mPlant p so c).2 cb L') := by
 obtain ⟨sb, tb, Ls, Lt, hS, hT, rfl⟩ := hH
 refine Tr.enter Tryz.func33 rfl Tryz.ntmps33 rfl (fun W F => ?_)
 refine Wp.app ?_
 refine Wr ?_
 refine Ops.ef rfl (ef_boxK rfl rfl) ?_
 rintro _ _ ⟨b1, rfl, rfl⟩
 refine Ops.ef rfl (ef_boxK rfl rfl) ?_
 rintro _ _ ⟨b2, rfl, rfl⟩
 refine Oa1 rfl rfl ?_
 refine On ?_
 refine Wp.seq ?_
 refine AnyH.start ((b2, .cells c.cells.toArray 25) :: (b1, .cells [.int .i64 so.1, .int .i64 so.2].toArray 31) :: cBlk cb sb tb :: []) 9 rfl ?_
 refine Tk 0 rfl rfl (pv_move rfl) rfl ?_
 refine Tk 1 rfl rfl (pv_nilCheck rfl) rfl ?_
 refine Tk 2 rfl rfl (pv_fieldAddr0 rfl rfl) rfl ?_
 refine Tk 3 rfl rfl (pv_fieldAddr0 rfl rfl) rfl ?_
 refine Tk 4 rfl rfl (pv_load rfl rfl rfl) rfl ?_
 refine Tk 5 rfl rfl (pv_loadK [_, _] rfl rfl rfl ⟨rfl, rfl, trivial⟩) rfl ?_
 refine Tk 6 rfl rfl (pv_loadK [_, _, _, _, _, _] rfl rfl rfl ⟨rfl, rfl, rfl, rfl, rfl, rfl, trivial⟩) rfl ?_
 refine AnyH.one 7 (by kernel_rfl) ?_
 refine Turn.ef rfl rfl (ef_call (sf_put hS so c) rfl rfl) ?_ ?_
 ·
  rintro _ _ ⟨_, Q1, ⟨rfl, hS2⟩, rfl, rfl⟩; infer_instance
 rintro _ _ ⟨_, Q1, ⟨rfl, hS2⟩, rfl, rfl⟩
 refine AnyH.app ?_
 skip
 refine Tk 8 rfl rfl (pv_assign rfl) rfl ?_
 refine AnyH.done (by kernel_rfl) ?_
 refine Ends.seq ?_
 refine Wp.seq ?_
 refine Wr ?_
 refine Om1 rfl rfl ?_
 refine Ops.pv (pv_eql rfl rfl) rfl ?_
 refine On ?_
 refine Wp.cond_dect rfl (fun h1 => ?_) (fun h1 => ?_)
 ·
  refine AnyH.start ((b1, .cells [.int .i64 so.1, .int .i64 so.2].toArray 31) :: cBlk cb sb tb :: []) 6 rfl ?_
  refine Tk 0 rfl rfl (pv_move rfl) rfl ?_
  refine Tk 1 rfl rfl (pv_nilCheck rfl) rfl ?_
  refine Tk 2 rfl rfl (pv_fieldAddr0 rfl rfl) rfl ?_
  refine Tk 3 rfl rfl (pv_load rfl rfl rfl) rfl ?_
  refine Tk 4 rfl rfl (pv_loadK [_, _] rfl rfl rfl ⟨rfl, rfl, trivial⟩) rfl ?_
  refine AnyH.one 5 (by kernel_rfl) ?_
  refine Turn.ef rfl rfl (ef_call (tr_fRoot hT so) rfl rfl) ?_ ?_
  ·
   rintro _ _ ⟨_, R1, ⟨rfl, hT2⟩, rfl, rfl⟩; infer_instance
  rintro _ _ ⟨_, R1, ⟨rfl, hT2⟩, rfl, rfl⟩
  refine AnyH.app ?_
  skip
  refine AnyH.done (by kernel_rfl) ?_
  refine Ends.seq ?_
  refine Wr ?_
  refine Om1 rfl rfl ?_
  refine Oa1 rfl rfl ?_
  refine On ?_
  refine Wp.ret ?_
  have he : mPlant p so c = ((dput p.l so c).1, ⟨(dput p.l so c).2, (ftRoot p.F so).2⟩) := by unfold mPlant; rw [if_pos (by assumption)]
  rw [he]
  exact Ends.ret (L' := cBlk cb sb tb :: (Q1 ++ R1)) (res1 rfl rfl) ⟨rfl, sb, tb, Q1, R1, hS2, hT2, rfl⟩
 refine Wp.skip ?_
 refine Ends.seq ?_
 refine Wr ?_
 refine Om1 rfl rfl ?_
 refine Oa1 rfl rfl ?_
 refine On ?_
 refine Wp.ret ?_
 have he : mPlant p so c = ((dput p.l so c).1, ⟨(dput p.l so c).2, p.F⟩) := by unfold mPlant; rw [if_neg (by assumption)]
 rw [he]
 exact Ends.ret (L' := cBlk cb sb tb :: (Q1 ++ Lt)) (res1 rfl rfl) ⟨rfl, sb, tb, Q1, Lt, hS2, hT.more (by omega), rfl⟩
theorem tr_mChild (n cb : Nat) (L : Hp) (p : PS) (hH : CapsH n p cb L) (hn : n ≤ 2 ^ 19) (so de : SlotM) (c : CapM) : Tr Tryz.prog 35 [cpP cb, slotV so, slotV de, c.v] (L) (fun u L' => u = .int .i64 (mChild p so de c).1 ∧ CapsH (n + 1) (mChild p so de c).2 cb L') := by
 have hH0 := hH
 obtain ⟨sb, tb, Ls, Lt, hS, hT, rfl⟩ := hH
 refine Tr.enter Tryz.func35 rfl Tryz.ntmps35 rfl (fun W F => ?_)
 refine Wp.app ?_
 refine Wr ?_
 refine Ops.ef rfl (ef_boxK rfl rfl) ?_
 rintro _ _ ⟨b1, rfl, rfl⟩
 refine Ops.ef rfl (ef_boxK rfl rfl) ?_
 rintro _ _ ⟨b2, rfl, rfl⟩
 refine Ops.ef rfl (ef_boxK rfl rfl) ?_
 rintro _ _ ⟨b3, rfl, rfl⟩
 refine Oa1 rfl rfl ?_
 refine On ?_
 refine Wp.seq ?_
 refine Wr ?_
 refine Om1 rfl rfl ?_
 refine Ops.pv (pv_loadK [_, _] rfl rfl rfl ⟨rfl, rfl, trivial⟩) rfl ?_
 refine Ops.pv (pv_loadK [_, _] rfl rfl rfl ⟨rfl, rfl, trivial⟩) rfl ?_
 refine Ops.ef rfl (ef_callr (tr_mBoth n cb (cBlk cb sb tb :: (Ls ++ Lt)) p hH0 so de) rfl rfl) ?_
 rintro _ _ ⟨rfl, rfl⟩
 refine Om1 rfl rfl ?_
 refine Ops.pv (pv_extract rfl rfl) rfl ?_
 refine Ops.pv (pv_extract rfl rfl) rfl ?_
 refine Ops.ef rfl (ef_allocK tyZ25 rfl) ?_
 rintro _ _ ⟨b4, rfl, rfl⟩
 refine Ops.ef rfl (ef_storeK rfl rfl rfl rfl) ?_
 rintro _ _ ⟨rfl, rfl⟩
 refine Oa1 rfl rfl ?_
 refine On ?_
 refine Wr ?_
 refine Om1 rfl rfl ?_
 refine Ops.pv (pv_neq rfl rfl) rfl ?_
 refine On ?_
 refine Wp.cond_dect rfl (fun h1 => ?_) (fun h1 => ?_)
 ·
  refine Wr ?_
  refine Om1 rfl rfl ?_
  refine Oa1 rfl rfl ?_
  refine On ?_
  refine Wp.ret ?_
  refine Ends.then_ret ?_
  have he : mChild p so de c = ((mBoth p so de).2, p) := by unfold mChild; rw [if_pos (by assumption)]
  rw [he]
  exact Ends.ret (L' := (cBlk cb sb tb :: (Ls ++ Lt))) (res1 rfl rfl) ⟨rfl, sb, tb, Ls, Lt, hS, hT.more (by omega), rfl⟩
 refine Wp.skip ?_
 refine Ends.seq ?_
 refine Wp.seq ?_
 refine AnyH.start ((b3, .cells c.cells.toArray 25) :: (b2, .cells [.int .i64 de.1, .int .i64 de.2].toArray 31) :: cBlk cb sb tb :: []) 9 rfl ?_
 refine Tk 0 rfl rfl (pv_move rfl) rfl ?_
 refine Tk 1 rfl rfl (pv_nilCheck rfl) rfl ?_
 refine Tk 2 rfl rfl (pv_fieldAddr0 rfl rfl) rfl ?_
 refine Tk 3 rfl rfl (pv_fieldAddr0 rfl rfl) rfl ?_
 refine Tk 4 rfl rfl (pv_load rfl rfl rfl) rfl ?_
 refine Tk 5 rfl rfl (pv_loadK [_, _] rfl rfl rfl ⟨rfl, rfl, trivial⟩) rfl ?_
 refine Tk 6 rfl rfl (pv_loadK [_, _, _, _, _, _] rfl rfl rfl ⟨rfl, rfl, rfl, rfl, rfl, rfl, trivial⟩) rfl ?_
 refine AnyH.one 7 (by kernel_rfl) ?_
 refine Turn.ef rfl rfl (ef_call (sf_put hS de c) rfl rfl) ?_ ?_
 ·
  rintro _ _ ⟨_, Q1, ⟨rfl, hS2⟩, rfl, rfl⟩; infer_instance
 rintro _ _ ⟨_, Q1, ⟨rfl, hS2⟩, rfl, rfl⟩
 refine AnyH.app ?_
 skip
 refine Tk 8 rfl rfl (pv_assign rfl) rfl ?_
 refine AnyH.done (by kernel_rfl) ?_
 refine Ends.seq ?_
 refine Wp.seq ?_
 refine Wr ?_
 refine Om1 rfl rfl ?_
 refine Ops.pv (pv_eql rfl rfl) rfl ?_
 refine On ?_
 refine Wp.cond_dect rfl (fun h2 => ?_) (fun h2 => ?_)
 ·
  refine AnyH.start ((b2, .cells [.int .i64 de.1, .int .i64 de.2].toArray 31) :: (b1, .cells [.int .i64 so.1, .int .i64 so.2].toArray 31) :: cBlk cb sb tb :: []) 7 rfl ?_
  refine Tk 0 rfl rfl (pv_move rfl) rfl ?_
  refine Tk 1 rfl rfl (pv_nilCheck rfl) rfl ?_
  refine Tk 2 rfl rfl (pv_fieldAddr0 rfl rfl) rfl ?_
  refine Tk 3 rfl rfl (pv_load rfl rfl rfl) rfl ?_
  refine Tk 4 rfl rfl (pv_loadK [_, _] rfl rfl rfl ⟨rfl, rfl, trivial⟩) rfl ?_
  refine Tk 5 rfl rfl (pv_loadK [_, _] rfl rfl rfl ⟨rfl, rfl, trivial⟩) rfl ?_
  refine AnyH.one 6 (by kernel_rfl) ?_
  refine Turn.ef rfl rfl (ef_call (tr_fChild hT (by omega) so de) rfl rfl) ?_ ?_
  ·
   rintro _ _ ⟨_, R1, ⟨rfl, hT2⟩, rfl, rfl⟩; infer_instance
  rintro _ _ ⟨_, R1, ⟨rfl, hT2⟩, rfl, rfl⟩
  refine AnyH.app ?_
  skip
  refine AnyH.done (by kernel_rfl) ?_
  refine Ends.seq ?_
  refine Wr ?_
  refine Om1 rfl rfl ?_
  refine Oa1 rfl rfl ?_
  refine On ?_
  refine Wp.ret ?_
  have he : mChild p so de c = ((dput p.l de c).1, ⟨(dput p.l de c).2, (ftChild p.F so de).2⟩) := by unfold mChild; rw [if_neg (by assumption), if_pos (by assumption)]
  rw [he]
  exact Ends.ret (L' := cBlk cb sb tb :: (Q1 ++ R1)) (res1 rfl rfl) ⟨rfl, sb, tb, Q1, R1, hS2, hT2, rfl⟩
 refine Wp.skip ?_
 refine Ends.seq ?_
 refine Wr ?_
 refine Om1 rfl rfl ?_
 refine Oa1 rfl rfl ?_
 refine On ?_
 refine Wp.ret ?_
 have he : mChild p so de c = ((dput p.l de c).1, ⟨(dput p.l de c).2, p.F⟩) := by unfold mChild; rw [if_neg (by assumption), if_neg (by assumption)]
 rw [he]
 exact Ends.ret (L' := cBlk cb sb tb :: (Q1 ++ Lt)) (res1 rfl rfl) ⟨rfl, sb, tb, Q1, Lt, hS2, hT.more (by omega), rfl⟩
theorem CapsH.more {n m cb : Nat} {L : Hp} {p : PS} (h : CapsH n p cb L) (hm : n ≤ m) : CapsH m p cb L := by
 obtain ⟨sb, tb, Ls, Lt, hS, hT, rfl⟩ := h
 exact ⟨sb, tb, Ls, Lt, hS, hT.more hm, rfl⟩
theorem tr_mMint (n cb : Nat) (L : Hp) (p : PS) (hH : CapsH n p cb L) (hn : n ≤ 2 ^ 19) (so de : SlotM) (r bd g k : Int) : Tr Tryz.prog 39 [cpP cb, slotV so, slotV de, .int .i64 r, .int .u64 bd, .int .u64 g, .int .i64 k] (L) (fun u L' => u = .int .i64 (mMint p so de r bd g k).1 ∧ CapsH (n + 1) (mMint p so de r bd g k).2 cb L') := by
 refine Tr.enter Tryz.func39 rfl Tryz.ntmps39 rfl (fun W F => ?_)
 refine Wp.app ?_
 refine Wr ?_
 refine Ops.ef rfl (ef_boxK rfl rfl) ?_
 rintro _ _ ⟨b1, rfl, rfl⟩
 refine Ops.ef rfl (ef_boxK rfl rfl) ?_
 rintro _ _ ⟨b2, rfl, rfl⟩
 refine Oa1 rfl rfl ?_
 refine On ?_
 refine Wr ?_
 refine Om1 rfl rfl ?_
 refine Ops.pv (pv_loadK [_, _] rfl rfl rfl ⟨rfl, rfl, trivial⟩) rfl ?_
 refine Ops.pv (pv_loadK [_, _] rfl rfl rfl ⟨rfl, rfl, trivial⟩) rfl ?_
 refine Ops.ef rfl (ef_callr (tr_mBoth n cb L p hH so de) rfl rfl) ?_
 rintro _ _ ⟨rfl, rfl⟩
 refine Om1 rfl rfl ?_
 refine Ops.pv (pv_extract rfl rfl) rfl ?_
 refine Ops.pv (pv_extract rfl rfl) rfl ?_
 refine Ops.ef rfl (ef_allocK tyZ25 rfl) ?_
 rintro _ _ ⟨b3, rfl, rfl⟩
 refine Ops.ef rfl (ef_storeK rfl rfl rfl rfl) ?_
 rintro _ _ ⟨rfl, rfl⟩
 refine Oa1 rfl rfl ?_
 refine On ?_
 refine Wp.seq ?_
 refine Wr ?_
 refine Om1 rfl rfl ?_
 refine Ops.pv (pv_neq rfl rfl) rfl ?_
 refine On ?_
 refine Wp.cond_dect rfl (fun h1 => ?_) (fun h1 => ?_)
 ·
  refine Wr ?_
  refine Om1 rfl rfl ?_
  refine Oa1 rfl rfl ?_
  refine On ?_
  refine Wp.ret ?_
  refine Ends.then_ret ?_
  have he : mMint p so de r bd g k = ((mBoth p so de).2, p) := by unfold mMint; rw [if_pos (by assumption)]
  rw [he]
  exact Ends.ret (L' := L) (res1 rfl rfl) ⟨rfl, hH.more (by omega)⟩
 refine Wp.skip ?_
 refine Ends.seq ?_
 refine Wr ?_
 refine Ops.pv (pv_loadK [_, _, _, _, _, _] rfl rfl rfl ⟨rfl, rfl, rfl, rfl, rfl, rfl, trivial⟩) rfl ?_
 refine Om1 rfl rfl ?_
 refine Om1 rfl rfl ?_
 refine Om1 rfl rfl ?_
 refine Om1 rfl rfl ?_
 refine Ops.ef rfl (ef_callr (tr_derive (mBoth p so de).1 r bd g k) rfl rfl) ?_
 rintro _ _ ⟨rfl, rfl⟩
 refine Om1 rfl rfl ?_
 refine Ops.pv (pv_extract rfl rfl) rfl ?_
 refine Ops.pv (pv_extract rfl rfl) rfl ?_
 refine Ops.ef rfl (ef_allocK tyZ25 rfl) ?_
 rintro _ _ ⟨b4, rfl, rfl⟩
 refine Ops.ef rfl (ef_storeK rfl rfl rfl rfl) ?_
 rintro _ _ ⟨rfl, rfl⟩
 refine Oa1 rfl rfl ?_
 refine On ?_
 refine Wp.seq ?_
 refine Wr ?_
 refine Om1 rfl rfl ?_
 refine Ops.pv (pv_neq rfl rfl) rfl ?_
 refine On ?_
 refine Wp.cond_dect rfl (fun h2 => ?_) (fun h2 => ?_)
 ·
  refine Wr ?_
  refine Om1 rfl rfl ?_
  refine Oa1 rfl rfl ?_
  refine On ?_
  refine Wp.ret ?_
  refine Ends.then_ret ?_
  have he : mMint p so de r bd g k = ((derive (mBoth p so de).1 r bd g k).2, p) := by unfold mMint; rw [if_neg (by assumption), if_pos (by assumption)]
  rw [he]
  exact Ends.ret (L' := L) (res1 rfl rfl) ⟨rfl, hH.more (by omega)⟩
 refine Wp.skip ?_
 refine Ends.seq ?_
 refine Wr ?_
 refine Om1 rfl rfl ?_
 refine Ops.pv (pv_loadK [_, _] rfl rfl rfl ⟨rfl, rfl, trivial⟩) rfl ?_
 refine Ops.pv (pv_loadK [_, _] rfl rfl rfl ⟨rfl, rfl, trivial⟩) rfl ?_
 refine Ops.pv (pv_loadK [_, _, _, _, _, _] rfl rfl rfl ⟨rfl, rfl, rfl, rfl, rfl, rfl, trivial⟩) rfl ?_
 refine Ops.ef rfl (ef_call (tr_mChild n cb L p hH hn so de (derive (mBoth p so de).1 r bd g k).1) rfl rfl) ?_
 rintro _ _ ⟨_, Q1, ⟨rfl, hH2⟩, rfl, rfl⟩
 refine Ops.app ?_
 skip
 refine Oa1 rfl rfl ?_
 refine On ?_
 refine Wp.ret ?_
 have he : mMint p so de r bd g k = mChild p so de (derive (mBoth p so de).1 r bd g k).1 := by unfold mMint; rw [if_neg (by assumption), if_neg (by assumption)]
 rw [he]
 exact Ends.ret (L' := Q1) (res1 rfl rfl) ⟨rfl, hH2⟩
theorem tr_mCopy (n cb : Nat) (L : Hp) (p : PS) (hH : CapsH n p cb L) (hn : n ≤ 2 ^ 19) (so de : SlotM) (r : Int) : Tr Tryz.prog 37 [cpP cb, slotV so, slotV de, .int .i64 r] (L) (fun u L' => u = .int .i64 (mCopy p so de r).1 ∧ CapsH (n + 1) (mCopy p so de r).2 cb L') := by
 have hH0 := hH
 obtain ⟨sb, tb, Ls, Lt, hS, hT, rfl⟩ := hH
 refine Tr.enter Tryz.func37 rfl Tryz.ntmps37 rfl (fun W F => ?_)
 refine Wp.app ?_
 refine Wr ?_
 refine Ops.ef rfl (ef_boxK rfl rfl) ?_
 rintro _ _ ⟨b1, rfl, rfl⟩
 refine Ops.ef rfl (ef_boxK rfl rfl) ?_
 rintro _ _ ⟨b2, rfl, rfl⟩
 refine Oa1 rfl rfl ?_
 refine On ?_
 refine Wp.seq ?_
 refine AnyH.start ((b1, .cells [.int .i64 so.1, .int .i64 so.2].toArray 31) :: cBlk cb sb tb :: []) 13 rfl ?_
 refine Tk 0 rfl rfl (pv_move rfl) rfl ?_
 refine Tk 1 rfl rfl (pv_nilCheck rfl) rfl ?_
 refine Tk 2 rfl rfl (pv_fieldAddr0 rfl rfl) rfl ?_
 refine Tk 3 rfl rfl (pv_fieldAddr0 rfl rfl) rfl ?_
 refine Tk 4 rfl rfl (pv_load rfl rfl rfl) rfl ?_
 refine Tk 5 rfl rfl (pv_loadK [_, _] rfl rfl rfl ⟨rfl, rfl, trivial⟩) rfl ?_
 refine AnyH.two 6 10 (by kernel_rfl) ?_ ?_
 ·
  refine Turn.ef rfl rfl (ef_callr (sf_get hS so) rfl rfl) ?_ ?_
  ·
   rintro _ _ ⟨rfl, rfl⟩; infer_instance
  rintro _ _ ⟨rfl, rfl⟩
  refine Tk 7 rfl rfl (pv_move rfl) rfl ?_
  refine Tk 8 rfl rfl (pv_extract rfl rfl) rfl ?_
  refine Tk 9 rfl rfl (pv_extract rfl rfl) rfl ?_
  refine AnyH.one 10 (by kernel_rfl) ?_
  refine Turn.ef rfl rfl (ef_allocK tyZ25 rfl) ?_ ?_
  ·
   rintro _ _ ⟨b3, rfl, rfl⟩; infer_instance
  rintro _ _ ⟨b3, rfl, rfl⟩
  refine AnyH.one 11 (by kernel_rfl) ?_
  refine Turn.ef rfl rfl (ef_storeK rfl rfl rfl rfl) ?_ ?_
  ·
   rintro _ _ ⟨rfl, rfl⟩; infer_instance
  rintro _ _ ⟨rfl, rfl⟩
  refine Tk 12 rfl rfl (pv_assign rfl) rfl ?_
  refine AnyH.done (by kernel_rfl) ?_
  refine Ends.seq ?_
  refine Wr ?_
  refine Om1 rfl rfl ?_
  refine Ops.pv (pv_loadK [_, _] rfl rfl rfl ⟨rfl, rfl, trivial⟩) rfl ?_
  refine Ops.pv (pv_loadK [_, _] rfl rfl rfl ⟨rfl, rfl, trivial⟩) rfl ?_
  refine Om1 rfl rfl ?_
  refine Of1 rfl rfl rfl ?_
  refine Ol1 rfl rfl rfl rfl ?_
  refine Of1 rfl rfl rfl ?_
  refine Ol1 rfl rfl rfl rfl ?_
  refine Ops.ef rfl (ef_call (tr_mMint n cb (cBlk cb sb tb :: (Ls ++ Lt)) p hH0 hn so de r 0 (dget p.l so).1.guard (dget p.l so).1.bits) rfl rfl) ?_
  rintro _ _ ⟨_, Q1, ⟨rfl, hH2⟩, rfl, rfl⟩
  refine Ops.app ?_
  skip
  refine Oa1 rfl rfl ?_
  refine On ?_
  refine Wp.ret ?_
  exact Ends.ret (L' := Q1) (res1 rfl rfl) ⟨rfl, hH2⟩
 refine Turn.ef rfl rfl (ef_allocK tyZ25 rfl) ?_ ?_
 ·
  rintro _ _ ⟨b4, rfl, rfl⟩; infer_instance
 rintro _ _ ⟨b4, rfl, rfl⟩
 refine AnyH.one 6 (by kernel_rfl) ?_
 refine Turn.ef rfl rfl (ef_callr (sf_get hS so) rfl rfl) ?_ ?_
 ·
  rintro _ _ ⟨rfl, rfl⟩; infer_instance
 rintro _ _ ⟨rfl, rfl⟩
 refine Tk 7 rfl rfl (pv_move rfl) rfl ?_
 refine Tk 8 rfl rfl (pv_extract rfl rfl) rfl ?_
 refine Tk 9 rfl rfl (pv_extract rfl rfl) rfl ?_
 refine AnyH.one 11 (by kernel_rfl) ?_
 refine Turn.ef rfl rfl (ef_storeK rfl rfl rfl rfl) ?_ ?_
 ·
  rintro _ _ ⟨rfl, rfl⟩; infer_instance
 rintro _ _ ⟨rfl, rfl⟩
 refine Tk 12 rfl rfl (pv_assign rfl) rfl ?_
 refine AnyH.done (by kernel_rfl) ?_
 refine Ends.seq ?_
 refine Wr ?_
 refine Om1 rfl rfl ?_
 refine Ops.pv (pv_loadK [_, _] rfl rfl rfl ⟨rfl, rfl, trivial⟩) rfl ?_
 refine Ops.pv (pv_loadK [_, _] rfl rfl rfl ⟨rfl, rfl, trivial⟩) rfl ?_
 refine Om1 rfl rfl ?_
 refine Of1 rfl rfl rfl ?_
 refine Ol1 rfl rfl rfl rfl ?_
 refine Of1 rfl rfl rfl ?_
 refine Ol1 rfl rfl rfl rfl ?_
 refine Ops.ef rfl (ef_call (tr_mMint n cb (cBlk cb sb tb :: (Ls ++ Lt)) p hH0 hn so de r 0 (dget p.l so).1.guard (dget p.l so).1.bits) rfl rfl) ?_
 rintro _ _ ⟨_, Q2, ⟨rfl, hH2⟩, rfl, rfl⟩
 refine Ops.app ?_
 skip
 refine Oa1 rfl rfl ?_
 refine On ?_
 refine Wp.ret ?_
 exact Ends.ret (L' := Q2) (res1 rfl rfl) ⟨rfl, hH2⟩
theorem tr_mCarry (n cb : Nat) (L : Hp) (p : PS) (hH : CapsH n p cb L) (so de : SlotM) (c : CapM) : Tr Tryz.prog 88 [cpP cb, slotV so, slotV de, c.v] (L) (fun u L' => u = .tuple #[] ∧ CapsH n (mCarry p so de c) cb L') := by
 obtain ⟨sb, tb, Ls, Lt, hS, hT, rfl⟩ := hH
 refine Tr.enter Tryz.func88 rfl Tryz.ntmps88 rfl (fun W F => ?_)
 refine Wp.app ?_
 refine Wr ?_
 refine Ops.ef rfl (ef_boxK rfl rfl) ?_
 rintro _ _ ⟨b1, rfl, rfl⟩
 refine Ops.ef rfl (ef_boxK rfl rfl) ?_
 rintro _ _ ⟨b2, rfl, rfl⟩
 refine Ops.ef rfl (ef_boxK rfl rfl) ?_
 rintro _ _ ⟨b3, rfl, rfl⟩
 refine On ?_
 refine Wp.seq ?_
 refine AnyH.start ((b1, .cells [.int .i64 so.1, .int .i64 so.2].toArray 31) :: cBlk cb sb tb :: []) 7 rfl ?_
 refine Tk 0 rfl rfl (pv_move rfl) rfl ?_
 refine Tk 1 rfl rfl (pv_nilCheck rfl) rfl ?_
 refine Tk 2 rfl rfl (pv_fieldAddr0 rfl rfl) rfl ?_
 refine Tk 3 rfl rfl (pv_fieldAddr0 rfl rfl) rfl ?_
 refine Tk 4 rfl rfl (pv_load rfl rfl rfl) rfl ?_
 refine Tk 5 rfl rfl (pv_loadK [_, _] rfl rfl rfl ⟨rfl, rfl, trivial⟩) rfl ?_
 refine AnyH.one 6 (by kernel_rfl) ?_
 refine Turn.ef rfl rfl (ef_call (sf_take hS so) rfl rfl) ?_ ?_
 ·
  rintro _ _ ⟨_, Q1, ⟨rfl, hS2⟩, rfl, rfl⟩; infer_instance
 rintro _ _ ⟨_, Q1, ⟨rfl, hS2⟩, rfl, rfl⟩
 refine AnyH.app ?_
 skip
 refine AnyH.done (by kernel_rfl) ?_
 refine Ends.seq ?_
 refine Wp.seq ?_
 refine AnyH.start ((b3, .cells c.cells.toArray 25) :: (b2, .cells [.int .i64 de.1, .int .i64 de.2].toArray 31) :: cBlk cb sb tb :: []) 8 rfl ?_
 refine Tk 0 rfl rfl (pv_move rfl) rfl ?_
 refine Tk 1 rfl rfl (pv_nilCheck rfl) rfl ?_
 refine Tk 2 rfl rfl (pv_fieldAddr0 rfl rfl) rfl ?_
 refine Tk 3 rfl rfl (pv_fieldAddr0 rfl rfl) rfl ?_
 refine Tk 4 rfl rfl (pv_load rfl rfl rfl) rfl ?_
 refine Tk 5 rfl rfl (pv_loadK [_, _] rfl rfl rfl ⟨rfl, rfl, trivial⟩) rfl ?_
 refine Tk 6 rfl rfl (pv_loadK [_, _, _, _, _, _] rfl rfl rfl ⟨rfl, rfl, rfl, rfl, rfl, rfl, trivial⟩) rfl ?_
 refine AnyH.one 7 (by kernel_rfl) ?_
 refine Turn.ef rfl rfl (ef_call (sf_put hS2 de c) rfl rfl) ?_ ?_
 ·
  rintro _ _ ⟨_, Q2, ⟨rfl, hS3⟩, rfl, rfl⟩; infer_instance
 rintro _ _ ⟨_, Q2, ⟨rfl, hS3⟩, rfl, rfl⟩
 refine AnyH.app ?_
 skip
 refine AnyH.done (by kernel_rfl) ?_
 refine Ends.seq ?_
 refine AnyH.start ((b2, .cells [.int .i64 de.1, .int .i64 de.2].toArray 31) :: (b1, .cells [.int .i64 so.1, .int .i64 so.2].toArray 31) :: cBlk cb sb tb :: []) 7 rfl ?_
 refine Tk 0 rfl rfl (pv_move rfl) rfl ?_
 refine Tk 1 rfl rfl (pv_nilCheck rfl) rfl ?_
 refine Tk 2 rfl rfl (pv_fieldAddr0 rfl rfl) rfl ?_
 refine Tk 3 rfl rfl (pv_load rfl rfl rfl) rfl ?_
 refine Tk 4 rfl rfl (pv_loadK [_, _] rfl rfl rfl ⟨rfl, rfl, trivial⟩) rfl ?_
 refine Tk 5 rfl rfl (pv_loadK [_, _] rfl rfl rfl ⟨rfl, rfl, trivial⟩) rfl ?_
 refine AnyH.one 6 (by kernel_rfl) ?_
 refine Turn.ef rfl rfl (ef_call (tr_fMove hT so de) rfl rfl) ?_ ?_
 ·
  rintro _ _ ⟨_, R1, ⟨rfl, hT2⟩, rfl, rfl⟩; infer_instance
 rintro _ _ ⟨_, R1, ⟨rfl, hT2⟩, rfl, rfl⟩
 refine AnyH.app ?_
 skip
 refine AnyH.done (by kernel_rfl) ?_
 exact Ends.fin (L' := cBlk cb sb tb :: (Q2 ++ R1)) (res0 rfl) ⟨rfl, sb, tb, Q2, R1, hS3, hT2, rfl⟩
theorem tr_mMove (n cb : Nat) (L : Hp) (p : PS) (hH : CapsH n p cb L) (so de : SlotM) : Tr Tryz.prog 41 [cpP cb, slotV so, slotV de] (L) (fun u L' => u = .int .i64 (mMove p so de).1 ∧ CapsH (n + 0) (mMove p so de).2 cb L') := by
 refine Tr.enter Tryz.func41 rfl Tryz.ntmps41 rfl (fun W F => ?_)
 refine Wp.app ?_
 refine Wr ?_
 refine Ops.ef rfl (ef_boxK rfl rfl) ?_
 rintro _ _ ⟨b1, rfl, rfl⟩
 refine Ops.ef rfl (ef_boxK rfl rfl) ?_
 rintro _ _ ⟨b2, rfl, rfl⟩
 refine Oa1 rfl rfl ?_
 refine On ?_
 refine Wr ?_
 refine Om1 rfl rfl ?_
 refine Ops.pv (pv_loadK [_, _] rfl rfl rfl ⟨rfl, rfl, trivial⟩) rfl ?_
 refine Ops.pv (pv_loadK [_, _] rfl rfl rfl ⟨rfl, rfl, trivial⟩) rfl ?_
 refine Ops.ef rfl (ef_callr (tr_mBoth n cb L p hH so de) rfl rfl) ?_
 rintro _ _ ⟨rfl, rfl⟩
 refine Om1 rfl rfl ?_
 refine Ops.pv (pv_extract rfl rfl) rfl ?_
 refine Ops.pv (pv_extract rfl rfl) rfl ?_
 refine Ops.ef rfl (ef_allocK tyZ25 rfl) ?_
 rintro _ _ ⟨b3, rfl, rfl⟩
 refine Ops.ef rfl (ef_storeK rfl rfl rfl rfl) ?_
 rintro _ _ ⟨rfl, rfl⟩
 refine Oa1 rfl rfl ?_
 refine On ?_
 refine Wp.seq ?_
 refine Wr ?_
 refine Om1 rfl rfl ?_
 refine Ops.pv (pv_eql rfl rfl) rfl ?_
 refine On ?_
 refine Wp.cond_dect rfl (fun h1 => ?_) (fun h1 => ?_)
 ·
  refine Wp.region ?_
  refine Om1 rfl rfl ?_
  refine Ops.pv (pv_loadK [_, _] rfl rfl rfl ⟨rfl, rfl, trivial⟩) rfl ?_
  refine Ops.pv (pv_loadK [_, _] rfl rfl rfl ⟨rfl, rfl, trivial⟩) rfl ?_
  refine Ops.pv (pv_loadK [_, _, _, _, _, _] rfl rfl rfl ⟨rfl, rfl, rfl, rfl, rfl, rfl, trivial⟩) rfl ?_
  refine Ops.ef rfl (ef_call (tr_mCarry n cb L p hH so de (mBoth p so de).1) rfl rfl) ?_
  rintro _ _ ⟨_, Q1, ⟨rfl, hH2⟩, rfl, rfl⟩
  refine Ops.app ?_
  skip
  refine On ?_
  refine Wr ?_
  refine Om1 rfl rfl ?_
  refine Oa1 rfl rfl ?_
  refine On ?_
  refine Wp.ret ?_
  have he : mMove p so de = ((mBoth p so de).2, mCarry p so de (mBoth p so de).1) := by unfold mMove; rw [if_pos (by assumption)]
  rw [he]
  exact Ends.ret (L' := Q1) (res1 rfl rfl) ⟨rfl, hH2⟩
 refine Wp.skip ?_
 refine Ends.seq ?_
 refine Wr ?_
 refine Om1 rfl rfl ?_
 refine Oa1 rfl rfl ?_
 refine On ?_
 refine Wp.ret ?_
 have he : mMove p so de = ((mBoth p so de).2, p) := by unfold mMove; rw [if_neg (by assumption)]
 rw [he]
 exact Ends.ret (L' := L) (res1 rfl rfl) ⟨rfl, hH⟩
theorem tr_mMutate (n cb : Nat) (L : Hp) (p : PS) (hH : CapsH n p cb L) (so de : SlotM) (g k : Int) : Tr Tryz.prog 43 [cpP cb, slotV so, slotV de, .int .u64 g, .int .i64 k] (L) (fun u L' => u = .int .i64 (mMutate p so de g k).1 ∧ CapsH (n + 0) (mMutate p so de g k).2 cb L') := by
 refine Tr.enter Tryz.func43 rfl Tryz.ntmps43 rfl (fun W F => ?_)
 refine Wp.app ?_
 refine Wr ?_
 refine Ops.ef rfl (ef_boxK rfl rfl) ?_
 rintro _ _ ⟨b1, rfl, rfl⟩
 refine Ops.ef rfl (ef_boxK rfl rfl) ?_
 rintro _ _ ⟨b2, rfl, rfl⟩
 refine Oa1 rfl rfl ?_
 refine On ?_
 refine Wr ?_
 refine Om1 rfl rfl ?_
 refine Ops.pv (pv_loadK [_, _] rfl rfl rfl ⟨rfl, rfl, trivial⟩) rfl ?_
 refine Ops.pv (pv_loadK [_, _] rfl rfl rfl ⟨rfl, rfl, trivial⟩) rfl ?_
 refine Ops.ef rfl (ef_callr (tr_mBoth n cb L p hH so de) rfl rfl) ?_
 rintro _ _ ⟨rfl, rfl⟩
 refine Om1 rfl rfl ?_
 refine Ops.pv (pv_extract rfl rfl) rfl ?_
 refine Ops.pv (pv_extract rfl rfl) rfl ?_
 refine Ops.ef rfl (ef_allocK tyZ25 rfl) ?_
 rintro _ _ ⟨b3, rfl, rfl⟩
 refine Ops.ef rfl (ef_storeK rfl rfl rfl rfl) ?_
 rintro _ _ ⟨rfl, rfl⟩
 refine Oa1 rfl rfl ?_
 refine On ?_
 refine Wp.seq ?_
 refine Wp.block ?_
 refine Wr ?_
 refine Om1 rfl rfl ?_
 refine Ops.pv (pv_neq rfl rfl) rfl ?_
 refine Oa1 rfl rfl ?_
 refine On ?_
 refine Wp.cond_dect rfl (fun h1 => ?_) (fun h1 => ?_)
 ·
  refine Wr ?_
  refine Om1 rfl rfl ?_
  refine Oa1 rfl rfl ?_
  refine On ?_
  refine Wp.ret ?_
  refine Ends.block_ret ?_
  refine Ends.then_ret ?_
  have he : mMutate p so de g k = ((mBoth p so de).2, p) := by unfold mMutate; rw [if_pos (by assumption)]
  rw [he]
  exact Ends.ret (L' := L) (res1 rfl rfl) ⟨rfl, hH⟩
 refine Wr ?_
 refine Of1 rfl rfl rfl ?_
 refine Ol1 rfl rfl rfl rfl ?_
 refine Ops.pv (pv_neq rfl rfl) rfl ?_
 refine Oa1 rfl rfl ?_
 refine On ?_
 refine Wp.cond_dect rfl (fun h2 => ?_) (fun h2 => ?_)
 ·
  refine Wr ?_
  refine Oa1 rfl rfl ?_
  refine On ?_
  refine Wp.ret ?_
  refine Ends.block_ret ?_
  refine Ends.then_ret ?_
  have he : mMutate p so de g k = (2, p) := by unfold mMutate; rw [if_neg (by assumption), if_pos (by assumption)]
  rw [he]
  exact Ends.ret (L' := L) (res1 rfl rfl) ⟨rfl, hH⟩
 refine Wp.skip ?_
 refine Ends.block_normal ?_
 refine Ends.seq ?_
 refine Wr ?_
 refine Ops.pv (pv_loadK [_, _, _, _, _, _] rfl rfl rfl ⟨rfl, rfl, rfl, rfl, rfl, rfl, trivial⟩) rfl ?_
 refine Om1 rfl rfl ?_
 refine Om1 rfl rfl ?_
 refine Ops.ef rfl (ef_callr (tr_derive (mBoth p so de).1 0 0 g k) rfl rfl) ?_
 rintro _ _ ⟨rfl, rfl⟩
 refine Om1 rfl rfl ?_
 refine Ops.pv (pv_extract rfl rfl) rfl ?_
 refine Ops.pv (pv_extract rfl rfl) rfl ?_
 refine Ops.ef rfl (ef_storeK rfl rfl rfl rfl) ?_
 rintro _ _ ⟨rfl, rfl⟩
 refine Oa1 rfl rfl ?_
 refine On ?_
 refine Wp.seq ?_
 refine Wr ?_
 refine Om1 rfl rfl ?_
 refine Ops.pv (pv_eql rfl rfl) rfl ?_
 refine On ?_
 refine Wp.cond_dect rfl (fun h3 => ?_) (fun h3 => ?_)
 ·
  refine Wp.region ?_
  refine Om1 rfl rfl ?_
  refine Ops.pv (pv_loadK [_, _] rfl rfl rfl ⟨rfl, rfl, trivial⟩) rfl ?_
  refine Ops.pv (pv_loadK [_, _] rfl rfl rfl ⟨rfl, rfl, trivial⟩) rfl ?_
  refine Ops.pv (pv_loadK [_, _, _, _, _, _] rfl rfl rfl ⟨rfl, rfl, rfl, rfl, rfl, rfl, trivial⟩) rfl ?_
  refine Ops.ef rfl (ef_call (tr_mCarry n cb L p hH so de (derive (mBoth p so de).1 0 0 g k).1) rfl rfl) ?_
  rintro _ _ ⟨_, Q1, ⟨rfl, hH2⟩, rfl, rfl⟩
  refine Ops.app ?_
  skip
  refine On ?_
  refine Wr ?_
  refine Om1 rfl rfl ?_
  refine Oa1 rfl rfl ?_
  refine On ?_
  refine Wp.ret ?_
  have he : mMutate p so de g k = ((derive (mBoth p so de).1 0 0 g k).2, mCarry p so de (derive (mBoth p so de).1 0 0 g k).1) := by unfold mMutate; rw [if_neg (by assumption), if_neg (by assumption), if_pos (by assumption)]
  rw [he]
  exact Ends.ret (L' := Q1) (res1 rfl rfl) ⟨rfl, hH2⟩
 refine Wp.skip ?_
 refine Ends.seq ?_
 refine Wr ?_
 refine Om1 rfl rfl ?_
 refine Oa1 rfl rfl ?_
 refine On ?_
 refine Wp.ret ?_
 have he : mMutate p so de g k = ((derive (mBoth p so de).1 0 0 g k).2, p) := by unfold mMutate; rw [if_neg (by assumption), if_neg (by assumption), if_neg (by assumption)]
 rw [he]
 exact Ends.ret (L' := L) (res1 rfl rfl) ⟨rfl, hH⟩
theorem tr_mTake (n cb : Nat) (L : Hp) (p : PS) (hH : CapsH n p cb L) (hn : n ≤ 2 ^ 19) (so : SlotM) : Tr Tryz.prog 47 [cpP cb, slotV so] (L) (fun u L' => u = .tuple #[(mTake p so).1.v, .int .i64 (mTake p so).2.1] ∧ CapsH n (mTake p so).2.2 cb L') := by
 obtain ⟨sb, tb, Ls, Lt, hS, hT, rfl⟩ := hH
 refine Tr.enter Tryz.func47 rfl Tryz.ntmps47 rfl (fun W F => ?_)
 refine Wp.app ?_
 refine Wr ?_
 refine Ops.ef rfl (ef_boxK rfl rfl) ?_
 rintro _ _ ⟨b1, rfl, rfl⟩
 refine Ops.ef rfl (ef_allocK tyZ25 rfl) ?_
 rintro _ _ ⟨b2, rfl, rfl⟩
 refine Oa1 rfl rfl ?_
 refine On ?_
 refine Wp.seq ?_
 refine AnyH.start ((b1, .cells [.int .i64 so.1, .int .i64 so.2].toArray 31) :: cBlk cb sb tb :: []) 13 rfl ?_
 refine Tk 0 rfl rfl (pv_move rfl) rfl ?_
 refine Tk 1 rfl rfl (pv_nilCheck rfl) rfl ?_
 refine Tk 2 rfl rfl (pv_fieldAddr0 rfl rfl) rfl ?_
 refine Tk 3 rfl rfl (pv_fieldAddr0 rfl rfl) rfl ?_
 refine Tk 4 rfl rfl (pv_load rfl rfl rfl) rfl ?_
 refine Tk 5 rfl rfl (pv_loadK [_, _] rfl rfl rfl ⟨rfl, rfl, trivial⟩) rfl ?_
 refine AnyH.two 6 10 (by kernel_rfl) ?_ ?_
 ·
  refine Turn.ef rfl rfl (ef_call (sf_take hS so) rfl rfl) ?_ ?_
  ·
   rintro _ _ ⟨_, Q1, ⟨rfl, hS2⟩, rfl, rfl⟩; infer_instance
  rintro _ _ ⟨_, Q1, ⟨rfl, hS2⟩, rfl, rfl⟩
  refine AnyH.app ?_
  skip
  refine Tk 7 rfl rfl (pv_move rfl) rfl ?_
  refine Tk 8 rfl rfl (pv_extract rfl rfl) rfl ?_
  refine Tk 9 rfl rfl (pv_extract rfl rfl) rfl ?_
  refine AnyH.one 10 (by kernel_rfl) ?_
  refine Turn.ef rfl rfl (ef_allocK tyZ25 rfl) ?_ ?_
  ·
   rintro _ _ ⟨b3, rfl, rfl⟩; infer_instance
  rintro _ _ ⟨b3, rfl, rfl⟩
  refine AnyH.one 11 (by kernel_rfl) ?_
  refine Turn.ef rfl rfl (ef_storeK rfl rfl rfl rfl) ?_ ?_
  ·
   rintro _ _ ⟨rfl, rfl⟩; infer_instance
  rintro _ _ ⟨rfl, rfl⟩
  refine Tk 12 rfl rfl (pv_assign rfl) rfl ?_
  refine AnyH.done (by kernel_rfl) ?_
  refine Ends.seq ?_
  refine Wp.seq ?_
  refine Wr ?_
  refine Om1 rfl rfl ?_
  refine Ops.pv (pv_eql rfl rfl) rfl ?_
  refine On ?_
  refine Wp.cond_dect rfl (fun h1 => ?_) (fun h1 => ?_)
  ·
   refine AnyH.start ((b1, .cells [.int .i64 so.1, .int .i64 so.2].toArray 31) :: cBlk cb sb tb :: []) 6 rfl ?_
   refine Tk 0 rfl rfl (pv_move rfl) rfl ?_
   refine Tk 1 rfl rfl (pv_nilCheck rfl) rfl ?_
   refine Tk 2 rfl rfl (pv_fieldAddr0 rfl rfl) rfl ?_
   refine Tk 3 rfl rfl (pv_load rfl rfl rfl) rfl ?_
   refine Tk 4 rfl rfl (pv_loadK [_, _] rfl rfl rfl ⟨rfl, rfl, trivial⟩) rfl ?_
   refine AnyH.one 5 (by kernel_rfl) ?_
   refine Turn.ef rfl rfl (ef_call (tr_fDrop hT (by omega) so) rfl rfl) ?_ ?_
   ·
    rintro _ _ ⟨_, R1, ⟨rfl, hT2⟩, rfl, rfl⟩; infer_instance
   rintro _ _ ⟨_, R1, ⟨rfl, hT2⟩, rfl, rfl⟩
   refine AnyH.app ?_
   skip
   refine AnyH.done (by kernel_rfl) ?_
   refine Ends.seq ?_
   refine Wr ?_
   refine Ops.pv (pv_loadK [_, _, _, _, _, _] rfl rfl rfl ⟨rfl, rfl, rfl, rfl, rfl, rfl, trivial⟩) rfl ?_
   refine Om1 rfl rfl ?_
   refine Ops.ef rfl (ef_storeK rfl rfl rfl rfl) ?_
   rintro _ _ ⟨rfl, rfl⟩
   refine Oa1 rfl rfl ?_
   refine On ?_
   refine Wp.ret ?_
   have he : mTake p so = ((dtake p.l so).1, (dtake p.l so).2.1, ⟨(dtake p.l so).2.2, (ftDrop p.F so).2⟩) := by unfold mTake; rw [if_pos (by assumption)]
   rw [he]
   exact Ends.ret (L' := cBlk cb sb tb :: (Q1 ++ R1)) (res_list (rs := [.cell 4 25, .tmp 5]) rfl ⟨_, _, rfl, rv_cellK [_, _, _, _, _, _] rfl rfl rfl ⟨rfl, rfl, rfl, rfl, rfl, rfl, trivial⟩, ⟨_, _, rfl, rv_tmp rfl, rfl⟩⟩ rfl) ⟨rfl, sb, tb, Q1, R1, hS2, hT2, rfl⟩
  refine Wp.skip ?_
  refine Ends.seq ?_
  refine Wr ?_
  refine Ops.pv (pv_loadK [_, _, _, _, _, _] rfl rfl rfl ⟨rfl, rfl, rfl, rfl, rfl, rfl, trivial⟩) rfl ?_
  refine Om1 rfl rfl ?_
  refine Ops.ef rfl (ef_storeK rfl rfl rfl rfl) ?_
  rintro _ _ ⟨rfl, rfl⟩
  refine Oa1 rfl rfl ?_
  refine On ?_
  refine Wp.ret ?_
  have he : mTake p so = ((dtake p.l so).1, (dtake p.l so).2.1, ⟨(dtake p.l so).2.2, p.F⟩) := by unfold mTake; rw [if_neg (by assumption)]
  rw [he]
  exact Ends.ret (L' := cBlk cb sb tb :: (Q1 ++ Lt)) (res_list (rs := [.cell 4 25, .tmp 5]) rfl ⟨_, _, rfl, rv_cellK [_, _, _, _, _, _] rfl rfl rfl ⟨rfl, rfl, rfl, rfl, rfl, rfl, trivial⟩, ⟨_, _, rfl, rv_tmp rfl, rfl⟩⟩ rfl) ⟨rfl, sb, tb, Q1, Lt, hS2, hT, rfl⟩
 refine Turn.ef rfl rfl (ef_allocK tyZ25 rfl) ?_ ?_
 ·
  rintro _ _ ⟨b4, rfl, rfl⟩; infer_instance
 rintro _ _ ⟨b4, rfl, rfl⟩
 refine AnyH.one 6 (by kernel_rfl) ?_
 refine Turn.ef rfl rfl (ef_call (sf_take hS so) rfl rfl) ?_ ?_
 ·
  rintro _ _ ⟨_, Q2, ⟨rfl, hS2⟩, rfl, rfl⟩; infer_instance
 rintro _ _ ⟨_, Q2, ⟨rfl, hS2⟩, rfl, rfl⟩
 refine AnyH.app ?_
 skip
 refine Tk 7 rfl rfl (pv_move rfl) rfl ?_
 refine Tk 8 rfl rfl (pv_extract rfl rfl) rfl ?_
 refine Tk 9 rfl rfl (pv_extract rfl rfl) rfl ?_
 refine AnyH.one 11 (by kernel_rfl) ?_
 refine Turn.ef rfl rfl (ef_storeK rfl rfl rfl rfl) ?_ ?_
 ·
  rintro _ _ ⟨rfl, rfl⟩; infer_instance
 rintro _ _ ⟨rfl, rfl⟩
 refine Tk 12 rfl rfl (pv_assign rfl) rfl ?_
 refine AnyH.done (by kernel_rfl) ?_
 refine Ends.seq ?_
 refine Wp.seq ?_
 refine Wr ?_
 refine Om1 rfl rfl ?_
 refine Ops.pv (pv_eql rfl rfl) rfl ?_
 refine On ?_
 refine Wp.cond_dect rfl (fun h2 => ?_) (fun h2 => ?_)
 ·
  refine AnyH.start ((b1, .cells [.int .i64 so.1, .int .i64 so.2].toArray 31) :: cBlk cb sb tb :: []) 6 rfl ?_
  refine Tk 0 rfl rfl (pv_move rfl) rfl ?_
  refine Tk 1 rfl rfl (pv_nilCheck rfl) rfl ?_
  refine Tk 2 rfl rfl (pv_fieldAddr0 rfl rfl) rfl ?_
  refine Tk 3 rfl rfl (pv_load rfl rfl rfl) rfl ?_
  refine Tk 4 rfl rfl (pv_loadK [_, _] rfl rfl rfl ⟨rfl, rfl, trivial⟩) rfl ?_
  refine AnyH.one 5 (by kernel_rfl) ?_
  refine Turn.ef rfl rfl (ef_call (tr_fDrop hT (by omega) so) rfl rfl) ?_ ?_
  ·
   rintro _ _ ⟨_, R2, ⟨rfl, hT2⟩, rfl, rfl⟩; infer_instance
  rintro _ _ ⟨_, R2, ⟨rfl, hT2⟩, rfl, rfl⟩
  refine AnyH.app ?_
  skip
  refine AnyH.done (by kernel_rfl) ?_
  refine Ends.seq ?_
  refine Wr ?_
  refine Ops.pv (pv_loadK [_, _, _, _, _, _] rfl rfl rfl ⟨rfl, rfl, rfl, rfl, rfl, rfl, trivial⟩) rfl ?_
  refine Om1 rfl rfl ?_
  refine Ops.ef rfl (ef_storeK rfl rfl rfl rfl) ?_
  rintro _ _ ⟨rfl, rfl⟩
  refine Oa1 rfl rfl ?_
  refine On ?_
  refine Wp.ret ?_
  have he : mTake p so = ((dtake p.l so).1, (dtake p.l so).2.1, ⟨(dtake p.l so).2.2, (ftDrop p.F so).2⟩) := by unfold mTake; rw [if_pos (by assumption)]
  rw [he]
  exact Ends.ret (L' := cBlk cb sb tb :: (Q2 ++ R2)) (res_list (rs := [.cell 4 25, .tmp 5]) rfl ⟨_, _, rfl, rv_cellK [_, _, _, _, _, _] rfl rfl rfl ⟨rfl, rfl, rfl, rfl, rfl, rfl, trivial⟩, ⟨_, _, rfl, rv_tmp rfl, rfl⟩⟩ rfl) ⟨rfl, sb, tb, Q2, R2, hS2, hT2, rfl⟩
 refine Wp.skip ?_
 refine Ends.seq ?_
 refine Wr ?_
 refine Ops.pv (pv_loadK [_, _, _, _, _, _] rfl rfl rfl ⟨rfl, rfl, rfl, rfl, rfl, rfl, trivial⟩) rfl ?_
 refine Om1 rfl rfl ?_
 refine Ops.ef rfl (ef_storeK rfl rfl rfl rfl) ?_
 rintro _ _ ⟨rfl, rfl⟩
 refine Oa1 rfl rfl ?_
 refine On ?_
 refine Wp.ret ?_
 have he : mTake p so = ((dtake p.l so).1, (dtake p.l so).2.1, ⟨(dtake p.l so).2.2, p.F⟩) := by unfold mTake; rw [if_neg (by assumption)]
 rw [he]
 exact Ends.ret (L' := cBlk cb sb tb :: (Q2 ++ Lt)) (res_list (rs := [.cell 4 25, .tmp 5]) rfl ⟨_, _, rfl, rv_cellK [_, _, _, _, _, _] rfl rfl rfl ⟨rfl, rfl, rfl, rfl, rfl, rfl, trivial⟩, ⟨_, _, rfl, rv_tmp rfl, rfl⟩⟩ rfl) ⟨rfl, sb, tb, Q2, Lt, hS2, hT, rfl⟩
set_option maxHeartbeats 4000000 in
theorem tr_mRotate (n cb : Nat) (L : Hp) (p : PS) (hH : CapsH n p cb L) (de vo so : SlotM) : Tr Tryz.prog 45 [cpP cb, slotV de, slotV vo, slotV so] (L) (fun u L' => u = .int .i64 (mRotate p de vo so).1 ∧ CapsH (n + 0) (mRotate p de vo so).2 cb L') := by
 have hH0 := hH
 obtain ⟨sb, tb, Ls, Lt, hS, hT, rfl⟩ := hH
 refine Tr.enter Tryz.func45 rfl Tryz.ntmps45 rfl (fun W F => ?_)
 refine Wp.app ?_
 refine Wr ?_
 refine Ops.ef rfl (ef_boxK rfl rfl) ?_
 rintro _ _ ⟨b1, rfl, rfl⟩
 refine Ops.ef rfl (ef_boxK rfl rfl) ?_
 rintro _ _ ⟨b2, rfl, rfl⟩
 refine Ops.ef rfl (ef_boxK rfl rfl) ?_
 rintro _ _ ⟨b3, rfl, rfl⟩
 refine Oa1 rfl rfl ?_
 refine On ?_
 refine Wp.seq ?_
 refine Wr ?_
 refine Ops.pv (pv_loadK [_, _] rfl rfl rfl ⟨rfl, rfl, trivial⟩) rfl ?_
 refine Ops.pv (pv_loadK [_, _] rfl rfl rfl ⟨rfl, rfl, trivial⟩) rfl ?_
 refine Ops.pv (pv_eql_slot rfl rfl) rfl ?_
 refine Om1 rfl rfl ?_
 refine Ops.pvcn rfl rfl (fun hg => pv_loadK [_, _] rfl rfl rfl ⟨rfl, rfl, trivial⟩) rfl ?_
 refine Ops.pvcn rfl rfl (fun hg => Pv.setE (t := 17) rfl (cv_pos hg) (pv_loadK [_, _] rfl rfl rfl ⟨rfl, rfl, trivial⟩)) rfl ?_
 refine Ops.pvcn rfl rfl (fun hg => Pv.setE (t := 17) rfl (cv_pos hg) (Pv.setE (t := 18) rfl (cv_pos hg) (pv_eql_slot rfl rfl))) rfl ?_
 refine Ops.pv (pv_pick_or rfl rfl) rfl ?_
 refine On ?_
 refine Wp.cond_dect rfl (fun h1 => ?_) (fun h1 => ?_)
 ·
  refine Wr ?_
  refine Oa1 rfl rfl ?_
  refine On ?_
  refine Wp.ret ?_
  refine Ends.then_ret ?_
  have he : mRotate p de vo so = (10, p) := by unfold mRotate; rw [if_pos (by assumption)]
  rw [he]
  exact Ends.ret (L' := (cBlk cb sb tb :: (Ls ++ Lt))) (res1 rfl rfl) ⟨rfl, sb, tb, Ls, Lt, hS, hT, rfl⟩
 refine Wp.skip ?_
 refine Ends.seq ?_
 refine Wr ?_
 refine Om1 rfl rfl ?_
 refine Ops.pv (pv_loadK [_, _] rfl rfl rfl ⟨rfl, rfl, trivial⟩) rfl ?_
 refine Ops.ef rfl (ef_callr (tr_mSource n cb (cBlk cb sb tb :: (Ls ++ Lt)) p hH0 vo) rfl rfl) ?_
 rintro _ _ ⟨rfl, rfl⟩
 refine Om1 rfl rfl ?_
 refine Ops.pv (pv_extract rfl rfl) rfl ?_
 refine Ops.pv (pv_extract rfl rfl) rfl ?_
 refine Ops.ef rfl (ef_allocK tyZ25 rfl) ?_
 rintro _ _ ⟨b4, rfl, rfl⟩
 refine Ops.ef rfl (ef_storeK rfl rfl rfl rfl) ?_
 rintro _ _ ⟨rfl, rfl⟩
 refine Oa1 rfl rfl ?_
 refine On ?_
 refine Wp.seq ?_
 refine Wr ?_
 refine Om1 rfl rfl ?_
 refine Ops.pv (pv_neq rfl rfl) rfl ?_
 refine On ?_
 refine Wp.cond_dect rfl (fun h2 => ?_) (fun h2 => ?_)
 ·
  refine Wr ?_
  refine Om1 rfl rfl ?_
  refine Oa1 rfl rfl ?_
  refine On ?_
  refine Wp.ret ?_
  refine Ends.then_ret ?_
  have he : mRotate p de vo so = ((mSource p vo).2, p) := by unfold mRotate; rw [if_neg (by assumption), if_pos (by assumption)]
  rw [he]
  exact Ends.ret (L' := (cBlk cb sb tb :: (Ls ++ Lt))) (res1 rfl rfl) ⟨rfl, sb, tb, Ls, Lt, hS, hT, rfl⟩
 refine Wp.skip ?_
 refine Ends.seq ?_
 refine Wr ?_
 refine Om1 rfl rfl ?_
 refine Ops.pv (pv_loadK [_, _] rfl rfl rfl ⟨rfl, rfl, trivial⟩) rfl ?_
 refine Ops.ef rfl (ef_callr (tr_mSource n cb (cBlk cb sb tb :: (Ls ++ Lt)) p hH0 so) rfl rfl) ?_
 rintro _ _ ⟨rfl, rfl⟩
 refine Om1 rfl rfl ?_
 refine Ops.pv (pv_extract rfl rfl) rfl ?_
 refine Ops.pv (pv_extract rfl rfl) rfl ?_
 refine Ops.ef rfl (ef_allocK tyZ25 rfl) ?_
 rintro _ _ ⟨b5, rfl, rfl⟩
 refine Ops.ef rfl (ef_storeK rfl rfl rfl rfl) ?_
 rintro _ _ ⟨rfl, rfl⟩
 refine Oa1 rfl rfl ?_
 refine On ?_
 refine Wp.seq ?_
 refine Wr ?_
 refine Om1 rfl rfl ?_
 refine Ops.pv (pv_eql rfl rfl) rfl ?_
 refine Om1 rfl rfl ?_
 refine Ops.pvc rfl rfl (fun hg => pv_loadK [_, _] rfl rfl rfl ⟨rfl, rfl, trivial⟩) rfl ?_
 refine Ops.pvc rfl rfl (fun hg => Pv.setE (t := 39) rfl (cv_pos hg) (pv_loadK [_, _] rfl rfl rfl ⟨rfl, rfl, trivial⟩)) rfl ?_
 refine Ops.pvc rfl rfl (fun hg => Pv.setE (t := 39) rfl (cv_pos hg) (Pv.setE (t := 40) rfl (cv_pos hg) (pv_neq_slot rfl rfl))) rfl ?_
 refine Ops.pv (pv_pick_and rfl rfl) rfl ?_
 refine On ?_
 refine Wp.cond_dect rfl (fun h3 => ?_) (fun h3 => ?_)
 ·
  refine Wp.region ?_
  refine Om1 rfl rfl ?_
  refine Ops.pv (pv_loadK [_, _] rfl rfl rfl ⟨rfl, rfl, trivial⟩) rfl ?_
  refine Ops.ef rfl (ef_callr (tr_mPlace n cb (cBlk cb sb tb :: (Ls ++ Lt)) p hH0 de) rfl rfl) ?_
  rintro _ _ ⟨rfl, rfl⟩
  refine Oa1 rfl rfl ?_
  refine On ?_
  refine Wp.seq ?_
  refine Wr ?_
  refine Om1 rfl rfl ?_
  refine Ops.pv (pv_neq rfl rfl) rfl ?_
  refine On ?_
  refine Wp.cond_dect rfl (fun h4 => ?_) (fun h4 => ?_)
  ·
   refine Wr ?_
   refine Om1 rfl rfl ?_
   refine Oa1 rfl rfl ?_
   refine On ?_
   refine Wp.ret ?_
   refine Ends.then_ret ?_
   have he0 : mRotE p de so = mPlace p de := by unfold mRotE; rw [if_pos (by assumption)]
   have he : mRotate p de vo so = (mRotE p de so, p) := by unfold mRotate; rw [if_neg (by assumption), if_neg (by assumption), if_pos (by rw [he0]; assumption)]
   rw [he, he0]
   exact Ends.ret (L' := (cBlk cb sb tb :: (Ls ++ Lt))) (res1 rfl rfl) ⟨rfl, sb, tb, Ls, Lt, hS, hT, rfl⟩
  refine Wp.skip ?_
  refine Ends.seq ?_
  refine Wr ?_
  refine Ops.pv (pv_build rfl) rfl ?_
  refine Ops.ef rfl (ef_allocK tyZ31 rfl) ?_
  rintro _ _ ⟨b6, rfl, rfl⟩
  refine Ops.ef rfl (ef_storeK rfl rfl rfl rfl) ?_
  rintro _ _ ⟨rfl, rfl⟩
  refine On ?_
  refine Wp.seq ?_
  refine AnyH.start ((b2, .cells [.int .i64 vo.1, .int .i64 vo.2].toArray 31) :: cBlk cb sb tb :: []) 7 rfl ?_
  refine Tk 0 rfl rfl (pv_move rfl) rfl ?_
  refine Tk 1 rfl rfl (pv_nilCheck rfl) rfl ?_
  refine Tk 2 rfl rfl (pv_fieldAddr0 rfl rfl) rfl ?_
  refine Tk 3 rfl rfl (pv_fieldAddr0 rfl rfl) rfl ?_
  refine Tk 4 rfl rfl (pv_load rfl rfl rfl) rfl ?_
  refine Tk 5 rfl rfl (pv_loadK [_, _] rfl rfl rfl ⟨rfl, rfl, trivial⟩) rfl ?_
  refine AnyH.one 6 (by kernel_rfl) ?_
  refine Turn.ef rfl rfl (ef_call (sf_take hS vo) rfl rfl) ?_ ?_
  ·
   rintro _ _ ⟨_, Q1, ⟨rfl, hS2⟩, rfl, rfl⟩; infer_instance
  rintro _ _ ⟨_, Q1, ⟨rfl, hS2⟩, rfl, rfl⟩
  refine AnyH.app ?_
  skip
  refine AnyH.done (by kernel_rfl) ?_
  refine Ends.seq ?_
  refine Wp.seq ?_
  refine AnyH.start ((b3, .cells [.int .i64 so.1, .int .i64 so.2].toArray 31) :: cBlk cb sb tb :: []) 7 rfl ?_
  refine Tk 0 rfl rfl (pv_move rfl) rfl ?_
  refine Tk 1 rfl rfl (pv_nilCheck rfl) rfl ?_
  refine Tk 2 rfl rfl (pv_fieldAddr0 rfl rfl) rfl ?_
  refine Tk 3 rfl rfl (pv_fieldAddr0 rfl rfl) rfl ?_
  refine Tk 4 rfl rfl (pv_load rfl rfl rfl) rfl ?_
  refine Tk 5 rfl rfl (pv_loadK [_, _] rfl rfl rfl ⟨rfl, rfl, trivial⟩) rfl ?_
  refine AnyH.one 6 (by kernel_rfl) ?_
  refine Turn.ef rfl rfl (ef_call (sf_take hS2 so) rfl rfl) ?_ ?_
  ·
   rintro _ _ ⟨_, Q2, ⟨rfl, hS3⟩, rfl, rfl⟩; infer_instance
  rintro _ _ ⟨_, Q2, ⟨rfl, hS3⟩, rfl, rfl⟩
  refine AnyH.app ?_
  skip
  refine AnyH.done (by kernel_rfl) ?_
  refine Ends.seq ?_
  refine Wp.seq ?_
  refine AnyH.start ((b4, .cells (mSource p vo).1.cells.toArray 25) :: (b1, .cells [.int .i64 de.1, .int .i64 de.2].toArray 31) :: cBlk cb sb tb :: []) 8 rfl ?_
  refine Tk 0 rfl rfl (pv_move rfl) rfl ?_
  refine Tk 1 rfl rfl (pv_nilCheck rfl) rfl ?_
  refine Tk 2 rfl rfl (pv_fieldAddr0 rfl rfl) rfl ?_
  refine Tk 3 rfl rfl (pv_fieldAddr0 rfl rfl) rfl ?_
  refine Tk 4 rfl rfl (pv_load rfl rfl rfl) rfl ?_
  refine Tk 5 rfl rfl (pv_loadK [_, _] rfl rfl rfl ⟨rfl, rfl, trivial⟩) rfl ?_
  refine Tk 6 rfl rfl (pv_loadK [_, _, _, _, _, _] rfl rfl rfl ⟨rfl, rfl, rfl, rfl, rfl, rfl, trivial⟩) rfl ?_
  refine AnyH.one 7 (by kernel_rfl) ?_
  refine Turn.ef rfl rfl (ef_call (sf_put hS3 de (mSource p vo).1) rfl rfl) ?_ ?_
  ·
   rintro _ _ ⟨_, Q3, ⟨rfl, hS4⟩, rfl, rfl⟩; infer_instance
  rintro _ _ ⟨_, Q3, ⟨rfl, hS4⟩, rfl, rfl⟩
  refine AnyH.app ?_
  skip
  refine AnyH.done (by kernel_rfl) ?_
  refine Ends.seq ?_
  refine Wp.seq ?_
  refine AnyH.start ((b5, .cells (mSource p so).1.cells.toArray 25) :: (b2, .cells [.int .i64 vo.1, .int .i64 vo.2].toArray 31) :: cBlk cb sb tb :: []) 8 rfl ?_
  refine Tk 0 rfl rfl (pv_move rfl) rfl ?_
  refine Tk 1 rfl rfl (pv_nilCheck rfl) rfl ?_
  refine Tk 2 rfl rfl (pv_fieldAddr0 rfl rfl) rfl ?_
  refine Tk 3 rfl rfl (pv_fieldAddr0 rfl rfl) rfl ?_
  refine Tk 4 rfl rfl (pv_load rfl rfl rfl) rfl ?_
  refine Tk 5 rfl rfl (pv_loadK [_, _] rfl rfl rfl ⟨rfl, rfl, trivial⟩) rfl ?_
  refine Tk 6 rfl rfl (pv_loadK [_, _, _, _, _, _] rfl rfl rfl ⟨rfl, rfl, rfl, rfl, rfl, rfl, trivial⟩) rfl ?_
  refine AnyH.one 7 (by kernel_rfl) ?_
  refine Turn.ef rfl rfl (ef_call (sf_put hS4 vo (mSource p so).1) rfl rfl) ?_ ?_
  ·
   rintro _ _ ⟨_, Q4, ⟨rfl, hS5⟩, rfl, rfl⟩; infer_instance
  rintro _ _ ⟨_, Q4, ⟨rfl, hS5⟩, rfl, rfl⟩
  refine AnyH.app ?_
  skip
  refine AnyH.done (by kernel_rfl) ?_
  refine Ends.seq ?_
  refine Wp.seq ?_
  refine AnyH.start ((b6, .cells [.int .i64 (-1), .int .i64 0].toArray 31) :: (b2, .cells [.int .i64 vo.1, .int .i64 vo.2].toArray 31) :: cBlk cb sb tb :: []) 7 rfl ?_
  refine Tk 0 rfl rfl (pv_move rfl) rfl ?_
  refine Tk 1 rfl rfl (pv_nilCheck rfl) rfl ?_
  refine Tk 2 rfl rfl (pv_fieldAddr0 rfl rfl) rfl ?_
  refine Tk 3 rfl rfl (pv_load rfl rfl rfl) rfl ?_
  refine Tk 4 rfl rfl (pv_loadK [_, _] rfl rfl rfl ⟨rfl, rfl, trivial⟩) rfl ?_
  refine Tk 5 rfl rfl (pv_loadK [_, _] rfl rfl rfl ⟨rfl, rfl, trivial⟩) rfl ?_
  refine AnyH.one 6 (by kernel_rfl) ?_
  refine Turn.ef rfl rfl (ef_call (tr_fMove hT vo (-1, 0)) rfl rfl) ?_ ?_
  ·
   rintro _ _ ⟨_, R1, ⟨rfl, hT2⟩, rfl, rfl⟩; infer_instance
  rintro _ _ ⟨_, R1, ⟨rfl, hT2⟩, rfl, rfl⟩
  refine AnyH.app ?_
  skip
  refine AnyH.done (by kernel_rfl) ?_
  refine Ends.seq ?_
  refine Wp.seq ?_
  refine AnyH.start ((b2, .cells [.int .i64 vo.1, .int .i64 vo.2].toArray 31) :: (b3, .cells [.int .i64 so.1, .int .i64 so.2].toArray 31) :: cBlk cb sb tb :: []) 7 rfl ?_
  refine Tk 0 rfl rfl (pv_move rfl) rfl ?_
  refine Tk 1 rfl rfl (pv_nilCheck rfl) rfl ?_
  refine Tk 2 rfl rfl (pv_fieldAddr0 rfl rfl) rfl ?_
  refine Tk 3 rfl rfl (pv_load rfl rfl rfl) rfl ?_
  refine Tk 4 rfl rfl (pv_loadK [_, _] rfl rfl rfl ⟨rfl, rfl, trivial⟩) rfl ?_
  refine Tk 5 rfl rfl (pv_loadK [_, _] rfl rfl rfl ⟨rfl, rfl, trivial⟩) rfl ?_
  refine AnyH.one 6 (by kernel_rfl) ?_
  refine Turn.ef rfl rfl (ef_call (tr_fMove hT2 so vo) rfl rfl) ?_ ?_
  ·
   rintro _ _ ⟨_, R2, ⟨rfl, hT3⟩, rfl, rfl⟩; infer_instance
  rintro _ _ ⟨_, R2, ⟨rfl, hT3⟩, rfl, rfl⟩
  refine AnyH.app ?_
  skip
  refine AnyH.done (by kernel_rfl) ?_
  refine Ends.seq ?_
  refine Wp.seq ?_
  refine AnyH.start ((b6, .cells [.int .i64 (-1), .int .i64 0].toArray 31) :: (b1, .cells [.int .i64 de.1, .int .i64 de.2].toArray 31) :: cBlk cb sb tb :: []) 7 rfl ?_
  refine Tk 0 rfl rfl (pv_move rfl) rfl ?_
  refine Tk 1 rfl rfl (pv_nilCheck rfl) rfl ?_
  refine Tk 2 rfl rfl (pv_fieldAddr0 rfl rfl) rfl ?_
  refine Tk 3 rfl rfl (pv_load rfl rfl rfl) rfl ?_
  refine Tk 4 rfl rfl (pv_loadK [_, _] rfl rfl rfl ⟨rfl, rfl, trivial⟩) rfl ?_
  refine Tk 5 rfl rfl (pv_loadK [_, _] rfl rfl rfl ⟨rfl, rfl, trivial⟩) rfl ?_
  refine AnyH.one 6 (by kernel_rfl) ?_
  refine Turn.ef rfl rfl (ef_call (tr_fMove hT3 (-1, 0) de) rfl rfl) ?_ ?_
  ·
   rintro _ _ ⟨_, R3, ⟨rfl, hT4⟩, rfl, rfl⟩; infer_instance
  rintro _ _ ⟨_, R3, ⟨rfl, hT4⟩, rfl, rfl⟩
  refine AnyH.app ?_
  skip
  refine AnyH.done (by kernel_rfl) ?_
  refine Ends.seq ?_
  refine Wr ?_
  refine Oa1 rfl rfl ?_
  refine On ?_
  refine Wp.ret ?_
  have he0 : mRotE p de so = mPlace p de := by unfold mRotE; rw [if_pos (by assumption)]
  have he : mRotate p de vo so = (0, ⟨mRotL p.l de vo so (mSource p vo).1 (mSource p so).1, mRotF p.F de vo so⟩) := by unfold mRotate; rw [if_neg (by assumption), if_neg (by assumption), if_neg (by rw [he0]; assumption)]
  rw [he]
  exact Ends.ret (L' := cBlk cb sb tb :: (Q4 ++ R3)) (res1 rfl rfl) ⟨rfl, sb, tb, Q4, R3, hS5, hT4, rfl⟩
 refine Wp.skip ?_
 refine Ends.seq ?_
 refine Wp.seq ?_
 refine Wr ?_
 refine Om1 rfl rfl ?_
 refine Ops.pv (pv_neq rfl rfl) rfl ?_
 refine On ?_
 refine Wp.cond_dect rfl (fun h5 => ?_) (fun h5 => ?_)
 ·
  refine Wr ?_
  refine Om1 rfl rfl ?_
  refine Oa1 rfl rfl ?_
  refine On ?_
  refine Wp.ret ?_
  refine Ends.then_ret ?_
  have he0 : mRotE p de so = (mSource p so).2 := by unfold mRotE; rw [if_neg (by assumption)]
  have he : mRotate p de vo so = (mRotE p de so, p) := by unfold mRotate; rw [if_neg (by assumption), if_neg (by assumption), if_pos (by rw [he0]; assumption)]
  rw [he, he0]
  exact Ends.ret (L' := (cBlk cb sb tb :: (Ls ++ Lt))) (res1 rfl rfl) ⟨rfl, sb, tb, Ls, Lt, hS, hT, rfl⟩
 refine Wp.skip ?_
 refine Ends.seq ?_
 refine Wr ?_
 refine Ops.pv (pv_build rfl) rfl ?_
 refine Ops.ef rfl (ef_allocK tyZ31 rfl) ?_
 rintro _ _ ⟨b7, rfl, rfl⟩
 refine Ops.ef rfl (ef_storeK rfl rfl rfl rfl) ?_
 rintro _ _ ⟨rfl, rfl⟩
 refine On ?_
 refine Wp.seq ?_
 refine AnyH.start ((b2, .cells [.int .i64 vo.1, .int .i64 vo.2].toArray 31) :: cBlk cb sb tb :: []) 7 rfl ?_
 refine Tk 0 rfl rfl (pv_move rfl) rfl ?_
 refine Tk 1 rfl rfl (pv_nilCheck rfl) rfl ?_
 refine Tk 2 rfl rfl (pv_fieldAddr0 rfl rfl) rfl ?_
 refine Tk 3 rfl rfl (pv_fieldAddr0 rfl rfl) rfl ?_
 refine Tk 4 rfl rfl (pv_load rfl rfl rfl) rfl ?_
 refine Tk 5 rfl rfl (pv_loadK [_, _] rfl rfl rfl ⟨rfl, rfl, trivial⟩) rfl ?_
 refine AnyH.one 6 (by kernel_rfl) ?_
 refine Turn.ef rfl rfl (ef_call (sf_take hS vo) rfl rfl) ?_ ?_
 ·
  rintro _ _ ⟨_, Q5, ⟨rfl, hS2⟩, rfl, rfl⟩; infer_instance
 rintro _ _ ⟨_, Q5, ⟨rfl, hS2⟩, rfl, rfl⟩
 refine AnyH.app ?_
 skip
 refine AnyH.done (by kernel_rfl) ?_
 refine Ends.seq ?_
 refine Wp.seq ?_
 refine AnyH.start ((b3, .cells [.int .i64 so.1, .int .i64 so.2].toArray 31) :: cBlk cb sb tb :: []) 7 rfl ?_
 refine Tk 0 rfl rfl (pv_move rfl) rfl ?_
 refine Tk 1 rfl rfl (pv_nilCheck rfl) rfl ?_
 refine Tk 2 rfl rfl (pv_fieldAddr0 rfl rfl) rfl ?_
 refine Tk 3 rfl rfl (pv_fieldAddr0 rfl rfl) rfl ?_
 refine Tk 4 rfl rfl (pv_load rfl rfl rfl) rfl ?_
 refine Tk 5 rfl rfl (pv_loadK [_, _] rfl rfl rfl ⟨rfl, rfl, trivial⟩) rfl ?_
 refine AnyH.one 6 (by kernel_rfl) ?_
 refine Turn.ef rfl rfl (ef_call (sf_take hS2 so) rfl rfl) ?_ ?_
 ·
  rintro _ _ ⟨_, Q6, ⟨rfl, hS3⟩, rfl, rfl⟩; infer_instance
 rintro _ _ ⟨_, Q6, ⟨rfl, hS3⟩, rfl, rfl⟩
 refine AnyH.app ?_
 skip
 refine AnyH.done (by kernel_rfl) ?_
 refine Ends.seq ?_
 refine Wp.seq ?_
 refine AnyH.start ((b4, .cells (mSource p vo).1.cells.toArray 25) :: (b1, .cells [.int .i64 de.1, .int .i64 de.2].toArray 31) :: cBlk cb sb tb :: []) 8 rfl ?_
 refine Tk 0 rfl rfl (pv_move rfl) rfl ?_
 refine Tk 1 rfl rfl (pv_nilCheck rfl) rfl ?_
 refine Tk 2 rfl rfl (pv_fieldAddr0 rfl rfl) rfl ?_
 refine Tk 3 rfl rfl (pv_fieldAddr0 rfl rfl) rfl ?_
 refine Tk 4 rfl rfl (pv_load rfl rfl rfl) rfl ?_
 refine Tk 5 rfl rfl (pv_loadK [_, _] rfl rfl rfl ⟨rfl, rfl, trivial⟩) rfl ?_
 refine Tk 6 rfl rfl (pv_loadK [_, _, _, _, _, _] rfl rfl rfl ⟨rfl, rfl, rfl, rfl, rfl, rfl, trivial⟩) rfl ?_
 refine AnyH.one 7 (by kernel_rfl) ?_
 refine Turn.ef rfl rfl (ef_call (sf_put hS3 de (mSource p vo).1) rfl rfl) ?_ ?_
 ·
  rintro _ _ ⟨_, Q7, ⟨rfl, hS4⟩, rfl, rfl⟩; infer_instance
 rintro _ _ ⟨_, Q7, ⟨rfl, hS4⟩, rfl, rfl⟩
 refine AnyH.app ?_
 skip
 refine AnyH.done (by kernel_rfl) ?_
 refine Ends.seq ?_
 refine Wp.seq ?_
 refine AnyH.start ((b5, .cells (mSource p so).1.cells.toArray 25) :: (b2, .cells [.int .i64 vo.1, .int .i64 vo.2].toArray 31) :: cBlk cb sb tb :: []) 8 rfl ?_
 refine Tk 0 rfl rfl (pv_move rfl) rfl ?_
 refine Tk 1 rfl rfl (pv_nilCheck rfl) rfl ?_
 refine Tk 2 rfl rfl (pv_fieldAddr0 rfl rfl) rfl ?_
 refine Tk 3 rfl rfl (pv_fieldAddr0 rfl rfl) rfl ?_
 refine Tk 4 rfl rfl (pv_load rfl rfl rfl) rfl ?_
 refine Tk 5 rfl rfl (pv_loadK [_, _] rfl rfl rfl ⟨rfl, rfl, trivial⟩) rfl ?_
 refine Tk 6 rfl rfl (pv_loadK [_, _, _, _, _, _] rfl rfl rfl ⟨rfl, rfl, rfl, rfl, rfl, rfl, trivial⟩) rfl ?_
 refine AnyH.one 7 (by kernel_rfl) ?_
 refine Turn.ef rfl rfl (ef_call (sf_put hS4 vo (mSource p so).1) rfl rfl) ?_ ?_
 ·
  rintro _ _ ⟨_, Q8, ⟨rfl, hS5⟩, rfl, rfl⟩; infer_instance
 rintro _ _ ⟨_, Q8, ⟨rfl, hS5⟩, rfl, rfl⟩
 refine AnyH.app ?_
 skip
 refine AnyH.done (by kernel_rfl) ?_
 refine Ends.seq ?_
 refine Wp.seq ?_
 refine AnyH.start ((b7, .cells [.int .i64 (-1), .int .i64 0].toArray 31) :: (b2, .cells [.int .i64 vo.1, .int .i64 vo.2].toArray 31) :: cBlk cb sb tb :: []) 7 rfl ?_
 refine Tk 0 rfl rfl (pv_move rfl) rfl ?_
 refine Tk 1 rfl rfl (pv_nilCheck rfl) rfl ?_
 refine Tk 2 rfl rfl (pv_fieldAddr0 rfl rfl) rfl ?_
 refine Tk 3 rfl rfl (pv_load rfl rfl rfl) rfl ?_
 refine Tk 4 rfl rfl (pv_loadK [_, _] rfl rfl rfl ⟨rfl, rfl, trivial⟩) rfl ?_
 refine Tk 5 rfl rfl (pv_loadK [_, _] rfl rfl rfl ⟨rfl, rfl, trivial⟩) rfl ?_
 refine AnyH.one 6 (by kernel_rfl) ?_
 refine Turn.ef rfl rfl (ef_call (tr_fMove hT vo (-1, 0)) rfl rfl) ?_ ?_
 ·
  rintro _ _ ⟨_, R4, ⟨rfl, hT2⟩, rfl, rfl⟩; infer_instance
 rintro _ _ ⟨_, R4, ⟨rfl, hT2⟩, rfl, rfl⟩
 refine AnyH.app ?_
 skip
 refine AnyH.done (by kernel_rfl) ?_
 refine Ends.seq ?_
 refine Wp.seq ?_
 refine AnyH.start ((b2, .cells [.int .i64 vo.1, .int .i64 vo.2].toArray 31) :: (b3, .cells [.int .i64 so.1, .int .i64 so.2].toArray 31) :: cBlk cb sb tb :: []) 7 rfl ?_
 refine Tk 0 rfl rfl (pv_move rfl) rfl ?_
 refine Tk 1 rfl rfl (pv_nilCheck rfl) rfl ?_
 refine Tk 2 rfl rfl (pv_fieldAddr0 rfl rfl) rfl ?_
 refine Tk 3 rfl rfl (pv_load rfl rfl rfl) rfl ?_
 refine Tk 4 rfl rfl (pv_loadK [_, _] rfl rfl rfl ⟨rfl, rfl, trivial⟩) rfl ?_
 refine Tk 5 rfl rfl (pv_loadK [_, _] rfl rfl rfl ⟨rfl, rfl, trivial⟩) rfl ?_
 refine AnyH.one 6 (by kernel_rfl) ?_
 refine Turn.ef rfl rfl (ef_call (tr_fMove hT2 so vo) rfl rfl) ?_ ?_
 ·
  rintro _ _ ⟨_, R5, ⟨rfl, hT3⟩, rfl, rfl⟩; infer_instance
 rintro _ _ ⟨_, R5, ⟨rfl, hT3⟩, rfl, rfl⟩
 refine AnyH.app ?_
 skip
 refine AnyH.done (by kernel_rfl) ?_
 refine Ends.seq ?_
 refine Wp.seq ?_
 refine AnyH.start ((b7, .cells [.int .i64 (-1), .int .i64 0].toArray 31) :: (b1, .cells [.int .i64 de.1, .int .i64 de.2].toArray 31) :: cBlk cb sb tb :: []) 7 rfl ?_
 refine Tk 0 rfl rfl (pv_move rfl) rfl ?_
 refine Tk 1 rfl rfl (pv_nilCheck rfl) rfl ?_
 refine Tk 2 rfl rfl (pv_fieldAddr0 rfl rfl) rfl ?_
 refine Tk 3 rfl rfl (pv_load rfl rfl rfl) rfl ?_
 refine Tk 4 rfl rfl (pv_loadK [_, _] rfl rfl rfl ⟨rfl, rfl, trivial⟩) rfl ?_
 refine Tk 5 rfl rfl (pv_loadK [_, _] rfl rfl rfl ⟨rfl, rfl, trivial⟩) rfl ?_
 refine AnyH.one 6 (by kernel_rfl) ?_
 refine Turn.ef rfl rfl (ef_call (tr_fMove hT3 (-1, 0) de) rfl rfl) ?_ ?_
 ·
  rintro _ _ ⟨_, R6, ⟨rfl, hT4⟩, rfl, rfl⟩; infer_instance
 rintro _ _ ⟨_, R6, ⟨rfl, hT4⟩, rfl, rfl⟩
 refine AnyH.app ?_
 skip
 refine AnyH.done (by kernel_rfl) ?_
 refine Ends.seq ?_
 refine Wr ?_
 refine Oa1 rfl rfl ?_
 refine On ?_
 refine Wp.ret ?_
 have he0 : mRotE p de so = (mSource p so).2 := by unfold mRotE; rw [if_neg (by assumption)]
 have he : mRotate p de vo so = (0, ⟨mRotL p.l de vo so (mSource p vo).1 (mSource p so).1, mRotF p.F de vo so⟩) := by unfold mRotate; rw [if_neg (by assumption), if_neg (by assumption), if_neg (by rw [he0]; assumption)]
 rw [he]
 exact Ends.ret (L' := cBlk cb sb tb :: (Q8 ++ R6)) (res1 rfl rfl) ⟨rfl, sb, tb, Q8, R6, hS5, hT4, rfl⟩
end Go.Proofs.YtdodfnjmkpgdbaaGreat
end
section
set_option linter.unusedVariables false
set_option linter.unusedSimpArgs false
namespace Go.Proofs.YtdodfnjmkpgdbaaGreat
open Go.SL
set_option maxHeartbeats 4000000 in
theorem tr_dRotate (qb : Nat) (L : Hp) (p : PS) (hH : DcH p qb L) (hok : POk p) (hl : p.F.all.length ≤ 2 ^ 20) (hrg : ∀ s, (dget p.l s).1.Rg) (de vo so : SlotM) : Tr Tryz.prog 46 [.pointer (some ⟨qb, 0, none⟩), slotV de, slotV vo, slotV so] (L) (fun u L' => u = .int .i64 (mRotate p de vo so).1 ∧ DcH (mRotate p de vo so).2 qb L') := by
 have hH0 := hH
 obtain ⟨S0, l0, v0, H0, w0, K0, hR0, hQ0, hs0, ht0, rfl⟩ := hH
 have hsv : (mSource p vo).1.Rg := by unfold mSource; split <;> exact hrg vo
 have hss : (mSource p so).1.Rg := by unfold mSource; split <;> exact hrg so
 refine Tr.enter Tryz.func46 rfl Tryz.ntmps46 rfl (fun W F => ?_)
 refine Wp.app ?_
 refine Wr ?_
 refine Ops.ef rfl (ef_boxK rfl rfl) ?_
 rintro _ _ ⟨b1, rfl, rfl⟩
 refine Ops.ef rfl (ef_boxK rfl rfl) ?_
 rintro _ _ ⟨b2, rfl, rfl⟩
 refine Ops.ef rfl (ef_boxK rfl rfl) ?_
 rintro _ _ ⟨b3, rfl, rfl⟩
 refine Oa1 rfl rfl ?_
 refine On ?_
 refine Wp.seq ?_
 refine Wr ?_
 refine Ops.pv (pv_loadK [_, _] rfl rfl rfl ⟨rfl, rfl, trivial⟩) rfl ?_
 refine Ops.pv (pv_loadK [_, _] rfl rfl rfl ⟨rfl, rfl, trivial⟩) rfl ?_
 refine Ops.pv (pv_eql_slot rfl rfl) rfl ?_
 refine Om1 rfl rfl ?_
 refine Ops.pvcn rfl rfl (fun hg => pv_loadK [_, _] rfl rfl rfl ⟨rfl, rfl, trivial⟩) rfl ?_
 refine Ops.pvcn rfl rfl (fun hg => Pv.setE (t := 17) rfl (cv_pos hg) (pv_loadK [_, _] rfl rfl rfl ⟨rfl, rfl, trivial⟩)) rfl ?_
 refine Ops.pvcn rfl rfl (fun hg => Pv.setE (t := 17) rfl (cv_pos hg) (Pv.setE (t := 18) rfl (cv_pos hg) (pv_eql_slot rfl rfl))) rfl ?_
 refine Ops.pv (pv_pick_or rfl rfl) rfl ?_
 refine On ?_
 refine Wp.cond_dect rfl (fun h1 => ?_) (fun h1 => ?_)
 ·
  refine Wr ?_
  refine Oa1 rfl rfl ?_
  refine On ?_
  refine Wp.ret ?_
  refine Ends.then_ret ?_
  have he : mRotate p de vo so = (10, p) := by unfold mRotate; rw [if_pos (by assumption)]
  rw [he]
  exact Ends.ret (L' := (dcBlk qb v0 w0 :: (H0 ++ (dCaps l0 ++ K0)))) (res1 rfl rfl) ⟨rfl, S0, l0, v0, H0, w0, K0, hR0, hQ0, hs0, ht0, rfl⟩
 refine Wp.skip ?_
 refine Ends.seq ?_
 refine Wr ?_
 refine Om1 rfl rfl ?_
 refine Ops.pv (pv_loadK [_, _] rfl rfl rfl ⟨rfl, rfl, trivial⟩) rfl ?_
 refine Ops.ef rfl (ef_callr (tr_dSource qb (dcBlk qb v0 w0 :: (H0 ++ (dCaps l0 ++ K0))) p hH0 vo) rfl rfl) ?_
 rintro _ _ ⟨rfl, rfl⟩
 refine Om1 rfl rfl ?_
 refine Ops.pv (pv_extract rfl rfl) rfl ?_
 refine Ops.pv (pv_extract rfl rfl) rfl ?_
 refine Ops.ef rfl (ef_allocK tyZ25 rfl) ?_
 rintro _ _ ⟨b4, rfl, rfl⟩
 refine Ops.ef rfl (ef_storeK rfl rfl rfl rfl) ?_
 rintro _ _ ⟨rfl, rfl⟩
 refine Oa1 rfl rfl ?_
 refine On ?_
 refine Wp.seq ?_
 refine Wr ?_
 refine Om1 rfl rfl ?_
 refine Ops.pv (pv_neq rfl rfl) rfl ?_
 refine On ?_
 refine Wp.cond_dect rfl (fun h2 => ?_) (fun h2 => ?_)
 ·
  refine Wr ?_
  refine Om1 rfl rfl ?_
  refine Oa1 rfl rfl ?_
  refine On ?_
  refine Wp.ret ?_
  refine Ends.then_ret ?_
  have he : mRotate p de vo so = ((mSource p vo).2, p) := by unfold mRotate; rw [if_neg (by assumption), if_pos (by assumption)]
  rw [he]
  exact Ends.ret (L' := (dcBlk qb v0 w0 :: (H0 ++ (dCaps l0 ++ K0)))) (res1 rfl rfl) ⟨rfl, S0, l0, v0, H0, w0, K0, hR0, hQ0, hs0, ht0, rfl⟩
 refine Wp.skip ?_
 refine Ends.seq ?_
 refine Wr ?_
 refine Om1 rfl rfl ?_
 refine Ops.pv (pv_loadK [_, _] rfl rfl rfl ⟨rfl, rfl, trivial⟩) rfl ?_
 refine Ops.ef rfl (ef_callr (tr_dSource qb (dcBlk qb v0 w0 :: (H0 ++ (dCaps l0 ++ K0))) p hH0 so) rfl rfl) ?_
 rintro _ _ ⟨rfl, rfl⟩
 refine Om1 rfl rfl ?_
 refine Ops.pv (pv_extract rfl rfl) rfl ?_
 refine Ops.pv (pv_extract rfl rfl) rfl ?_
 refine Ops.ef rfl (ef_allocK tyZ25 rfl) ?_
 rintro _ _ ⟨b5, rfl, rfl⟩
 refine Ops.ef rfl (ef_storeK rfl rfl rfl rfl) ?_
 rintro _ _ ⟨rfl, rfl⟩
 refine Oa1 rfl rfl ?_
 refine On ?_
 refine Wp.seq ?_
 refine Wr ?_
 refine Om1 rfl rfl ?_
 refine Ops.pv (pv_eql rfl rfl) rfl ?_
 refine Om1 rfl rfl ?_
 refine Ops.pvc rfl rfl (fun hg => pv_loadK [_, _] rfl rfl rfl ⟨rfl, rfl, trivial⟩) rfl ?_
 refine Ops.pvc rfl rfl (fun hg => Pv.setE (t := 39) rfl (cv_pos hg) (pv_loadK [_, _] rfl rfl rfl ⟨rfl, rfl, trivial⟩)) rfl ?_
 refine Ops.pvc rfl rfl (fun hg => Pv.setE (t := 39) rfl (cv_pos hg) (Pv.setE (t := 40) rfl (cv_pos hg) (pv_neq_slot rfl rfl))) rfl ?_
 refine Ops.pv (pv_pick_and rfl rfl) rfl ?_
 refine On ?_
 refine Wp.cond_dect rfl (fun h3 => ?_) (fun h3 => ?_)
 ·
  refine Wp.region ?_
  refine Om1 rfl rfl ?_
  refine Ops.pv (pv_loadK [_, _] rfl rfl rfl ⟨rfl, rfl, trivial⟩) rfl ?_
  refine Ops.ef rfl (ef_callr (tr_dPlace qb (dcBlk qb v0 w0 :: (H0 ++ (dCaps l0 ++ K0))) p hH0 de) rfl rfl) ?_
  rintro _ _ ⟨rfl, rfl⟩
  refine Oa1 rfl rfl ?_
  refine On ?_
  refine Wp.seq ?_
  refine Wr ?_
  refine Om1 rfl rfl ?_
  refine Ops.pv (pv_neq rfl rfl) rfl ?_
  refine On ?_
  refine Wp.cond_dect rfl (fun h4 => ?_) (fun h4 => ?_)
  ·
   refine Wr ?_
   refine Om1 rfl rfl ?_
   refine Oa1 rfl rfl ?_
   refine On ?_
   refine Wp.ret ?_
   refine Ends.then_ret ?_
   have he0 : mRotE p de so = mPlace p de := by unfold mRotE; rw [if_pos (by assumption)]
   have he : mRotate p de vo so = (mRotE p de so, p) := by unfold mRotate; rw [if_neg (by assumption), if_neg (by assumption), if_pos (by rw [he0]; assumption)]
   rw [he, he0]
   exact Ends.ret (L' := (dcBlk qb v0 w0 :: (H0 ++ (dCaps l0 ++ K0)))) (res1 rfl rfl) ⟨rfl, S0, l0, v0, H0, w0, K0, hR0, hQ0, hs0, ht0, rfl⟩
  have he0 : mRotE p de so = 0 := by unfold mRotE; rw [if_pos (by assumption)]; exact Decidable.not_not.1 (by assumption)
  have hv0 : (mSource p vo).2 = 0 := Decidable.not_not.1 (by assumption)
  have hne : ¬ (vo = de ∨ vo = so) := by assumption
  obtain ⟨kv0, kv, _⟩ := src_ok hv0
  obtain ⟨ks, ks0, hd⟩ := rotE_ok he0
  have hm : mRotate p de vo so = (0, ⟨mRotL p.l de vo so (mSource p vo).1 (mSource p so).1, mRotF p.F de vo so⟩) := by unfold mRotate; rw [if_neg hne, if_neg (fun e => e hv0), if_neg (fun e => e he0)]
  refine Wp.skip ?_
  refine Ends.seq ?_
  refine Wp.seq ?_
  refine Wr ?_
  refine Ops.pv (pv_loadK [_, _] rfl rfl rfl ⟨rfl, rfl, trivial⟩) rfl ?_
  refine Ops.pv (pv_loadK [_, _] rfl rfl rfl ⟨rfl, rfl, trivial⟩) rfl ?_
  refine Ops.pv (pv_neq_slot rfl rfl) rfl ?_
  refine On ?_
  refine Wp.cond_dect rfl (fun h5 => ?_) (fun h5 => ?_)
  ·
   have hd2 := hd.resolve_left (by assumption)
   have hok1 : POk (mCarry p vo de (mSource p vo).1) := by rw [kv0]; exact hok.carry kv hd2.1 hd2.2 (hok.rel.check kv) kv
   have hl1 : (mCarry p vo de (mSource p vo).1).F.all.length ≤ 2 ^ 20 := by rw [carry_len]; exact hl
   refine Wr ?_
   refine Om1 rfl rfl ?_
   refine Ops.pv (pv_loadK [_, _] rfl rfl rfl ⟨rfl, rfl, trivial⟩) rfl ?_
   refine Ops.pv (pv_loadK [_, _] rfl rfl rfl ⟨rfl, rfl, trivial⟩) rfl ?_
   refine Ops.pv (pv_loadK [_, _, _, _, _, _] rfl rfl rfl ⟨rfl, rfl, rfl, rfl, rfl, rfl, trivial⟩) rfl ?_
   refine Ops.ef rfl (ef_call (tr_dCarry qb (dcBlk qb v0 w0 :: (H0 ++ (dCaps l0 ++ K0))) p hH0 hok hl vo de (mSource p vo).1 hsv) rfl rfl) ?_
   rintro _ _ ⟨_, Q1, ⟨rfl, hH2⟩, rfl, rfl⟩
   refine Ops.app ?_
   skip
   refine On ?_
   refine Wr ?_
   refine Om1 rfl rfl ?_
   refine Ops.pv (pv_loadK [_, _] rfl rfl rfl ⟨rfl, rfl, trivial⟩) rfl ?_
   refine Ops.pv (pv_loadK [_, _] rfl rfl rfl ⟨rfl, rfl, trivial⟩) rfl ?_
   refine Ops.pv (pv_loadK [_, _, _, _, _, _] rfl rfl rfl ⟨rfl, rfl, rfl, rfl, rfl, rfl, trivial⟩) rfl ?_
   refine Ops.ef rfl (ef_call (tr_dCarry qb Q1 (mCarry p vo de (mSource p vo).1) hH2 hok1 hl1 so vo (mSource p so).1 hss) rfl rfl) ?_
   rintro _ _ ⟨_, Q2, ⟨rfl, hH3⟩, rfl, rfl⟩
   refine Ops.app ?_
   skip
   refine On ?_
   refine Wr ?_
   refine Oa1 rfl rfl ?_
   refine On ?_
   refine Wp.ret ?_
   refine Ends.then_ret ?_
   have hrd := rot_doc hok kv ks (fun e => hne (.inr e)) (fun e => hne (.inl e)) (by assumption) hd2.1 hd2.2
   rw [← kv0, ← ks0] at hrd
   rw [hrd] at hH3
   rw [hm]
   exact Ends.ret (L' := Q2) (res1 rfl rfl) ⟨rfl, hH3⟩
  refine Wp.skip ?_
  refine Ends.seq ?_
  refine Wr ?_
  refine Ops.pv (pv_build rfl) rfl ?_
  refine Ops.ef rfl (ef_allocK tyZ31 rfl) ?_
  rintro _ _ ⟨b6, rfl, rfl⟩
  refine Ops.ef rfl (ef_storeK rfl rfl rfl rfl) ?_
  rintro _ _ ⟨rfl, rfl⟩
  refine On ?_
  refine Wp.seq ?_
  refine AnyH.start ((b2, .cells [.int .i64 vo.1, .int .i64 vo.2].toArray 31) :: []) 5 rfl ?_
  refine Tk 0 rfl rfl (pv_move rfl) rfl ?_
  refine Tk 1 rfl rfl (pv_nilCheck rfl) rfl ?_
  refine Tk 2 rfl rfl (pv_fieldAddr0 rfl rfl) rfl ?_
  refine Tk 3 rfl rfl (pv_loadK [_, _] rfl rfl rfl ⟨rfl, rfl, trivial⟩) rfl ?_
  refine AnyH.one 4 (by kernel_rfl) ?_
  refine Turn.ef rfl rfl (ef_call (dsf_take (uT := w0) ⟨S0, l0, hR0, hQ0, v0, H0, hs0, rfl⟩ vo) rfl rfl) ?_ ?_
  ·
   rintro _ _ ⟨_, _, ⟨rfl, S1, l1, hR1, hQ1, v1, H1, hs1, rfl⟩, rfl, rfl⟩; infer_instance
  rintro _ _ ⟨_, _, ⟨rfl, S1, l1, hR1, hQ1, v1, H1, hs1, rfl⟩, rfl, rfl⟩
  refine AnyH.app ?_
  refine AnyH.done (by kernel_rfl) ?_
  refine Ends.seq ?_
  refine Wp.seq ?_
  refine AnyH.start ((b3, .cells [.int .i64 so.1, .int .i64 so.2].toArray 31) :: []) 5 rfl ?_
  refine Tk 0 rfl rfl (pv_move rfl) rfl ?_
  refine Tk 1 rfl rfl (pv_nilCheck rfl) rfl ?_
  refine Tk 2 rfl rfl (pv_fieldAddr0 rfl rfl) rfl ?_
  refine Tk 3 rfl rfl (pv_loadK [_, _] rfl rfl rfl ⟨rfl, rfl, trivial⟩) rfl ?_
  refine AnyH.one 4 (by kernel_rfl) ?_
  refine Turn.ef rfl rfl (ef_call (dsf_take (uT := w0) ⟨S1, l1, hR1, hQ1, v1, H1, hs1, rfl⟩ so) rfl rfl) ?_ ?_
  ·
   rintro _ _ ⟨_, _, ⟨rfl, S2, l2, hR2, hQ2, v2, H2, hs2, rfl⟩, rfl, rfl⟩; infer_instance
  rintro _ _ ⟨_, _, ⟨rfl, S2, l2, hR2, hQ2, v2, H2, hs2, rfl⟩, rfl, rfl⟩
  refine AnyH.app ?_
  refine AnyH.done (by kernel_rfl) ?_
  refine Ends.seq ?_
  refine Wp.seq ?_
  refine AnyH.start ((b4, .cells (mSource p vo).1.cells.toArray 25) :: (b1, .cells [.int .i64 de.1, .int .i64 de.2].toArray 31) :: []) 6 rfl ?_
  refine Tk 0 rfl rfl (pv_move rfl) rfl ?_
  refine Tk 1 rfl rfl (pv_nilCheck rfl) rfl ?_
  refine Tk 2 rfl rfl (pv_fieldAddr0 rfl rfl) rfl ?_
  refine Tk 3 rfl rfl (pv_loadK [_, _] rfl rfl rfl ⟨rfl, rfl, trivial⟩) rfl ?_
  refine Tk 4 rfl rfl (pv_loadK [_, _, _, _, _, _] rfl rfl rfl ⟨rfl, rfl, rfl, rfl, rfl, rfl, trivial⟩) rfl ?_
  refine AnyH.one 5 (by kernel_rfl) ?_
  refine Turn.ef rfl rfl (ef_call (dsf_put (uT := w0) ⟨S2, l2, hR2, hQ2, v2, H2, hs2, rfl⟩ de (mSource p vo).1 hsv) rfl rfl) ?_ ?_
  ·
   rintro _ _ ⟨_, _, ⟨rfl, S3, l3, hR3, hQ3, v3, H3, hs3, rfl⟩, rfl, rfl⟩; infer_instance
  rintro _ _ ⟨_, _, ⟨rfl, S3, l3, hR3, hQ3, v3, H3, hs3, rfl⟩, rfl, rfl⟩
  refine AnyH.app ?_
  refine AnyH.done (by kernel_rfl) ?_
  refine Ends.seq ?_
  refine Wp.seq ?_
  refine AnyH.start ((b5, .cells (mSource p so).1.cells.toArray 25) :: (b2, .cells [.int .i64 vo.1, .int .i64 vo.2].toArray 31) :: []) 6 rfl ?_
  refine Tk 0 rfl rfl (pv_move rfl) rfl ?_
  refine Tk 1 rfl rfl (pv_nilCheck rfl) rfl ?_
  refine Tk 2 rfl rfl (pv_fieldAddr0 rfl rfl) rfl ?_
  refine Tk 3 rfl rfl (pv_loadK [_, _] rfl rfl rfl ⟨rfl, rfl, trivial⟩) rfl ?_
  refine Tk 4 rfl rfl (pv_loadK [_, _, _, _, _, _] rfl rfl rfl ⟨rfl, rfl, rfl, rfl, rfl, rfl, trivial⟩) rfl ?_
  refine AnyH.one 5 (by kernel_rfl) ?_
  refine Turn.ef rfl rfl (ef_call (dsf_put (uT := w0) ⟨S3, l3, hR3, hQ3, v3, H3, hs3, rfl⟩ vo (mSource p so).1 hss) rfl rfl) ?_ ?_
  ·
   rintro _ _ ⟨_, _, ⟨rfl, S4, l4, hR4, hQ4, v4, H4, hs4, rfl⟩, rfl, rfl⟩; infer_instance
  rintro _ _ ⟨_, _, ⟨rfl, S4, l4, hR4, hQ4, v4, H4, hs4, rfl⟩, rfl, rfl⟩
  refine AnyH.app ?_
  refine AnyH.done (by kernel_rfl) ?_
  refine Ends.seq ?_
  refine Wp.seq ?_
  refine AnyH.start ((b6, .cells [.int .i64 (-1), .int .i64 0].toArray 31) :: (b2, .cells [.int .i64 vo.1, .int .i64 vo.2].toArray 31) :: []) 6 rfl ?_
  refine Tk 0 rfl rfl (pv_move rfl) rfl ?_
  refine Tk 1 rfl rfl (pv_nilCheck rfl) rfl ?_
  refine Tk 2 rfl rfl (pv_fieldAddr0 rfl rfl) rfl ?_
  refine Tk 3 rfl rfl (pv_loadK [_, _] rfl rfl rfl ⟨rfl, rfl, trivial⟩) rfl ?_
  refine Tk 4 rfl rfl (pv_loadK [_, _] rfl rfl rfl ⟨rfl, rfl, trivial⟩) rfl ?_
  refine AnyH.one 5 (by kernel_rfl) ?_
  refine Turn.ef rfl rfl (ef_call (tr_gMove (uS := v4) (F := p.F) ⟨w0, K0, ht0, rfl⟩ hok.nd hl vo (-1, 0)) rfl rfl) ?_ ?_
  ·
   rintro _ _ ⟨_, _, ⟨rfl, w1, K1, ht1, rfl⟩, rfl, rfl⟩; infer_instance
  rintro _ _ ⟨_, _, ⟨rfl, w1, K1, ht1, rfl⟩, rfl, rfl⟩
  refine AnyH.app ?_
  refine AnyH.done (by kernel_rfl) ?_
  refine Ends.seq ?_
  refine Wp.seq ?_
  refine AnyH.start ((b2, .cells [.int .i64 vo.1, .int .i64 vo.2].toArray 31) :: (b3, .cells [.int .i64 so.1, .int .i64 so.2].toArray 31) :: []) 6 rfl ?_
  refine Tk 0 rfl rfl (pv_move rfl) rfl ?_
  refine Tk 1 rfl rfl (pv_nilCheck rfl) rfl ?_
  refine Tk 2 rfl rfl (pv_fieldAddr0 rfl rfl) rfl ?_
  refine Tk 3 rfl rfl (pv_loadK [_, _] rfl rfl rfl ⟨rfl, rfl, trivial⟩) rfl ?_
  refine Tk 4 rfl rfl (pv_loadK [_, _] rfl rfl rfl ⟨rfl, rfl, trivial⟩) rfl ?_
  refine AnyH.one 5 (by kernel_rfl) ?_
  refine Turn.ef rfl rfl (ef_call (tr_gMove (uS := v4) (F := (ftMove p.F vo (-1, 0)).2) ⟨w1, K1, ht1, rfl⟩ (ftMove_nd hok.nd) (by rw [ftMove_len]; exact hl) so vo) rfl rfl) ?_ ?_
  ·
   rintro _ _ ⟨_, _, ⟨rfl, w2, K2, ht2, rfl⟩, rfl, rfl⟩; infer_instance
  rintro _ _ ⟨_, _, ⟨rfl, w2, K2, ht2, rfl⟩, rfl, rfl⟩
  refine AnyH.app ?_
  refine AnyH.done (by kernel_rfl) ?_
  refine Ends.seq ?_
  refine Wp.seq ?_
  refine AnyH.start ((b6, .cells [.int .i64 (-1), .int .i64 0].toArray 31) :: (b1, .cells [.int .i64 de.1, .int .i64 de.2].toArray 31) :: []) 6 rfl ?_
  refine Tk 0 rfl rfl (pv_move rfl) rfl ?_
  refine Tk 1 rfl rfl (pv_nilCheck rfl) rfl ?_
  refine Tk 2 rfl rfl (pv_fieldAddr0 rfl rfl) rfl ?_
  refine Tk 3 rfl rfl (pv_loadK [_, _] rfl rfl rfl ⟨rfl, rfl, trivial⟩) rfl ?_
  refine Tk 4 rfl rfl (pv_loadK [_, _] rfl rfl rfl ⟨rfl, rfl, trivial⟩) rfl ?_
  refine AnyH.one 5 (by kernel_rfl) ?_
  refine Turn.ef rfl rfl (ef_call (tr_gMove (uS := v4) (F := (ftMove (ftMove p.F vo (-1, 0)).2 so vo).2) ⟨w2, K2, ht2, rfl⟩ (ftMove_nd (ftMove_nd hok.nd)) (by rw [ftMove_len, ftMove_len]; exact hl) (-1, 0) de) rfl rfl) ?_ ?_
  ·
   rintro _ _ ⟨_, _, ⟨rfl, w3, K3, ht3, rfl⟩, rfl, rfl⟩; infer_instance
  rintro _ _ ⟨_, _, ⟨rfl, w3, K3, ht3, rfl⟩, rfl, rfl⟩
  refine AnyH.app ?_
  refine AnyH.done (by kernel_rfl) ?_
  refine Ends.seq ?_
  refine Wr ?_
  refine Oa1 rfl rfl ?_
  refine On ?_
  refine Wp.ret ?_
  rw [hm]
  exact Ends.ret (L' := dcBlk qb v4 w3 :: (H4 ++ (dCaps l4 ++ K3))) (res1 rfl rfl) ⟨rfl, S4, l4, v4, H4, w3, K3, hR4, hQ4, hs4, ht3, rfl⟩
 refine Wp.skip ?_
 refine Ends.seq ?_
 refine Wp.seq ?_
 refine Wr ?_
 refine Om1 rfl rfl ?_
 refine Ops.pv (pv_neq rfl rfl) rfl ?_
 refine On ?_
 refine Wp.cond_dect rfl (fun h6 => ?_) (fun h6 => ?_)
 ·
  refine Wr ?_
  refine Om1 rfl rfl ?_
  refine Oa1 rfl rfl ?_
  refine On ?_
  refine Wp.ret ?_
  refine Ends.then_ret ?_
  have he0 : mRotE p de so = (mSource p so).2 := by unfold mRotE; rw [if_neg (by assumption)]
  have he : mRotate p de vo so = (mRotE p de so, p) := by unfold mRotate; rw [if_neg (by assumption), if_neg (by assumption), if_pos (by rw [he0]; assumption)]
  rw [he, he0]
  exact Ends.ret (L' := (dcBlk qb v0 w0 :: (H0 ++ (dCaps l0 ++ K0)))) (res1 rfl rfl) ⟨rfl, S0, l0, v0, H0, w0, K0, hR0, hQ0, hs0, ht0, rfl⟩
 have he0 : mRotE p de so = 0 := by unfold mRotE; rw [if_neg (by assumption)]; exact Decidable.not_not.1 (by assumption)
 have hv0 : (mSource p vo).2 = 0 := Decidable.not_not.1 (by assumption)
 have hne : ¬ (vo = de ∨ vo = so) := by assumption
 obtain ⟨kv0, kv, _⟩ := src_ok hv0
 obtain ⟨ks, ks0, hd⟩ := rotE_ok he0
 have hm : mRotate p de vo so = (0, ⟨mRotL p.l de vo so (mSource p vo).1 (mSource p so).1, mRotF p.F de vo so⟩) := by unfold mRotate; rw [if_neg hne, if_neg (fun e => e hv0), if_neg (fun e => e he0)]
 refine Wp.skip ?_
 refine Ends.seq ?_
 refine Wp.seq ?_
 refine Wr ?_
 refine Ops.pv (pv_loadK [_, _] rfl rfl rfl ⟨rfl, rfl, trivial⟩) rfl ?_
 refine Ops.pv (pv_loadK [_, _] rfl rfl rfl ⟨rfl, rfl, trivial⟩) rfl ?_
 refine Ops.pv (pv_neq_slot rfl rfl) rfl ?_
 refine On ?_
 refine Wp.cond_dect rfl (fun h7 => ?_) (fun h7 => ?_)
 ·
  have hd2 := hd.resolve_left (by assumption)
  have hok1 : POk (mCarry p vo de (mSource p vo).1) := by rw [kv0]; exact hok.carry kv hd2.1 hd2.2 (hok.rel.check kv) kv
  have hl1 : (mCarry p vo de (mSource p vo).1).F.all.length ≤ 2 ^ 20 := by rw [carry_len]; exact hl
  refine Wr ?_
  refine Om1 rfl rfl ?_
  refine Ops.pv (pv_loadK [_, _] rfl rfl rfl ⟨rfl, rfl, trivial⟩) rfl ?_
  refine Ops.pv (pv_loadK [_, _] rfl rfl rfl ⟨rfl, rfl, trivial⟩) rfl ?_
  refine Ops.pv (pv_loadK [_, _, _, _, _, _] rfl rfl rfl ⟨rfl, rfl, rfl, rfl, rfl, rfl, trivial⟩) rfl ?_
  refine Ops.ef rfl (ef_call (tr_dCarry qb (dcBlk qb v0 w0 :: (H0 ++ (dCaps l0 ++ K0))) p hH0 hok hl vo de (mSource p vo).1 hsv) rfl rfl) ?_
  rintro _ _ ⟨_, Q3, ⟨rfl, hH2⟩, rfl, rfl⟩
  refine Ops.app ?_
  skip
  refine On ?_
  refine Wr ?_
  refine Om1 rfl rfl ?_
  refine Ops.pv (pv_loadK [_, _] rfl rfl rfl ⟨rfl, rfl, trivial⟩) rfl ?_
  refine Ops.pv (pv_loadK [_, _] rfl rfl rfl ⟨rfl, rfl, trivial⟩) rfl ?_
  refine Ops.pv (pv_loadK [_, _, _, _, _, _] rfl rfl rfl ⟨rfl, rfl, rfl, rfl, rfl, rfl, trivial⟩) rfl ?_
  refine Ops.ef rfl (ef_call (tr_dCarry qb Q3 (mCarry p vo de (mSource p vo).1) hH2 hok1 hl1 so vo (mSource p so).1 hss) rfl rfl) ?_
  rintro _ _ ⟨_, Q4, ⟨rfl, hH3⟩, rfl, rfl⟩
  refine Ops.app ?_
  skip
  refine On ?_
  refine Wr ?_
  refine Oa1 rfl rfl ?_
  refine On ?_
  refine Wp.ret ?_
  refine Ends.then_ret ?_
  have hrd := rot_doc hok kv ks (fun e => hne (.inr e)) (fun e => hne (.inl e)) (by assumption) hd2.1 hd2.2
  rw [← kv0, ← ks0] at hrd
  rw [hrd] at hH3
  rw [hm]
  exact Ends.ret (L' := Q4) (res1 rfl rfl) ⟨rfl, hH3⟩
 refine Wp.skip ?_
 refine Ends.seq ?_
 refine Wr ?_
 refine Ops.pv (pv_build rfl) rfl ?_
 refine Ops.ef rfl (ef_allocK tyZ31 rfl) ?_
 rintro _ _ ⟨b7, rfl, rfl⟩
 refine Ops.ef rfl (ef_storeK rfl rfl rfl rfl) ?_
 rintro _ _ ⟨rfl, rfl⟩
 refine On ?_
 refine Wp.seq ?_
 refine AnyH.start ((b2, .cells [.int .i64 vo.1, .int .i64 vo.2].toArray 31) :: []) 5 rfl ?_
 refine Tk 0 rfl rfl (pv_move rfl) rfl ?_
 refine Tk 1 rfl rfl (pv_nilCheck rfl) rfl ?_
 refine Tk 2 rfl rfl (pv_fieldAddr0 rfl rfl) rfl ?_
 refine Tk 3 rfl rfl (pv_loadK [_, _] rfl rfl rfl ⟨rfl, rfl, trivial⟩) rfl ?_
 refine AnyH.one 4 (by kernel_rfl) ?_
 refine Turn.ef rfl rfl (ef_call (dsf_take (uT := w0) ⟨S0, l0, hR0, hQ0, v0, H0, hs0, rfl⟩ vo) rfl rfl) ?_ ?_
 ·
  rintro _ _ ⟨_, _, ⟨rfl, S5, l5, hR5, hQ5, v5, H5, hs5, rfl⟩, rfl, rfl⟩; infer_instance
 rintro _ _ ⟨_, _, ⟨rfl, S5, l5, hR5, hQ5, v5, H5, hs5, rfl⟩, rfl, rfl⟩
 refine AnyH.app ?_
 refine AnyH.done (by kernel_rfl) ?_
 refine Ends.seq ?_
 refine Wp.seq ?_
 refine AnyH.start ((b3, .cells [.int .i64 so.1, .int .i64 so.2].toArray 31) :: []) 5 rfl ?_
 refine Tk 0 rfl rfl (pv_move rfl) rfl ?_
 refine Tk 1 rfl rfl (pv_nilCheck rfl) rfl ?_
 refine Tk 2 rfl rfl (pv_fieldAddr0 rfl rfl) rfl ?_
 refine Tk 3 rfl rfl (pv_loadK [_, _] rfl rfl rfl ⟨rfl, rfl, trivial⟩) rfl ?_
 refine AnyH.one 4 (by kernel_rfl) ?_
 refine Turn.ef rfl rfl (ef_call (dsf_take (uT := w0) ⟨S5, l5, hR5, hQ5, v5, H5, hs5, rfl⟩ so) rfl rfl) ?_ ?_
 ·
  rintro _ _ ⟨_, _, ⟨rfl, S6, l6, hR6, hQ6, v6, H6, hs6, rfl⟩, rfl, rfl⟩; infer_instance
 rintro _ _ ⟨_, _, ⟨rfl, S6, l6, hR6, hQ6, v6, H6, hs6, rfl⟩, rfl, rfl⟩
 refine AnyH.app ?_
 refine AnyH.done (by kernel_rfl) ?_
 refine Ends.seq ?_
 refine Wp.seq ?_
 refine AnyH.start ((b4, .cells (mSource p vo).1.cells.toArray 25) :: (b1, .cells [.int .i64 de.1, .int .i64 de.2].toArray 31) :: []) 6 rfl ?_
 refine Tk 0 rfl rfl (pv_move rfl) rfl ?_
 refine Tk 1 rfl rfl (pv_nilCheck rfl) rfl ?_
 refine Tk 2 rfl rfl (pv_fieldAddr0 rfl rfl) rfl ?_
 refine Tk 3 rfl rfl (pv_loadK [_, _] rfl rfl rfl ⟨rfl, rfl, trivial⟩) rfl ?_
 refine Tk 4 rfl rfl (pv_loadK [_, _, _, _, _, _] rfl rfl rfl ⟨rfl, rfl, rfl, rfl, rfl, rfl, trivial⟩) rfl ?_
 refine AnyH.one 5 (by kernel_rfl) ?_
 refine Turn.ef rfl rfl (ef_call (dsf_put (uT := w0) ⟨S6, l6, hR6, hQ6, v6, H6, hs6, rfl⟩ de (mSource p vo).1 hsv) rfl rfl) ?_ ?_
 ·
  rintro _ _ ⟨_, _, ⟨rfl, S7, l7, hR7, hQ7, v7, H7, hs7, rfl⟩, rfl, rfl⟩; infer_instance
 rintro _ _ ⟨_, _, ⟨rfl, S7, l7, hR7, hQ7, v7, H7, hs7, rfl⟩, rfl, rfl⟩
 refine AnyH.app ?_
 refine AnyH.done (by kernel_rfl) ?_
 refine Ends.seq ?_
 refine Wp.seq ?_
 refine AnyH.start ((b5, .cells (mSource p so).1.cells.toArray 25) :: (b2, .cells [.int .i64 vo.1, .int .i64 vo.2].toArray 31) :: []) 6 rfl ?_
 refine Tk 0 rfl rfl (pv_move rfl) rfl ?_
 refine Tk 1 rfl rfl (pv_nilCheck rfl) rfl ?_
 refine Tk 2 rfl rfl (pv_fieldAddr0 rfl rfl) rfl ?_
 refine Tk 3 rfl rfl (pv_loadK [_, _] rfl rfl rfl ⟨rfl, rfl, trivial⟩) rfl ?_
 refine Tk 4 rfl rfl (pv_loadK [_, _, _, _, _, _] rfl rfl rfl ⟨rfl, rfl, rfl, rfl, rfl, rfl, trivial⟩) rfl ?_
 refine AnyH.one 5 (by kernel_rfl) ?_
 refine Turn.ef rfl rfl (ef_call (dsf_put (uT := w0) ⟨S7, l7, hR7, hQ7, v7, H7, hs7, rfl⟩ vo (mSource p so).1 hss) rfl rfl) ?_ ?_
 ·
  rintro _ _ ⟨_, _, ⟨rfl, S8, l8, hR8, hQ8, v8, H8, hs8, rfl⟩, rfl, rfl⟩; infer_instance
 rintro _ _ ⟨_, _, ⟨rfl, S8, l8, hR8, hQ8, v8, H8, hs8, rfl⟩, rfl, rfl⟩
 refine AnyH.app ?_
 refine AnyH.done (by kernel_rfl) ?_
 refine Ends.seq ?_
 refine Wp.seq ?_
 refine AnyH.start ((b7, .cells [.int .i64 (-1), .int .i64 0].toArray 31) :: (b2, .cells [.int .i64 vo.1, .int .i64 vo.2].toArray 31) :: []) 6 rfl ?_
 refine Tk 0 rfl rfl (pv_move rfl) rfl ?_
 refine Tk 1 rfl rfl (pv_nilCheck rfl) rfl ?_
 refine Tk 2 rfl rfl (pv_fieldAddr0 rfl rfl) rfl ?_
 refine Tk 3 rfl rfl (pv_loadK [_, _] rfl rfl rfl ⟨rfl, rfl, trivial⟩) rfl ?_
 refine Tk 4 rfl rfl (pv_loadK [_, _] rfl rfl rfl ⟨rfl, rfl, trivial⟩) rfl ?_
 refine AnyH.one 5 (by kernel_rfl) ?_
 refine Turn.ef rfl rfl (ef_call (tr_gMove (uS := v8) (F := p.F) ⟨w0, K0, ht0, rfl⟩ hok.nd hl vo (-1, 0)) rfl rfl) ?_ ?_
 ·
  rintro _ _ ⟨_, _, ⟨rfl, w4, K4, ht4, rfl⟩, rfl, rfl⟩; infer_instance
 rintro _ _ ⟨_, _, ⟨rfl, w4, K4, ht4, rfl⟩, rfl, rfl⟩
 refine AnyH.app ?_
 refine AnyH.done (by kernel_rfl) ?_
 refine Ends.seq ?_
 refine Wp.seq ?_
 refine AnyH.start ((b2, .cells [.int .i64 vo.1, .int .i64 vo.2].toArray 31) :: (b3, .cells [.int .i64 so.1, .int .i64 so.2].toArray 31) :: []) 6 rfl ?_
 refine Tk 0 rfl rfl (pv_move rfl) rfl ?_
 refine Tk 1 rfl rfl (pv_nilCheck rfl) rfl ?_
 refine Tk 2 rfl rfl (pv_fieldAddr0 rfl rfl) rfl ?_
 refine Tk 3 rfl rfl (pv_loadK [_, _] rfl rfl rfl ⟨rfl, rfl, trivial⟩) rfl ?_
 refine Tk 4 rfl rfl (pv_loadK [_, _] rfl rfl rfl ⟨rfl, rfl, trivial⟩) rfl ?_
 refine AnyH.one 5 (by kernel_rfl) ?_
 refine Turn.ef rfl rfl (ef_call (tr_gMove (uS := v8) (F := (ftMove p.F vo (-1, 0)).2) ⟨w4, K4, ht4, rfl⟩ (ftMove_nd hok.nd) (by rw [ftMove_len]; exact hl) so vo) rfl rfl) ?_ ?_
 ·
  rintro _ _ ⟨_, _, ⟨rfl, w5, K5, ht5, rfl⟩, rfl, rfl⟩; infer_instance
 rintro _ _ ⟨_, _, ⟨rfl, w5, K5, ht5, rfl⟩, rfl, rfl⟩
 refine AnyH.app ?_
 refine AnyH.done (by kernel_rfl) ?_
 refine Ends.seq ?_
 refine Wp.seq ?_
 refine AnyH.start ((b7, .cells [.int .i64 (-1), .int .i64 0].toArray 31) :: (b1, .cells [.int .i64 de.1, .int .i64 de.2].toArray 31) :: []) 6 rfl ?_
 refine Tk 0 rfl rfl (pv_move rfl) rfl ?_
 refine Tk 1 rfl rfl (pv_nilCheck rfl) rfl ?_
 refine Tk 2 rfl rfl (pv_fieldAddr0 rfl rfl) rfl ?_
 refine Tk 3 rfl rfl (pv_loadK [_, _] rfl rfl rfl ⟨rfl, rfl, trivial⟩) rfl ?_
 refine Tk 4 rfl rfl (pv_loadK [_, _] rfl rfl rfl ⟨rfl, rfl, trivial⟩) rfl ?_
 refine AnyH.one 5 (by kernel_rfl) ?_
 refine Turn.ef rfl rfl (ef_call (tr_gMove (uS := v8) (F := (ftMove (ftMove p.F vo (-1, 0)).2 so vo).2) ⟨w5, K5, ht5, rfl⟩ (ftMove_nd (ftMove_nd hok.nd)) (by rw [ftMove_len, ftMove_len]; exact hl) (-1, 0) de) rfl rfl) ?_ ?_
 ·
  rintro _ _ ⟨_, _, ⟨rfl, w6, K6, ht6, rfl⟩, rfl, rfl⟩; infer_instance
 rintro _ _ ⟨_, _, ⟨rfl, w6, K6, ht6, rfl⟩, rfl, rfl⟩
 refine AnyH.app ?_
 refine AnyH.done (by kernel_rfl) ?_
 refine Ends.seq ?_
 refine Wr ?_
 refine Oa1 rfl rfl ?_
 refine On ?_
 refine Wp.ret ?_
 rw [hm]
 exact Ends.ret (L' := dcBlk qb v8 w6 :: (H8 ++ (dCaps l8 ++ K6))) (res1 rfl rfl) ⟨rfl, S8, l8, v8, H8, w6, K6, hR8, hQ8, hs8, ht6, rfl⟩
section
variable {l : List DN} {sb : Nat} {L : Hp} (hH : StF l sb L) {S : StoreM} (hR : Rel S l) (root : CapM) (p : Nat) (hp : p < 2 ^ 64)
include hH hR hp
end
set_option maxHeartbeats 8000000 in
theorem tr_zAct (n cb qb : Nat) (Lc Ld : Hp) (p : PS) (hC : CapsH n p cb Lc) (hD : DcH p qb Ld) (h : ROk p) (hn : n ≤ 2 ^ 19) (x : OpC) (hxr : x.Rg) : Tr Tryz.prog 7 [cpP cb, .pointer (some ⟨qb, 0, none⟩), .agg x.cells.toArray] (Lc ++ Ld) (fun u L' => u = .bool true ∧ ∃ Lc' Ld', CapsH (n + 1) (actZ p x) cb Lc' ∧ DcH (actZ p x) qb Ld' ∧ L' = Lc' ++ Ld') := by
 have hok := h.ok
 obtain ⟨sb, tb, Ls, Lt, hS, hT, rfl⟩ := hC
 obtain ⟨S0, l0, v0, H0, w0, K0, hR0, hQ0, hs0, ht0, rfl⟩ := hD
 have hl : p.F.all.length ≤ 2 ^ 20 := by have := hT.len; omega
 rw [List.cons_append, List.append_assoc]
 refine Tr.enter Tryz.func7 rfl Tryz.ntmps7 rfl (fun W F => ?_)
 refine Wp.app ?_
 refine Wr ?_
 refine Ops.ef rfl (ef_boxK rfl rfl) ?_
 rintro _ _ ⟨b1, rfl, rfl⟩
 refine Oa1 rfl rfl ?_
 refine On ?_
 refine Wp.seq ?_
 refine Wr ?_
 refine Of1 rfl rfl rfl ?_
 refine Ol1 rfl rfl rfl rfl ?_
 refine On ?_
 refine Wp.block ?_
 refine Wr ?_
 refine Ops.pv (pv_eql rfl rfl) rfl ?_
 refine Oa1 rfl rfl ?_
 refine On ?_
 refine Wp.cond_dect rfl (fun h1 => ?_) (fun h1 => ?_)
 ·
  refine Wp.seq ?_
  refine AnyH.start ((b1, .cells x.cells.toArray 33) :: cBlk cb sb tb :: []) 21 rfl ?_
  refine Tk 0 rfl rfl (pv_move rfl) rfl ?_
  refine Tk 1 rfl rfl (pv_nilCheck rfl) rfl ?_
  refine Tk 2 rfl rfl (pv_fieldAddr0 rfl rfl) rfl ?_
  refine Tk 3 rfl rfl (pv_loadK [_] rfl rfl rfl ⟨rfl, trivial⟩) rfl ?_
  refine Tk 4 rfl rfl (pv_fieldAddr0 rfl rfl) rfl ?_
  refine Tk 5 rfl rfl (pv_fieldAddr rfl rfl) rfl ?_
  refine Tk 6 rfl rfl (pv_load rfl rfl rfl) rfl ?_
  refine Tk 7 rfl rfl (pv_fieldAddr0 rfl rfl) rfl ?_
  refine Tk 8 rfl rfl (pv_load rfl rfl rfl) rfl ?_
  refine Tk 10 rfl rfl (pv_move rfl) rfl ?_
  refine Tk 11 rfl rfl (pv_nilCheck rfl) rfl ?_
  refine Tk 12 rfl rfl (pv_fieldAddr0 rfl rfl) rfl ?_
  refine Tk 13 rfl rfl (pv_fieldAddr0 rfl rfl) rfl ?_
  refine Tk 14 rfl rfl (pv_fieldAddr rfl rfl) rfl ?_
  refine Tk 15 rfl rfl (pv_load rfl rfl rfl) rfl ?_
  refine Tk 16 rfl rfl (pv_fieldAddr0 rfl rfl) rfl ?_
  refine Tk 17 rfl rfl (pv_load rfl rfl rfl) rfl ?_
  refine AnyH.one 9 (by kernel_rfl) ?_
  refine Turn.ef rfl rfl (ef_call (tr_smNode _ sb Ls hS x.a.1 x.n) rfl rfl) ?_ ?_
  ·
   rintro _ _ ⟨_, QC1, ⟨rfl, hS2⟩, rfl, rfl⟩; infer_instance
  rintro _ _ ⟨_, QC1, ⟨rfl, hS2⟩, rfl, rfl⟩
  refine AnyH.app ?_
  skip
  refine AnyH.one 18 (by kernel_rfl) ?_
  refine Turn.ef rfl rfl (ef_call (dsf_add (uT := w0) ⟨S0, l0, hR0, hQ0, v0, H0, hs0, rfl⟩ x.a.1 x.n) rfl rfl) ?_ ?_
  ·
   rintro _ _ ⟨_, _, ⟨rfl, S1, l1, hR1, hQ1, v1, H1, hs1, rfl⟩, rfl, rfl⟩; infer_instance
  rintro _ _ ⟨_, _, ⟨rfl, S1, l1, hR1, hQ1, v1, H1, hs1, rfl⟩, rfl, rfl⟩
  refine AnyH.app ?_
  refine Tk 19 rfl rfl ((pv_eql rfl rfl).tru rfl) rfl ?_
  refine Tk 20 rfl rfl (pv_assign rfl) rfl ?_
  refine AnyH.done (by kernel_rfl) ?_
  refine Ends.seq ?_
  refine Wp.ret ?_
  refine Ends.block_ret ?_
  refine Ends.then_ret ?_
  have ha : actZ p x = (mNode p x.a.1 x.n).2 := by unfold actZ; simp_all
  rw [ha]
  exact Ends.ret (L' := cBlk cb sb tb :: (QC1 ++ (Lt ++ (dcBlk qb v1 w0 :: (H1 ++ (dCaps l1 ++ K0)))))) (res1 rfl rfl) ⟨rfl, _, _, ⟨_, _, _, _, hS2, hT.more (by omega), rfl⟩, ⟨S1, l1, v1, H1, w0, K0, hR1, hQ1, hs1, ht0, rfl⟩, by rw [List.cons_append, List.append_assoc]⟩
 refine Wr ?_
 refine Ops.pv (pv_eql rfl rfl) rfl ?_
 refine Oa1 rfl rfl ?_
 refine On ?_
 refine Wp.cond_dect rfl (fun h2 => ?_) (fun h2 => ?_)
 ·
  refine Wp.seq ?_
  refine AnyH.start ((b1, .cells x.cells.toArray 33) :: cBlk cb sb tb :: []) 17 rfl ?_
  refine Tk 0 rfl rfl (pv_move rfl) rfl ?_
  refine Tk 1 rfl rfl (pv_nilCheck rfl) rfl ?_
  refine Tk 2 rfl rfl (pv_fieldAddr0 rfl rfl) rfl ?_
  refine Tk 3 rfl rfl (pv_loadK [_] rfl rfl rfl ⟨rfl, trivial⟩) rfl ?_
  refine Tk 4 rfl rfl (pv_fieldAddr0 rfl rfl) rfl ?_
  refine Tk 5 rfl rfl (pv_fieldAddr rfl rfl) rfl ?_
  refine Tk 6 rfl rfl (pv_load rfl rfl rfl) rfl ?_
  refine Tk 8 rfl rfl (pv_move rfl) rfl ?_
  refine Tk 9 rfl rfl (pv_nilCheck rfl) rfl ?_
  refine Tk 10 rfl rfl (pv_fieldAddr0 rfl rfl) rfl ?_
  refine Tk 11 rfl rfl (pv_fieldAddr0 rfl rfl) rfl ?_
  refine Tk 12 rfl rfl (pv_fieldAddr rfl rfl) rfl ?_
  refine Tk 13 rfl rfl (pv_load rfl rfl rfl) rfl ?_
  refine AnyH.one 7 (by kernel_rfl) ?_
  refine Turn.ef rfl rfl (ef_call (tr_smClear _ sb Ls hS x.a.1) rfl rfl) ?_ ?_
  ·
   rintro _ _ ⟨_, QC2, ⟨rfl, hS2⟩, rfl, rfl⟩; infer_instance
  rintro _ _ ⟨_, QC2, ⟨rfl, hS2⟩, rfl, rfl⟩
  refine AnyH.app ?_
  skip
  refine AnyH.one 14 (by kernel_rfl) ?_
  refine Turn.ef rfl rfl (ef_call (dsf_drop (uT := w0) ⟨S0, l0, hR0, hQ0, v0, H0, hs0, rfl⟩ x.a.1) rfl rfl) ?_ ?_
  ·
   rintro _ _ ⟨_, _, ⟨rfl, S2, l2, hR2, hQ2, v2, H2, hs2, rfl⟩, rfl, rfl⟩; infer_instance
  rintro _ _ ⟨_, _, ⟨rfl, S2, l2, hR2, hQ2, v2, H2, hs2, rfl⟩, rfl, rfl⟩
  refine AnyH.app ?_
  refine Tk 15 rfl rfl ((pv_eql rfl rfl).tru rfl) rfl ?_
  refine Tk 16 rfl rfl (pv_assign rfl) rfl ?_
  refine AnyH.done (by kernel_rfl) ?_
  refine Ends.seq ?_
  refine Wp.ret ?_
  refine Ends.block_ret ?_
  refine Ends.then_ret ?_
  have ha : actZ p x = (mClear p x.a.1).2 := by unfold actZ; simp_all
  rw [ha]
  exact Ends.ret (L' := cBlk cb sb tb :: (QC2 ++ (Lt ++ (dcBlk qb v2 w0 :: (H2 ++ (dCaps l2 ++ K0)))))) (res1 rfl rfl) ⟨rfl, _, _, ⟨_, _, _, _, hS2, hT.more (by omega), rfl⟩, ⟨S2, l2, v2, H2, w0, K0, hR2, hQ2, hs2, ht0, rfl⟩, by rw [List.cons_append, List.append_assoc]⟩
 refine Wr ?_
 refine Ops.pv (pv_eql rfl rfl) rfl ?_
 refine Oa1 rfl rfl ?_
 refine On ?_
 refine Wp.cond_dect rfl (fun h3 => ?_) (fun h3 => ?_)
 ·
  refine Wp.seq ?_
  refine AnyH.start ((b1, .cells x.cells.toArray 33) :: []) 14 rfl ?_
  refine Tk 0 rfl rfl (pv_move rfl) rfl ?_
  refine Tk 1 rfl rfl (pv_fieldAddr0 rfl rfl) rfl ?_
  refine Tk 2 rfl rfl (pv_loadK [_, _] rfl rfl rfl ⟨rfl, rfl, trivial⟩) rfl ?_
  refine Tk 3 rfl rfl (pv_fieldAddr0 rfl rfl) rfl ?_
  refine Tk 4 rfl rfl (pv_loadK [_, _, _, _, _, _] rfl rfl rfl ⟨rfl, rfl, rfl, rfl, rfl, rfl, trivial⟩) rfl ?_
  refine Tk 6 rfl rfl (pv_move rfl) rfl ?_
  refine Tk 7 rfl rfl (pv_fieldAddr0 rfl rfl) rfl ?_
  refine Tk 8 rfl rfl (pv_loadK [_, _] rfl rfl rfl ⟨rfl, rfl, trivial⟩) rfl ?_
  refine Tk 9 rfl rfl (pv_fieldAddr0 rfl rfl) rfl ?_
  refine Tk 10 rfl rfl (pv_loadK [_, _, _, _, _, _] rfl rfl rfl ⟨rfl, rfl, rfl, rfl, rfl, rfl, trivial⟩) rfl ?_
  refine AnyH.one 5 (by kernel_rfl) ?_
  refine Turn.ef rfl rfl (ef_call (tr_mPlant _ cb _ p ⟨_, _, _, _, hS, hT, rfl⟩ x.a x.c) rfl rfl) ?_ ?_
  ·
   rintro _ _ ⟨_, QC3, ⟨rfl, hC2⟩, rfl, rfl⟩; infer_instance
  rintro _ _ ⟨_, QC3, ⟨rfl, hC2⟩, rfl, rfl⟩
  refine AnyH.app ?_
  skip
  refine AnyH.one 11 (by kernel_rfl) ?_
  refine Turn.ef rfl rfl (ef_call (tr_dPlant qb _ p ⟨S0, l0, v0, H0, w0, K0, hR0, hQ0, hs0, ht0, rfl⟩ hok hl x.a x.c hxr.c) rfl rfl) ?_ ?_
  ·
   rintro _ _ ⟨_, QD1, ⟨rfl, hD2⟩, rfl, rfl⟩; infer_instance
  rintro _ _ ⟨_, QD1, ⟨rfl, hD2⟩, rfl, rfl⟩
  refine AnyH.app ?_
  skip
  refine Tk 12 rfl rfl ((pv_eql rfl rfl).tru rfl) rfl ?_
  refine Tk 13 rfl rfl (pv_assign rfl) rfl ?_
  refine AnyH.done (by kernel_rfl) ?_
  refine Ends.seq ?_
  refine Wp.ret ?_
  refine Ends.block_ret ?_
  refine Ends.then_ret ?_
  have ha : actZ p x = (mPlant p x.a x.c).2 := by unfold actZ; simp_all
  rw [ha]
  exact Ends.ret (L' := QC3 ++ QD1) (res1 rfl rfl) ⟨rfl, _, _, hC2.more (by omega), hD2, rfl⟩
 refine Wr ?_
 refine Ops.pv (pv_eql rfl rfl) rfl ?_
 refine Oa1 rfl rfl ?_
 refine On ?_
 refine Wp.cond_dect rfl (fun h4 => ?_) (fun h4 => ?_)
 ·
  refine Wp.seq ?_
  refine AnyH.start ((b1, .cells x.cells.toArray 33) :: []) 18 rfl ?_
  refine Tk 0 rfl rfl (pv_move rfl) rfl ?_
  refine Tk 1 rfl rfl (pv_fieldAddr0 rfl rfl) rfl ?_
  refine Tk 2 rfl rfl (pv_loadK [_, _] rfl rfl rfl ⟨rfl, rfl, trivial⟩) rfl ?_
  refine Tk 3 rfl rfl (pv_fieldAddr0 rfl rfl) rfl ?_
  refine Tk 4 rfl rfl (pv_loadK [_, _] rfl rfl rfl ⟨rfl, rfl, trivial⟩) rfl ?_
  refine Tk 5 rfl rfl (pv_fieldAddr0 rfl rfl) rfl ?_
  refine Tk 6 rfl rfl (pv_loadK [_, _, _, _, _, _] rfl rfl rfl ⟨rfl, rfl, rfl, rfl, rfl, rfl, trivial⟩) rfl ?_
  refine Tk 8 rfl rfl (pv_move rfl) rfl ?_
  refine Tk 9 rfl rfl (pv_fieldAddr0 rfl rfl) rfl ?_
  refine Tk 10 rfl rfl (pv_loadK [_, _] rfl rfl rfl ⟨rfl, rfl, trivial⟩) rfl ?_
  refine Tk 11 rfl rfl (pv_fieldAddr0 rfl rfl) rfl ?_
  refine Tk 12 rfl rfl (pv_loadK [_, _] rfl rfl rfl ⟨rfl, rfl, trivial⟩) rfl ?_
  refine Tk 13 rfl rfl (pv_fieldAddr0 rfl rfl) rfl ?_
  refine Tk 14 rfl rfl (pv_loadK [_, _, _, _, _, _] rfl rfl rfl ⟨rfl, rfl, rfl, rfl, rfl, rfl, trivial⟩) rfl ?_
  refine AnyH.one 7 (by kernel_rfl) ?_
  refine Turn.ef rfl rfl (ef_call (tr_mChild _ cb _ p ⟨_, _, _, _, hS, hT, rfl⟩ (by omega) x.a x.b x.c) rfl rfl) ?_ ?_
  ·
   rintro _ _ ⟨_, QC4, ⟨rfl, hC2⟩, rfl, rfl⟩; infer_instance
  rintro _ _ ⟨_, QC4, ⟨rfl, hC2⟩, rfl, rfl⟩
  refine AnyH.app ?_
  skip
  refine AnyH.one 15 (by kernel_rfl) ?_
  refine Turn.ef rfl rfl (ef_call (tr_dChild qb _ p ⟨S0, l0, v0, H0, w0, K0, hR0, hQ0, hs0, ht0, rfl⟩ hok hl x.a x.b x.c hxr.c) rfl rfl) ?_ ?_
  ·
   rintro _ _ ⟨_, QD2, ⟨rfl, hD2⟩, rfl, rfl⟩; infer_instance
  rintro _ _ ⟨_, QD2, ⟨rfl, hD2⟩, rfl, rfl⟩
  refine AnyH.app ?_
  skip
  refine Tk 16 rfl rfl ((pv_eql rfl rfl).tru rfl) rfl ?_
  refine Tk 17 rfl rfl (pv_assign rfl) rfl ?_
  refine AnyH.done (by kernel_rfl) ?_
  refine Ends.seq ?_
  refine Wp.ret ?_
  refine Ends.block_ret ?_
  refine Ends.then_ret ?_
  have ha : actZ p x = (mChild p x.a x.b x.c).2 := by unfold actZ; simp_all
  rw [ha]
  exact Ends.ret (L' := QC4 ++ QD2) (res1 rfl rfl) ⟨rfl, _, _, hC2.more (by omega), hD2, rfl⟩
 refine Wr ?_
 refine Ops.pv (pv_eql rfl rfl) rfl ?_
 refine Oa1 rfl rfl ?_
 refine On ?_
 refine Wp.cond_dect rfl (fun h5 => ?_) (fun h5 => ?_)
 ·
  refine Wp.seq ?_
  refine AnyH.start ((b1, .cells x.cells.toArray 33) :: []) 18 rfl ?_
  refine Tk 0 rfl rfl (pv_move rfl) rfl ?_
  refine Tk 1 rfl rfl (pv_fieldAddr0 rfl rfl) rfl ?_
  refine Tk 2 rfl rfl (pv_loadK [_, _] rfl rfl rfl ⟨rfl, rfl, trivial⟩) rfl ?_
  refine Tk 3 rfl rfl (pv_fieldAddr0 rfl rfl) rfl ?_
  refine Tk 4 rfl rfl (pv_loadK [_, _] rfl rfl rfl ⟨rfl, rfl, trivial⟩) rfl ?_
  refine Tk 5 rfl rfl (pv_fieldAddr0 rfl rfl) rfl ?_
  refine Tk 6 rfl rfl (pv_load rfl rfl rfl) rfl ?_
  refine Tk 8 rfl rfl (pv_move rfl) rfl ?_
  refine Tk 9 rfl rfl (pv_fieldAddr0 rfl rfl) rfl ?_
  refine Tk 10 rfl rfl (pv_loadK [_, _] rfl rfl rfl ⟨rfl, rfl, trivial⟩) rfl ?_
  refine Tk 11 rfl rfl (pv_fieldAddr0 rfl rfl) rfl ?_
  refine Tk 12 rfl rfl (pv_loadK [_, _] rfl rfl rfl ⟨rfl, rfl, trivial⟩) rfl ?_
  refine Tk 13 rfl rfl (pv_fieldAddr0 rfl rfl) rfl ?_
  refine Tk 14 rfl rfl (pv_load rfl rfl rfl) rfl ?_
  refine AnyH.one 7 (by kernel_rfl) ?_
  refine Turn.ef rfl rfl (ef_call (tr_mCopy _ cb _ p ⟨_, _, _, _, hS, hT, rfl⟩ (by omega) x.a x.b x.rights) rfl rfl) ?_ ?_
  ·
   rintro _ _ ⟨_, QC5, ⟨rfl, hC2⟩, rfl, rfl⟩; infer_instance
  rintro _ _ ⟨_, QC5, ⟨rfl, hC2⟩, rfl, rfl⟩
  refine AnyH.app ?_
  skip
  refine AnyH.one 15 (by kernel_rfl) ?_
  refine Turn.ef rfl rfl (ef_call (tr_dCopy qb _ p ⟨S0, l0, v0, H0, w0, K0, hR0, hQ0, hs0, ht0, rfl⟩ hok hl h.rg x.a x.b x.rights hxr.rights) rfl rfl) ?_ ?_
  ·
   rintro _ _ ⟨_, QD3, ⟨rfl, hD2⟩, rfl, rfl⟩; infer_instance
  rintro _ _ ⟨_, QD3, ⟨rfl, hD2⟩, rfl, rfl⟩
  refine AnyH.app ?_
  skip
  refine Tk 16 rfl rfl ((pv_eql rfl rfl).tru rfl) rfl ?_
  refine Tk 17 rfl rfl (pv_assign rfl) rfl ?_
  refine AnyH.done (by kernel_rfl) ?_
  refine Ends.seq ?_
  refine Wp.ret ?_
  refine Ends.block_ret ?_
  refine Ends.then_ret ?_
  have ha : actZ p x = (mCopy p x.a x.b x.rights).2 := by unfold actZ; simp_all
  rw [ha]
  exact Ends.ret (L' := QC5 ++ QD3) (res1 rfl rfl) ⟨rfl, _, _, hC2.more (by omega), hD2, rfl⟩
 refine Wr ?_
 refine Ops.pv (pv_eql rfl rfl) rfl ?_
 refine Oa1 rfl rfl ?_
 refine On ?_
 refine Wp.cond_dect rfl (fun h6 => ?_) (fun h6 => ?_)
 ·
  refine Wp.seq ?_
  refine AnyH.start ((b1, .cells x.cells.toArray 33) :: []) 30 rfl ?_
  refine Tk 0 rfl rfl (pv_move rfl) rfl ?_
  refine Tk 1 rfl rfl (pv_fieldAddr0 rfl rfl) rfl ?_
  refine Tk 2 rfl rfl (pv_loadK [_, _] rfl rfl rfl ⟨rfl, rfl, trivial⟩) rfl ?_
  refine Tk 3 rfl rfl (pv_fieldAddr0 rfl rfl) rfl ?_
  refine Tk 4 rfl rfl (pv_loadK [_, _] rfl rfl rfl ⟨rfl, rfl, trivial⟩) rfl ?_
  refine Tk 5 rfl rfl (pv_fieldAddr0 rfl rfl) rfl ?_
  refine Tk 6 rfl rfl (pv_load rfl rfl rfl) rfl ?_
  refine Tk 7 rfl rfl (pv_fieldAddr0 rfl rfl) rfl ?_
  refine Tk 8 rfl rfl (pv_load rfl rfl rfl) rfl ?_
  refine Tk 9 rfl rfl (pv_fieldAddr0 rfl rfl) rfl ?_
  refine Tk 10 rfl rfl (pv_load rfl rfl rfl) rfl ?_
  refine Tk 11 rfl rfl (pv_fieldAddr0 rfl rfl) rfl ?_
  refine Tk 12 rfl rfl (pv_load rfl rfl rfl) rfl ?_
  refine Tk 14 rfl rfl (pv_move rfl) rfl ?_
  refine Tk 15 rfl rfl (pv_fieldAddr0 rfl rfl) rfl ?_
  refine Tk 16 rfl rfl (pv_loadK [_, _] rfl rfl rfl ⟨rfl, rfl, trivial⟩) rfl ?_
  refine Tk 17 rfl rfl (pv_fieldAddr0 rfl rfl) rfl ?_
  refine Tk 18 rfl rfl (pv_loadK [_, _] rfl rfl rfl ⟨rfl, rfl, trivial⟩) rfl ?_
  refine Tk 19 rfl rfl (pv_fieldAddr0 rfl rfl) rfl ?_
  refine Tk 20 rfl rfl (pv_load rfl rfl rfl) rfl ?_
  refine Tk 21 rfl rfl (pv_fieldAddr0 rfl rfl) rfl ?_
  refine Tk 22 rfl rfl (pv_load rfl rfl rfl) rfl ?_
  refine Tk 23 rfl rfl (pv_fieldAddr0 rfl rfl) rfl ?_
  refine Tk 24 rfl rfl (pv_load rfl rfl rfl) rfl ?_
  refine Tk 25 rfl rfl (pv_fieldAddr0 rfl rfl) rfl ?_
  refine Tk 26 rfl rfl (pv_load rfl rfl rfl) rfl ?_
  refine AnyH.one 13 (by kernel_rfl) ?_
  refine Turn.ef rfl rfl (ef_call (tr_mMint _ cb _ p ⟨_, _, _, _, hS, hT, rfl⟩ (by omega) x.a x.b x.rights x.badge x.guard x.bits) rfl rfl) ?_ ?_
  ·
   rintro _ _ ⟨_, QC6, ⟨rfl, hC2⟩, rfl, rfl⟩; infer_instance
  rintro _ _ ⟨_, QC6, ⟨rfl, hC2⟩, rfl, rfl⟩
  refine AnyH.app ?_
  skip
  refine AnyH.one 27 (by kernel_rfl) ?_
  refine Turn.ef rfl rfl (ef_call (tr_dMint qb _ p ⟨S0, l0, v0, H0, w0, K0, hR0, hQ0, hs0, ht0, rfl⟩ hok hl h.rg x.a x.b x.rights x.badge x.guard x.bits hxr.rights hxr.badge hxr.guard) rfl rfl) ?_ ?_
  ·
   rintro _ _ ⟨_, QD4, ⟨rfl, hD2⟩, rfl, rfl⟩; infer_instance
  rintro _ _ ⟨_, QD4, ⟨rfl, hD2⟩, rfl, rfl⟩
  refine AnyH.app ?_
  skip
  refine Tk 28 rfl rfl ((pv_eql rfl rfl).tru rfl) rfl ?_
  refine Tk 29 rfl rfl (pv_assign rfl) rfl ?_
  refine AnyH.done (by kernel_rfl) ?_
  refine Ends.seq ?_
  refine Wp.ret ?_
  refine Ends.block_ret ?_
  refine Ends.then_ret ?_
  have ha : actZ p x = (mMint p x.a x.b x.rights x.badge x.guard x.bits).2 := by unfold actZ; simp_all
  rw [ha]
  exact Ends.ret (L' := QC6 ++ QD4) (res1 rfl rfl) ⟨rfl, _, _, hC2.more (by omega), hD2, rfl⟩
 refine Wr ?_
 refine Ops.pv (pv_eql rfl rfl) rfl ?_
 refine Oa1 rfl rfl ?_
 refine On ?_
 refine Wp.cond_dect rfl (fun h7 => ?_) (fun h7 => ?_)
 ·
  refine Wp.seq ?_
  refine AnyH.start ((b1, .cells x.cells.toArray 33) :: []) 14 rfl ?_
  refine Tk 0 rfl rfl (pv_move rfl) rfl ?_
  refine Tk 1 rfl rfl (pv_fieldAddr0 rfl rfl) rfl ?_
  refine Tk 2 rfl rfl (pv_loadK [_, _] rfl rfl rfl ⟨rfl, rfl, trivial⟩) rfl ?_
  refine Tk 3 rfl rfl (pv_fieldAddr0 rfl rfl) rfl ?_
  refine Tk 4 rfl rfl (pv_loadK [_, _] rfl rfl rfl ⟨rfl, rfl, trivial⟩) rfl ?_
  refine Tk 6 rfl rfl (pv_move rfl) rfl ?_
  refine Tk 7 rfl rfl (pv_fieldAddr0 rfl rfl) rfl ?_
  refine Tk 8 rfl rfl (pv_loadK [_, _] rfl rfl rfl ⟨rfl, rfl, trivial⟩) rfl ?_
  refine Tk 9 rfl rfl (pv_fieldAddr0 rfl rfl) rfl ?_
  refine Tk 10 rfl rfl (pv_loadK [_, _] rfl rfl rfl ⟨rfl, rfl, trivial⟩) rfl ?_
  refine AnyH.one 5 (by kernel_rfl) ?_
  refine Turn.ef rfl rfl (ef_call (tr_mMove _ cb _ p ⟨_, _, _, _, hS, hT, rfl⟩ x.a x.b) rfl rfl) ?_ ?_
  ·
   rintro _ _ ⟨_, QC7, ⟨rfl, hC2⟩, rfl, rfl⟩; infer_instance
  rintro _ _ ⟨_, QC7, ⟨rfl, hC2⟩, rfl, rfl⟩
  refine AnyH.app ?_
  skip
  refine AnyH.one 11 (by kernel_rfl) ?_
  refine Turn.ef rfl rfl (ef_call (tr_dMove qb _ p ⟨S0, l0, v0, H0, w0, K0, hR0, hQ0, hs0, ht0, rfl⟩ hok hl h.rg x.a x.b) rfl rfl) ?_ ?_
  ·
   rintro _ _ ⟨_, QD5, ⟨rfl, hD2⟩, rfl, rfl⟩; infer_instance
  rintro _ _ ⟨_, QD5, ⟨rfl, hD2⟩, rfl, rfl⟩
  refine AnyH.app ?_
  skip
  refine Tk 12 rfl rfl ((pv_eql rfl rfl).tru rfl) rfl ?_
  refine Tk 13 rfl rfl (pv_assign rfl) rfl ?_
  refine AnyH.done (by kernel_rfl) ?_
  refine Ends.seq ?_
  refine Wp.ret ?_
  refine Ends.block_ret ?_
  refine Ends.then_ret ?_
  have ha : actZ p x = (mMove p x.a x.b).2 := by unfold actZ; simp_all
  rw [ha]
  exact Ends.ret (L' := QC7 ++ QD5) (res1 rfl rfl) ⟨rfl, _, _, hC2.more (by omega), hD2, rfl⟩
 refine Wr ?_
 refine Ops.pv (pv_eql rfl rfl) rfl ?_
 refine Oa1 rfl rfl ?_
 refine On ?_
 refine Wp.cond_dect rfl (fun h8 => ?_) (fun h8 => ?_)
 ·
  refine Wp.seq ?_
  refine AnyH.start ((b1, .cells x.cells.toArray 33) :: []) 22 rfl ?_
  refine Tk 0 rfl rfl (pv_move rfl) rfl ?_
  refine Tk 1 rfl rfl (pv_fieldAddr0 rfl rfl) rfl ?_
  refine Tk 2 rfl rfl (pv_loadK [_, _] rfl rfl rfl ⟨rfl, rfl, trivial⟩) rfl ?_
  refine Tk 3 rfl rfl (pv_fieldAddr0 rfl rfl) rfl ?_
  refine Tk 4 rfl rfl (pv_loadK [_, _] rfl rfl rfl ⟨rfl, rfl, trivial⟩) rfl ?_
  refine Tk 5 rfl rfl (pv_fieldAddr0 rfl rfl) rfl ?_
  refine Tk 6 rfl rfl (pv_load rfl rfl rfl) rfl ?_
  refine Tk 7 rfl rfl (pv_fieldAddr0 rfl rfl) rfl ?_
  refine Tk 8 rfl rfl (pv_load rfl rfl rfl) rfl ?_
  refine Tk 10 rfl rfl (pv_move rfl) rfl ?_
  refine Tk 11 rfl rfl (pv_fieldAddr0 rfl rfl) rfl ?_
  refine Tk 12 rfl rfl (pv_loadK [_, _] rfl rfl rfl ⟨rfl, rfl, trivial⟩) rfl ?_
  refine Tk 13 rfl rfl (pv_fieldAddr0 rfl rfl) rfl ?_
  refine Tk 14 rfl rfl (pv_loadK [_, _] rfl rfl rfl ⟨rfl, rfl, trivial⟩) rfl ?_
  refine Tk 15 rfl rfl (pv_fieldAddr0 rfl rfl) rfl ?_
  refine Tk 16 rfl rfl (pv_load rfl rfl rfl) rfl ?_
  refine Tk 17 rfl rfl (pv_fieldAddr0 rfl rfl) rfl ?_
  refine Tk 18 rfl rfl (pv_load rfl rfl rfl) rfl ?_
  refine AnyH.one 9 (by kernel_rfl) ?_
  refine Turn.ef rfl rfl (ef_call (tr_mMutate _ cb _ p ⟨_, _, _, _, hS, hT, rfl⟩ x.a x.b x.guard x.bits) rfl rfl) ?_ ?_
  ·
   rintro _ _ ⟨_, QC8, ⟨rfl, hC2⟩, rfl, rfl⟩; infer_instance
  rintro _ _ ⟨_, QC8, ⟨rfl, hC2⟩, rfl, rfl⟩
  refine AnyH.app ?_
  skip
  refine AnyH.one 19 (by kernel_rfl) ?_
  refine Turn.ef rfl rfl (ef_call (tr_dMutate qb _ p ⟨S0, l0, v0, H0, w0, K0, hR0, hQ0, hs0, ht0, rfl⟩ hok hl h.rg x.a x.b x.guard x.bits hxr.guard) rfl rfl) ?_ ?_
  ·
   rintro _ _ ⟨_, QD6, ⟨rfl, hD2⟩, rfl, rfl⟩; infer_instance
  rintro _ _ ⟨_, QD6, ⟨rfl, hD2⟩, rfl, rfl⟩
  refine AnyH.app ?_
  skip
  refine Tk 20 rfl rfl ((pv_eql rfl rfl).tru rfl) rfl ?_
  refine Tk 21 rfl rfl (pv_assign rfl) rfl ?_
  refine AnyH.done (by kernel_rfl) ?_
  refine Ends.seq ?_
  refine Wp.ret ?_
  refine Ends.block_ret ?_
  refine Ends.then_ret ?_
  have ha : actZ p x = (mMutate p x.a x.b x.guard x.bits).2 := by unfold actZ; simp_all
  rw [ha]
  exact Ends.ret (L' := QC8 ++ QD6) (res1 rfl rfl) ⟨rfl, _, _, hC2.more (by omega), hD2, rfl⟩
 refine Wr ?_
 refine Ops.pv (pv_eql rfl rfl) rfl ?_
 refine Oa1 rfl rfl ?_
 refine On ?_
 refine Wp.cond_dect rfl (fun h9 => ?_) (fun h9 => ?_)
 ·
  refine Wp.seq ?_
  refine AnyH.start ((b1, .cells x.cells.toArray 33) :: []) 18 rfl ?_
  refine Tk 0 rfl rfl (pv_move rfl) rfl ?_
  refine Tk 1 rfl rfl (pv_fieldAddr0 rfl rfl) rfl ?_
  refine Tk 2 rfl rfl (pv_loadK [_, _] rfl rfl rfl ⟨rfl, rfl, trivial⟩) rfl ?_
  refine Tk 3 rfl rfl (pv_fieldAddr0 rfl rfl) rfl ?_
  refine Tk 4 rfl rfl (pv_loadK [_, _] rfl rfl rfl ⟨rfl, rfl, trivial⟩) rfl ?_
  refine Tk 5 rfl rfl (pv_fieldAddr0 rfl rfl) rfl ?_
  refine Tk 6 rfl rfl (pv_loadK [_, _] rfl rfl rfl ⟨rfl, rfl, trivial⟩) rfl ?_
  refine Tk 8 rfl rfl (pv_move rfl) rfl ?_
  refine Tk 9 rfl rfl (pv_fieldAddr0 rfl rfl) rfl ?_
  refine Tk 10 rfl rfl (pv_loadK [_, _] rfl rfl rfl ⟨rfl, rfl, trivial⟩) rfl ?_
  refine Tk 11 rfl rfl (pv_fieldAddr0 rfl rfl) rfl ?_
  refine Tk 12 rfl rfl (pv_loadK [_, _] rfl rfl rfl ⟨rfl, rfl, trivial⟩) rfl ?_
  refine Tk 13 rfl rfl (pv_fieldAddr0 rfl rfl) rfl ?_
  refine Tk 14 rfl rfl (pv_loadK [_, _] rfl rfl rfl ⟨rfl, rfl, trivial⟩) rfl ?_
  refine AnyH.one 7 (by kernel_rfl) ?_
  refine Turn.ef rfl rfl (ef_call (tr_mRotate _ cb _ p ⟨_, _, _, _, hS, hT, rfl⟩ x.a x.b x.d) rfl rfl) ?_ ?_
  ·
   rintro _ _ ⟨_, QC9, ⟨rfl, hC2⟩, rfl, rfl⟩; infer_instance
  rintro _ _ ⟨_, QC9, ⟨rfl, hC2⟩, rfl, rfl⟩
  refine AnyH.app ?_
  skip
  refine AnyH.one 15 (by kernel_rfl) ?_
  refine Turn.ef rfl rfl (ef_call (tr_dRotate qb _ p ⟨S0, l0, v0, H0, w0, K0, hR0, hQ0, hs0, ht0, rfl⟩ hok hl h.rg x.a x.b x.d) rfl rfl) ?_ ?_
  ·
   rintro _ _ ⟨_, QD7, ⟨rfl, hD2⟩, rfl, rfl⟩; infer_instance
  rintro _ _ ⟨_, QD7, ⟨rfl, hD2⟩, rfl, rfl⟩
  refine AnyH.app ?_
  skip
  refine Tk 16 rfl rfl ((pv_eql rfl rfl).tru rfl) rfl ?_
  refine Tk 17 rfl rfl (pv_assign rfl) rfl ?_
  refine AnyH.done (by kernel_rfl) ?_
  refine Ends.seq ?_
  refine Wp.ret ?_
  refine Ends.block_ret ?_
  refine Ends.then_ret ?_
  have ha : actZ p x = (mRotate p x.a x.b x.d).2 := by unfold actZ; simp_all
  rw [ha]
  exact Ends.ret (L' := QC9 ++ QD7) (res1 rfl rfl) ⟨rfl, _, _, hC2.more (by omega), hD2, rfl⟩
 refine Wr ?_
 refine Ops.pv (pv_eql rfl rfl) rfl ?_
 refine Oa1 rfl rfl ?_
 refine On ?_
 refine Wp.cond_dect rfl (fun h10 => ?_) (fun h10 => ?_)
 ·
  refine Wr ?_
  refine Om1 rfl rfl ?_
  refine Of1 rfl rfl rfl ?_
  refine Ops.pv (pv_loadK [_, _] rfl rfl rfl ⟨rfl, rfl, trivial⟩) rfl ?_
  refine Ops.ef rfl (ef_call (tr_mTake _ cb _ p ⟨_, _, _, _, hS, hT, rfl⟩ (by omega) x.a) rfl rfl) ?_
  rintro _ _ ⟨_, QC10, ⟨rfl, hC2⟩, rfl, rfl⟩
  refine Ops.app ?_
  skip
  refine Om1 rfl rfl ?_
  refine Ops.pv (pv_extract rfl rfl) rfl ?_
  refine Ops.pv (pv_extract rfl rfl) rfl ?_
  refine Ops.ef rfl (ef_allocK tyZ25 rfl) ?_
  rintro _ _ ⟨b2, rfl, rfl⟩
  refine Ops.ef rfl (ef_storeK rfl rfl rfl rfl) ?_
  rintro _ _ ⟨rfl, rfl⟩
  refine Oa1 rfl rfl ?_
  refine On ?_
  refine Wr ?_
  refine Om1 rfl rfl ?_
  refine Of1 rfl rfl rfl ?_
  refine Ops.pv (pv_loadK [_, _] rfl rfl rfl ⟨rfl, rfl, trivial⟩) rfl ?_
  refine Ops.ef rfl (ef_call (tr_dTake qb _ p ⟨S0, l0, v0, H0, w0, K0, hR0, hQ0, hs0, ht0, rfl⟩ hok hl x.a) rfl rfl) ?_
  rintro _ _ ⟨_, QD8, ⟨rfl, hD2⟩, rfl, rfl⟩
  refine Ops.app ?_
  skip
  refine Om1 rfl rfl ?_
  refine Ops.pv (pv_extract rfl rfl) rfl ?_
  refine Ops.pv (pv_extract rfl rfl) rfl ?_
  refine Ops.ef rfl (ef_allocK tyZ25 rfl) ?_
  rintro _ _ ⟨b3, rfl, rfl⟩
  refine Ops.ef rfl (ef_storeK rfl rfl rfl rfl) ?_
  rintro _ _ ⟨rfl, rfl⟩
  refine Oa1 rfl rfl ?_
  refine On ?_
  refine Wr ?_
  refine Ops.pv (pv_loadK [_, _, _, _, _, _] rfl rfl rfl ⟨rfl, rfl, rfl, rfl, rfl, rfl, trivial⟩) rfl ?_
  refine Ops.pv (pv_loadK [_, _, _, _, _, _] rfl rfl rfl ⟨rfl, rfl, rfl, rfl, rfl, rfl, trivial⟩) rfl ?_
  refine Ops.pv ((pv_eql_cap (a := (mTake p x.a).1) (b := (mTake p x.a).1) rfl rfl).tru rfl) rfl ?_
  refine Om1 rfl rfl ?_
  refine Ops.pvg ⟨_, _, rfl, rfl, rfl⟩ (pv_move rfl) rfl ?_
  refine Ops.pvg ⟨_, _, rfl, rfl, rfl⟩ (pv_move rfl) rfl ?_
  refine Ops.pvg ⟨_, _, rfl, rfl, rfl⟩ ((pv_eql rfl rfl).tru rfl) rfl ?_
  refine Ops.pv (pv_pick_true rfl rfl) rfl ?_
  refine Oa1 rfl rfl ?_
  refine On ?_
  refine Wp.ret ?_
  refine Ends.block_ret ?_
  refine Ends.then_ret ?_
  have ha : actZ p x = (mTake p x.a).2.2 := by unfold actZ; simp_all
  rw [ha]
  exact Ends.ret (L' := QC10 ++ QD8) (res1 rfl rfl) ⟨rfl, _, _, hC2.more (by omega), hD2, rfl⟩
 refine Wp.skip ?_
 refine Ends.block_normal ?_
 refine Ends.seq ?_
 refine Wr ?_
 refine Oa1 rfl rfl ?_
 refine On ?_
 refine Wp.ret ?_
 have ha : actZ p x = p := by unfold actZ; simp_all
 rw [ha]
 exact Ends.ret (L' := cBlk cb sb tb :: (Ls ++ (Lt ++ (dcBlk qb v0 w0 :: (H0 ++ (dCaps l0 ++ K0)))))) (res1 rfl rfl) ⟨rfl, _, _, ⟨_, _, _, _, hS, hT.more (by omega), rfl⟩, ⟨S0, l0, v0, H0, w0, K0, hR0, hQ0, hs0, ht0, rfl⟩, by rw [List.cons_append, List.append_assoc]⟩
set_option maxHeartbeats 16000000 in
theorem tr_zSame (n cb qb : Nat) (Lc Ld : Hp) (p : PS) (hC : CapsH n p cb Lc) (hD : DcH p qb Ld) (h : ROk p) (hn : n ≤ 2 ^ 19) : TrR Tryz.prog 8 [cpP cb, .pointer (some ⟨qb, 0, none⟩)] (Lc ++ Ld) (.bool true) := by
 have hok := h.ok
 obtain ⟨sb, tb, Ls, Lt, hS, hT, rfl⟩ := hC
 obtain ⟨S0, l0, v0, H0, w0, K0, hR0, hQ0, hs0, ht0, rfl⟩ := hD
 have hl : p.F.all.length ≤ 2 ^ 20 := by have := hT.len; omega
 rw [List.cons_append, List.append_assoc]
 have hfl := hS.full_len
 refine Tr.enter Tryz.func8 rfl Tryz.ntmps8 rfl (fun W F => ?_)
 refine Wp.app ?_
 refine Wr ?_
 refine Oa1 rfl rfl ?_
 refine On ?_
 refine Wr ?_
 refine Om1 rfl rfl ?_
 refine Ops.pv (pv_nilCheck rfl) rfl ?_
 refine Of1 rfl rfl rfl ?_
 refine Ops.ef rfl (ef_call (dsf_full (uT := w0) ⟨S0, l0, hR0, hQ0, v0, H0, hs0, rfl⟩) rfl rfl) ?_
 rintro _ _ ⟨_, _, ⟨E1, hE1, rfl⟩, rfl, rfl⟩
 refine Ops.app ?_
 obtain ⟨pp1, qq1, rfl⟩ := hE1.form
 refine Oa1 rfl rfl ?_
 refine On ?_
 refine Wp.seq ?_
 refine Wr ?_
 refine Om1 rfl rfl ?_
 refine Ops.pv (pv_nilCheck rfl) rfl ?_
 refine Of1 rfl rfl rfl ?_
 refine Of1 rfl rfl rfl ?_
 refine Ol1 rfl rfl rfl rfl ?_
 refine Ops.ef rfl (ef_call (sf_full hS) rfl rfl) ?_
 rintro _ _ ⟨_, _, ⟨C1, hC1, rfl⟩, rfl, rfl⟩
 refine Ops.app ?_
 obtain ⟨pp2, qq2, rfl⟩ := hC1.form
 refine Om1 rfl rfl ?_
 refine Ops.ef rfl (ef_callr ((tr_sameSlots (C1 ++ E1) _ _ _ _ (dfull p.l) (dfull p.l) (hC1.view.mono (by intro p hp; simp [hp])) (hE1.view.mono (by intro p hp; simp [hp])) hfl).eq (r' := .bool true) (by rw [decide_eq_true rfl])) rfl rfl) ?_
 rintro _ _ ⟨rfl, rfl⟩
 refine Ops.pv (pv_not rfl) rfl ?_
 refine On ?_
 refine Wp.cond_false rfl ?_
 refine Wp.skip ?_
 refine Ends.seq ?_
 refine Wp.seq ?_
 refine Wr ?_
 refine Oa1 rfl rfl ?_
 refine On ?_
 refine Wp.block ?_
 refine Wp.loopK (σ := Nat) [(0, _), (1, _), (5, _)] (fun s => [(6, .int .i64 s)]) (fun s => E1 ++ (cBlk cb sb tb :: (Ls ++ (Lt ++ (dcBlk qb v0 w0 :: (H0 ++ (dCaps l0 ++ (K0 ++ F)))))))) (fun s => s ≤ (dfull p.l).length) (fun s => (dfull p.l).length - s) 0 (Nat.zero_le _) ⟨rfl, rfl, rfl, trivial⟩ ⟨rfl, trivial⟩ (by intro w ho; (try dsimp only [List.nil_append, List.cons_append]); exact Drop.own ho) ?_
 rintro i KK hi9 hK
 dsimp only [List.cons_append, List.nil_append] at hK ⊢
 refine Wp.seq ?_
 refine Wr ?_
 refine Om1 rfl rfl ?_
 refine Om1 rfl rfl ?_
 refine Ops.pv (pv_len_slice (T := 53) rfl rfl) rfl ?_
 refine Ops.pv (pv_lss rfl rfl) rfl ?_
 refine On ?_
 refine Wp.cond_dect rfl (fun h1 => ?_) (fun h1 => ?_)
 ·
  obtain ⟨bf, of, cap, cc, T0, f, hv1, hbv, hr⟩ := hE1.view.open (by omega)
  cases hv1
  obtain ⟨sl, hsl⟩ : ∃ s, (dfull p.l)[i]? = some s := ⟨_, List.getElem?_eq_getElem (by omega)⟩
  have hre := hr.sub (i := i * 2) (l := 2)
  rw [slots_reads hsl] at hre
  refine Wp.skip ?_
  refine Ends.seq ?_
  refine Wp.seq ?_
  refine Wp.block ?_
  refine Wp.cutK (σ := Nat) [(0, _), (1, _), (5, _), (6, _)] (fun s => [(7, .pointer (some ⟨s, 0, none⟩)), (8, .int .i64 (dget p.l sl).2)]) (fun s => (s, .cells (dget p.l sl).1.cells.toArray 25) :: (E1 ++ (cBlk cb sb tb :: (Ls ++ (Lt ++ (dcBlk qb v0 w0 :: (H0 ++ (dCaps l0 ++ (K0 ++ F))))))))) (fun s => True) ⟨rfl, rfl, rfl, rfl, trivial⟩ (fun _ KK hC0 => ?_) ?_
  ·
   dsimp only [List.cons_append, List.nil_append] at hC0
   refine AnyH.start (cBlk cb sb tb :: E1) 16 rfl ?_
   refine Tk 0 rfl rfl (pv_move rfl) rfl ?_
   refine Tk 1 rfl rfl (pv_nilCheck rfl) rfl ?_
   refine Tk 2 rfl rfl (pv_fieldAddr0 rfl rfl) rfl ?_
   refine Tk 3 rfl rfl (pv_fieldAddr0 rfl rfl) rfl ?_
   refine Tk 4 rfl rfl (pv_load rfl rfl rfl) rfl ?_
   refine Tk 5 rfl rfl (pv_move rfl) rfl ?_
   refine Tk 6 rfl rfl (pv_move rfl) rfl ?_
   refine Tk 7 rfl rfl (pv_indexAddr (i := i) rfl rfl rfl (by omega)) rfl ?_
   refine Tk 8 rfl rfl (pv_loadK [.int .i64 sl.1, .int .i64 sl.2] rfl rfl rfl hre) rfl ?_
   refine AnyH.two 9 13 (by kernel_rfl) ?_ ?_
   ·
    refine Turn.ef rfl rfl (ef_callr (sf_get hS sl) rfl rfl) ?_ ?_
    ·
     rintro _ _ ⟨rfl, rfl⟩; infer_instance
    rintro _ _ ⟨rfl, rfl⟩
    refine Tk 10 rfl rfl (pv_move rfl) rfl ?_
    refine Tk 11 rfl rfl (pv_extract rfl rfl) rfl ?_
    refine Tk 12 rfl rfl (pv_extract rfl rfl) rfl ?_
    refine AnyH.one 13 (by kernel_rfl) ?_
    refine Turn.ef rfl rfl (ef_allocK tyZ25 rfl) ?_ ?_
    ·
     rintro _ _ ⟨b1, rfl, rfl⟩; infer_instance
    rintro _ _ ⟨b1, rfl, rfl⟩
    refine AnyH.one 14 (by kernel_rfl) ?_
    refine Turn.ef rfl rfl (ef_storeK rfl rfl rfl rfl) ?_ ?_
    ·
     rintro _ _ ⟨rfl, rfl⟩; infer_instance
    rintro _ _ ⟨rfl, rfl⟩
    refine Tk 15 rfl rfl (pv_assign rfl) rfl ?_
    refine AnyH.done (by kernel_rfl) ?_
    refine Ends.goes ?_
    refine Goes.back (hC0 b1 trivial) ⟨rfl, rfl, rfl, rfl, rfl, rfl, trivial⟩
   refine Turn.ef rfl rfl (ef_allocK tyZ25 rfl) ?_ ?_
   ·
    rintro _ _ ⟨b2, rfl, rfl⟩; infer_instance
   rintro _ _ ⟨b2, rfl, rfl⟩
   refine AnyH.one 9 (by kernel_rfl) ?_
   refine Turn.ef rfl rfl (ef_callr (sf_get hS sl) rfl rfl) ?_ ?_
   ·
    rintro _ _ ⟨rfl, rfl⟩; infer_instance
   rintro _ _ ⟨rfl, rfl⟩
   refine Tk 10 rfl rfl (pv_move rfl) rfl ?_
   refine Tk 11 rfl rfl (pv_extract rfl rfl) rfl ?_
   refine Tk 12 rfl rfl (pv_extract rfl rfl) rfl ?_
   refine AnyH.one 14 (by kernel_rfl) ?_
   refine Turn.ef rfl rfl (ef_storeK rfl rfl rfl rfl) ?_ ?_
   ·
    rintro _ _ ⟨rfl, rfl⟩; infer_instance
   rintro _ _ ⟨rfl, rfl⟩
   refine Tk 15 rfl rfl (pv_assign rfl) rfl ?_
   refine AnyH.done (by kernel_rfl) ?_
   refine Ends.goes ?_
   refine Goes.back (hC0 b2 trivial) ⟨rfl, rfl, rfl, rfl, rfl, rfl, trivial⟩
  rintro va _
  dsimp only [List.cons_append, List.nil_append] at ⊢
  refine Wp.cutK (σ := Nat) [(0, _), (1, _), (5, _), (6, _), (7, _), (8, _)] (fun s => [(9, .pointer (some ⟨s, 0, none⟩)), (10, .int .i64 (dget p.l sl).2)]) (fun s => (s, .cells (dget p.l sl).1.cells.toArray 25) :: ((va, .cells (dget p.l sl).1.cells.toArray 25) :: (E1 ++ (cBlk cb sb tb :: (Ls ++ (Lt ++ (dcBlk qb v0 w0 :: (H0 ++ (dCaps l0 ++ (K0 ++ F)))))))))) (fun s => True) ⟨rfl, rfl, rfl, rfl, rfl, rfl, trivial⟩ (fun _ KK hC0 => ?_) ?_
  ·
   dsimp only [List.cons_append, List.nil_append] at hC0
   refine AnyH.start E1 14 rfl ?_
   refine Tk 0 rfl rfl (pv_move rfl) rfl ?_
   refine Tk 1 rfl rfl (pv_nilCheck rfl) rfl ?_
   refine Tk 2 rfl rfl (pv_fieldAddr0 rfl rfl) rfl ?_
   refine Tk 3 rfl rfl (pv_move rfl) rfl ?_
   refine Tk 4 rfl rfl (pv_move rfl) rfl ?_
   refine Tk 5 rfl rfl (pv_indexAddr (i := i) rfl rfl rfl (by omega)) rfl ?_
   refine Tk 6 rfl rfl (pv_loadK [.int .i64 sl.1, .int .i64 sl.2] rfl rfl rfl hre) rfl ?_
   refine AnyH.two 7 11 (by kernel_rfl) ?_ ?_
   ·
    refine Turn.ef rfl rfl (ef_callr (dsf_get (uT := w0) ⟨S0, l0, hR0, hQ0, v0, H0, hs0, rfl⟩ sl) rfl rfl) ?_ ?_
    ·
     rintro _ _ ⟨rfl, rfl⟩; infer_instance
    rintro _ _ ⟨rfl, rfl⟩
    refine Tk 8 rfl rfl (pv_move rfl) rfl ?_
    refine Tk 9 rfl rfl (pv_extract rfl rfl) rfl ?_
    refine Tk 10 rfl rfl (pv_extract rfl rfl) rfl ?_
    refine AnyH.one 11 (by kernel_rfl) ?_
    refine Turn.ef rfl rfl (ef_allocK tyZ25 rfl) ?_ ?_
    ·
     rintro _ _ ⟨b3, rfl, rfl⟩; infer_instance
    rintro _ _ ⟨b3, rfl, rfl⟩
    refine AnyH.one 12 (by kernel_rfl) ?_
    refine Turn.ef rfl rfl (ef_storeK rfl rfl rfl rfl) ?_ ?_
    ·
     rintro _ _ ⟨rfl, rfl⟩; infer_instance
    rintro _ _ ⟨rfl, rfl⟩
    refine Tk 13 rfl rfl (pv_assign rfl) rfl ?_
    refine AnyH.done (by kernel_rfl) ?_
    refine Ends.goes ?_
    refine Goes.back (hC0 b3 trivial) ⟨rfl, rfl, rfl, rfl, rfl, rfl, rfl, rfl, trivial⟩
   refine Turn.ef rfl rfl (ef_allocK tyZ25 rfl) ?_ ?_
   ·
    rintro _ _ ⟨b4, rfl, rfl⟩; infer_instance
   rintro _ _ ⟨b4, rfl, rfl⟩
   refine AnyH.one 7 (by kernel_rfl) ?_
   refine Turn.ef rfl rfl (ef_callr (dsf_get (uT := w0) ⟨S0, l0, hR0, hQ0, v0, H0, hs0, rfl⟩ sl) rfl rfl) ?_ ?_
   ·
    rintro _ _ ⟨rfl, rfl⟩; infer_instance
   rintro _ _ ⟨rfl, rfl⟩
   refine Tk 8 rfl rfl (pv_move rfl) rfl ?_
   refine Tk 9 rfl rfl (pv_extract rfl rfl) rfl ?_
   refine Tk 10 rfl rfl (pv_extract rfl rfl) rfl ?_
   refine AnyH.one 12 (by kernel_rfl) ?_
   refine Turn.ef rfl rfl (ef_storeK rfl rfl rfl rfl) ?_ ?_
   ·
    rintro _ _ ⟨rfl, rfl⟩; infer_instance
   rintro _ _ ⟨rfl, rfl⟩
   refine Tk 13 rfl rfl (pv_assign rfl) rfl ?_
   refine AnyH.done (by kernel_rfl) ?_
   refine Ends.goes ?_
   refine Goes.back (hC0 b4 trivial) ⟨rfl, rfl, rfl, rfl, rfl, rfl, rfl, rfl, trivial⟩
  rintro vb _
  dsimp only [List.cons_append, List.nil_append] at ⊢
  refine Wr ?_
  refine Om1 rfl rfl ?_
  refine Om1 rfl rfl ?_
  refine Om1 rfl rfl ?_
  refine Ops.pv (pv_indexAddr (i := i) rfl rfl rfl (by omega)) rfl ?_
  refine Ops.pv (pv_loadK [.int .i64 sl.1, .int .i64 sl.2] rfl rfl rfl hre) rfl ?_
  refine Ops.ef rfl (ef_callr (tr_mPar _ cb _ p ⟨_, _, _, _, hS, hT, rfl⟩ sl) rfl rfl) ?_
  rintro _ _ ⟨rfl, rfl⟩
  refine Om1 rfl rfl ?_
  refine Ops.pv (pv_extract rfl rfl) rfl ?_
  refine Ops.pv (pv_extract rfl rfl) rfl ?_
  refine Ops.ef rfl (ef_allocK tyZ31 rfl) ?_
  rintro _ _ ⟨b5, rfl, rfl⟩
  refine Ops.ef rfl (ef_storeK rfl rfl rfl rfl) ?_
  rintro _ _ ⟨rfl, rfl⟩
  refine Oa1 rfl rfl ?_
  refine On ?_
  refine Wp.cutK (σ := Nat) [(0, _), (1, _), (5, _), (6, _), (7, _), (8, _), (9, _), (10, _), (11, _), (12, _)] (fun s => [(13, .pointer (some ⟨s, 0, none⟩)), (14, .bool (ftParB p.F sl))]) (fun s => (s, .cells [.int .i64 (ftPar p.F sl).1, .int .i64 (ftPar p.F sl).2].toArray 31) :: (b5, .cells [.int .i64 (ftPar p.F sl).1, .int .i64 (ftPar p.F sl).2].toArray 31) :: ((vb, .cells (dget p.l sl).1.cells.toArray 25) :: ((va, .cells (dget p.l sl).1.cells.toArray 25) :: (E1 ++ (cBlk cb sb tb :: (Ls ++ (Lt ++ (dcBlk qb v0 w0 :: (H0 ++ (dCaps l0 ++ (K0 ++ F))))))))))) (fun s => True) ⟨rfl, rfl, rfl, rfl, rfl, rfl, rfl, rfl, rfl, rfl, trivial⟩ (fun _ KK hC0 => ?_) ?_
  ·
   dsimp only [List.cons_append, List.nil_append] at hC0
   refine AnyH.start E1 14 rfl ?_
   refine Tk 0 rfl rfl (pv_move rfl) rfl ?_
   refine Tk 1 rfl rfl (pv_nilCheck rfl) rfl ?_
   refine Tk 2 rfl rfl (pv_fieldAddr0 rfl rfl) rfl ?_
   refine Tk 3 rfl rfl (pv_move rfl) rfl ?_
   refine Tk 4 rfl rfl (pv_move rfl) rfl ?_
   refine Tk 5 rfl rfl (pv_indexAddr (i := i) rfl rfl rfl (by omega)) rfl ?_
   refine Tk 6 rfl rfl (pv_loadK [.int .i64 sl.1, .int .i64 sl.2] rfl rfl rfl hre) rfl ?_
   refine AnyH.two 7 11 (by kernel_rfl) ?_ ?_
   ·
    refine Turn.ef rfl rfl (ef_callr (tr_gPar (uS := v0) (F := p.F) ⟨w0, K0, ht0, rfl⟩ hok.nd hl sl) rfl rfl) ?_ ?_
    ·
     rintro _ _ ⟨rfl, rfl⟩; infer_instance
    rintro _ _ ⟨rfl, rfl⟩
    refine Tk 8 rfl rfl (pv_move rfl) rfl ?_
    refine Tk 9 rfl rfl (pv_extract rfl rfl) rfl ?_
    refine Tk 10 rfl rfl (pv_extract rfl rfl) rfl ?_
    refine AnyH.one 11 (by kernel_rfl) ?_
    refine Turn.ef rfl rfl (ef_allocK tyZ31 rfl) ?_ ?_
    ·
     rintro _ _ ⟨b6, rfl, rfl⟩; infer_instance
    rintro _ _ ⟨b6, rfl, rfl⟩
    refine AnyH.one 12 (by kernel_rfl) ?_
    refine Turn.ef rfl rfl (ef_storeK rfl rfl rfl rfl) ?_ ?_
    ·
     rintro _ _ ⟨rfl, rfl⟩; infer_instance
    rintro _ _ ⟨rfl, rfl⟩
    refine Tk 13 rfl rfl (pv_assign rfl) rfl ?_
    refine AnyH.done (by kernel_rfl) ?_
    refine Ends.goes ?_
    refine Goes.back (hC0 b6 trivial) ⟨rfl, rfl, rfl, rfl, rfl, rfl, rfl, rfl, rfl, rfl, rfl, rfl, trivial⟩
   refine Turn.ef rfl rfl (ef_allocK tyZ31 rfl) ?_ ?_
   ·
    rintro _ _ ⟨b7, rfl, rfl⟩; infer_instance
   rintro _ _ ⟨b7, rfl, rfl⟩
   refine AnyH.one 7 (by kernel_rfl) ?_
   refine Turn.ef rfl rfl (ef_callr (tr_gPar (uS := v0) (F := p.F) ⟨w0, K0, ht0, rfl⟩ hok.nd hl sl) rfl rfl) ?_ ?_
   ·
    rintro _ _ ⟨rfl, rfl⟩; infer_instance
   rintro _ _ ⟨rfl, rfl⟩
   refine Tk 8 rfl rfl (pv_move rfl) rfl ?_
   refine Tk 9 rfl rfl (pv_extract rfl rfl) rfl ?_
   refine Tk 10 rfl rfl (pv_extract rfl rfl) rfl ?_
   refine AnyH.one 12 (by kernel_rfl) ?_
   refine Turn.ef rfl rfl (ef_storeK rfl rfl rfl rfl) ?_ ?_
   ·
    rintro _ _ ⟨rfl, rfl⟩; infer_instance
   rintro _ _ ⟨rfl, rfl⟩
   refine Tk 13 rfl rfl (pv_assign rfl) rfl ?_
   refine AnyH.done (by kernel_rfl) ?_
   refine Ends.goes ?_
   refine Goes.back (hC0 b7 trivial) ⟨rfl, rfl, rfl, rfl, rfl, rfl, rfl, rfl, rfl, rfl, rfl, rfl, trivial⟩
  rintro vd _
  dsimp only [List.cons_append, List.nil_append] at ⊢
  refine Wp.seq ?_
  refine AnyH.start ((vb, .cells (dget p.l sl).1.cells.toArray 25) :: (va, .cells (dget p.l sl).1.cells.toArray 25) :: (b5, .cells [.int .i64 (ftPar p.F sl).1, .int .i64 (ftPar p.F sl).2].toArray 31) :: (vd, .cells [.int .i64 (ftPar p.F sl).1, .int .i64 (ftPar p.F sl).2].toArray 31) :: E1) 36 rfl ?_
  refine Tk 0 rfl rfl (pv_loadK [_, _, _, _, _, _] rfl rfl rfl ⟨rfl, rfl, rfl, rfl, rfl, rfl, trivial⟩) rfl ?_
  refine Tk 1 rfl rfl (pv_loadK [_, _, _, _, _, _] rfl rfl rfl ⟨rfl, rfl, rfl, rfl, rfl, rfl, trivial⟩) rfl ?_
  refine Tk 2 rfl rfl ((pv_neq_cap (a := (dget p.l sl).1) (b := (dget p.l sl).1) rfl rfl).fls (fun h => h rfl)) rfl ?_
  refine Tk 3 rfl rfl (pv_move rfl) rfl ?_
  refine Tk 4 rfl ⟨_, _, rfl, rfl, rfl⟩ (pv_move rfl) rfl ?_
  refine Tk 5 rfl ⟨_, _, rfl, rfl, rfl⟩ (pv_move rfl) rfl ?_
  refine Tk 6 rfl ⟨_, _, rfl, rfl, rfl⟩ ((pv_neq rfl rfl).fls (by first | exact fun h => h rfl | decide | omega | assumption)) rfl ?_
  refine Tk 7 rfl rfl (pv_pick_false rfl rfl) rfl ?_
  refine Tk 8 rfl rfl (pv_move rfl) rfl ?_
  refine Tk 9 rfl ⟨_, _, rfl, rfl, rfl⟩ (pv_loadK [_, _] rfl rfl rfl ⟨rfl, rfl, trivial⟩) rfl ?_
  refine Tk 10 rfl ⟨_, _, rfl, rfl, rfl⟩ (pv_loadK [_, _] rfl rfl rfl ⟨rfl, rfl, trivial⟩) rfl ?_
  refine Tk 11 rfl ⟨_, _, rfl, rfl, rfl⟩ ((pv_neq_slot rfl rfl).fls (by first | exact fun h => h rfl | decide | omega | assumption)) rfl ?_
  refine Tk 12 rfl rfl (pv_pick_false rfl rfl) rfl ?_
  refine Tk 13 rfl rfl (pv_move rfl) rfl ?_
  refine Tk 14 rfl ⟨_, _, rfl, rfl, rfl⟩ (pv_move rfl) rfl ?_
  refine Tk 15 rfl ⟨_, _, rfl, rfl, rfl⟩ (pv_move rfl) rfl ?_
  refine Tk 16 rfl ⟨_, _, rfl, rfl, rfl⟩ ((pv_neq_bool rfl rfl).is (u := .bool false) (by first | rfl | (simp; done) | simp_all)) rfl ?_
  refine Tk 17 rfl rfl (pv_pick_false rfl rfl) rfl ?_
  refine Tk 18 rfl rfl (pv_move rfl) rfl ?_
  refine Tk 19 rfl ⟨_, _, rfl, rfl, rfl⟩ (pv_move rfl) rfl ?_
  refine Tk 20 rfl ⟨_, _, rfl, rfl, rfl⟩ (pv_move rfl) rfl ?_
  refine Tk 21 rfl ⟨_, _, rfl, rfl, rfl⟩ (pv_move rfl) rfl ?_
  refine Tk 22 rfl ⟨_, _, rfl, rfl, rfl⟩ (pv_indexAddr (i := i) rfl rfl rfl (by omega)) rfl ?_
  refine Tk 23 rfl ⟨_, _, rfl, rfl, rfl⟩ (pv_loadK [.int .i64 sl.1, .int .i64 sl.2] rfl rfl rfl hre) rfl ?_
  refine Tk 25 rfl ⟨_, _, rfl, rfl, rfl⟩ (pv_move rfl) rfl ?_
  refine Tk 26 rfl ⟨_, _, rfl, rfl, rfl⟩ (pv_nilCheck rfl) rfl ?_
  refine Tk 27 rfl ⟨_, _, rfl, rfl, rfl⟩ (pv_fieldAddr0 rfl rfl) rfl ?_
  refine Tk 28 rfl ⟨_, _, rfl, rfl, rfl⟩ (pv_move rfl) rfl ?_
  refine Tk 29 rfl ⟨_, _, rfl, rfl, rfl⟩ (pv_move rfl) rfl ?_
  refine Tk 30 rfl ⟨_, _, rfl, rfl, rfl⟩ (pv_indexAddr (i := i) rfl rfl rfl (by omega)) rfl ?_
  refine Tk 31 rfl ⟨_, _, rfl, rfl, rfl⟩ (pv_loadK [.int .i64 sl.1, .int .i64 sl.2] rfl rfl rfl hre) rfl ?_
  refine AnyH.one 24 (by kernel_rfl) ?_
  refine Turn.ef rfl ⟨_, _, rfl, rfl, rfl⟩ (ef_call (tr_mKids _ cb _ p ⟨_, _, _, _, hS, hT, rfl⟩ (by omega) sl) rfl rfl) ?_ ?_
  ·
   rintro _ _ ⟨_, _, ⟨C2, hC2, rfl⟩, rfl, rfl⟩; infer_instance
  rintro _ _ ⟨_, _, ⟨C2, hC2, rfl⟩, rfl, rfl⟩
  refine AnyH.app ?_
  obtain ⟨pp3, qq3, rfl⟩ := hC2.form
  refine AnyH.one 32 (by kernel_rfl) ?_
  refine Turn.ef rfl ⟨_, _, rfl, rfl, rfl⟩ (ef_call (tr_gKids (uS := v0) (F := p.F) ⟨w0, K0, ht0, rfl⟩ hok.nd hl sl) rfl rfl) ?_ ?_
  ·
   rintro _ _ ⟨_, _, ⟨D1, hD1, rfl⟩, rfl, rfl⟩; infer_instance
  rintro _ _ ⟨_, _, ⟨D1, hD1, rfl⟩, rfl, rfl⟩
  refine AnyH.app ?_
  obtain ⟨pp4, qq4, rfl⟩ := hD1.form
  refine AnyH.one 33 (by kernel_rfl) ?_
  refine Turn.ef rfl ⟨_, _, rfl, rfl, rfl⟩ (ef_callr ((tr_sameSlots (C2 ++ D1) _ _ _ _ (ftKids p.F sl) (ftKids p.F sl) (hC2.view.mono (by intro p hp; simp [hp])) (hD1.view.mono (by intro p hp; simp [hp])) (by have := ftKids_len p.F sl; omega)).eq (r' := .bool true) (by rw [decide_eq_true rfl])) rfl rfl) ?_ ?_
  ·
   rintro _ _ ⟨rfl, rfl⟩; infer_instance
  rintro _ _ ⟨rfl, rfl⟩
  refine Tk 34 rfl ⟨_, _, rfl, rfl, rfl⟩ (pv_not rfl) rfl ?_
  refine Tk 35 rfl rfl (pv_pick_false rfl rfl) rfl ?_
  refine AnyH.done (by kernel_rfl) ?_
  refine Ends.seq ?_
  refine Wp.cond_false rfl ?_
  refine Wp.skip ?_
  refine Ends.block_normal ?_
  refine Ends.seq ?_
  refine Wp.region ?_
  refine Om1 rfl rfl ?_
  refine Ops.pv (pv_add rfl rfl (w64 (by omega) (by omega))) rfl ?_
  refine Oa1 rfl rfl ?_
  refine Ops.nil ?_
  refine Ends.goes ?_
  refine Goes.back (hK (i + 1) (by omega) (by omega)) ⟨rfl, rfl, rfl, rfl, trivial⟩
 refine Wp.exit ?_
 refine Ends.then_exit ?_
 refine Ends.then_exit ?_
 refine Ends.block_hit ?_
 refine Ends.seq ?_
 refine Wr ?_
 refine Oa1 rfl rfl ?_
 refine On ?_
 refine Wp.ret ?_
 exact Ends.ret (res1 rfl rfl) ⟨rfl, rfl⟩
end Go.Proofs.YtdodfnjmkpgdbaaGreat
end
