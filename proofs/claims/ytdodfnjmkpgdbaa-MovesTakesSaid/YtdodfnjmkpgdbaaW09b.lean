/- Walks of layer 9, second part: Drop. No condition. -/
import Derived.Test.YtdodfnjmkpgdbaaW09
set_option linter.unusedVariables false
set_option linter.unusedSimpArgs false
namespace Go.Proofs.Ytdodfnjmkpgdbaa
open Go.SL

theorem tr_tDrop0 (tb : Nat) (L : Hp) (T : TreeM) (hH : TrH T tb L) (s : SlotM) (h : tget s T.M = none) : Tr Try.prog 57 [.pointer (some ⟨tb, 0, none⟩), slotV s] (L) (fun u L' => u = .int .i64 3 ∧ TrH T tb L') := by
  obtain ⟨mb, clk, blk, kv, kH, hk, rfl⟩ := hH
  have hm := tptr_hm blk T.M s
  rw [tptr_no h] at hm
  refine Tr.enter Try.func57 rfl Try.ntmps57 rfl (fun W F => ?_)
  refine Wp.app ?_
  refine Wp.seq ?_
  refine Wp.region ?_
  refine Ops.ef rfl (ef_boxK rfl rfl) ?_
  rintro _ _ ⟨b1, rfl, rfl⟩
  refine Ops.pv (pv_assign rfl) rfl ?_
  refine Ops.nil ?_
  refine Ends.seq ?_
  refine Wp.seq ?_
  refine AnyH.start ((b1, .cells [.int .i64 s.1, .int .i64 s.2].toArray 38) :: trBlk tb mb :: mpBlk mb blk T.M clk :: segs (knS blk T kv kH) T.n) 7 rfl ?_
  refine AnyH.take 0 rfl (by kernel_rfl) (by kernel_rfl) (by kernel_rfl) PF.pf rfl (pv_move rfl) rfl ?_
  first | refine AnyH.take 1 rfl (by kernel_rfl) (by kernel_rfl) (by kernel_rfl) PF.pf rfl (pv_nilCheck rfl) rfl ?_ | refine AnyH.take 1 rfl (by kernel_rfl) (by kernel_rfl) (by kernel_rfl) PF.pf rfl (pv_nilCheck_func rfl rfl) rfl ?_
  first | refine AnyH.take 2 rfl (by kernel_rfl) (by kernel_rfl) (by kernel_rfl) PF.pf rfl (pv_fieldAddr0 rfl rfl) rfl ?_ | refine AnyH.take 2 rfl (by kernel_rfl) (by kernel_rfl) (by kernel_rfl) PF.pf rfl (pv_fieldAddr rfl rfl) rfl ?_
  first | refine AnyH.take 3 rfl (by kernel_rfl) (by kernel_rfl) (by kernel_rfl) PF.pf rfl (pv_load rfl rfl rfl) rfl ?_ | refine AnyH.take 3 rfl (by kernel_rfl) (by kernel_rfl) (by kernel_rfl) PF.pf rfl (pv_load rfl rfl (by assumption)) rfl ?_
  refine AnyH.take 4 rfl (by kernel_rfl) (by kernel_rfl) (by kernel_rfl) PF.pf rfl (pv_loadK [_, _] rfl rfl rfl ⟨rfl, rfl, trivial⟩) rfl ?_
  refine AnyH.take 5 rfl (by kernel_rfl) (by kernel_rfl) (by kernel_rfl) PF.pf rfl (pv_lookup_s s rfl rfl hm) rfl ?_
  refine AnyH.take 6 rfl (by kernel_rfl) (by kernel_rfl) (by kernel_rfl) PF.pf rfl (pv_assign rfl) rfl ?_
  refine AnyH.done (by kernel_rfl) ?_
  refine Ends.seq ?_
  refine Wp.seq ?_
  refine Wp.seq ?_
  refine Wp.region ?_
  refine Ops.pv (pv_move rfl) rfl ?_
  refine Ops.pv (pv_eql_nil rfl rfl) rfl ?_
  refine Ops.nil ?_
  refine Ends.seq ?_
  refine Wp.cond_true rfl ?_
  refine Wp.seq ?_
  refine Wp.region ?_
  refine Ops.pv (pv_assign rfl) rfl ?_
  refine Ops.nil ?_
  refine Ends.seq ?_
  refine Wp.ret ?_
  refine Ends.then_ret ?_
  exact Ends.ret (L' := trBlk tb mb :: mpBlk mb blk T.M clk :: segs (knS blk T kv kH) T.n) (res1 rfl rfl) ⟨rfl, mb, clk, blk, kv, kH, hk, rfl⟩

set_option maxHeartbeats 1000000 in
theorem tr_tDrop1 (tb : Nat) (L : Hp) (T : TreeM) (hH : TrH T tb L) (hx : T.Ix) (hn : T.n ≤ 2 ^ 20) (so : SlotM) (x : Nat) (h : tget so T.M = some x) (hxk : x ∉ T.kids x) (hp : T.par x = none) : Tr Try.prog 57 [.pointer (some ⟨tb, 0, none⟩), slotV so] (L) (fun u L' => u = .int .i64 0 ∧ TrH (T.gone so x) tb L') := by
  obtain ⟨mb, clk, blk, kv, kH, hk, rfl⟩ := hH
  have hm := tptr_hm blk T.M so
  rw [tptr_some h] at hm
  have hi := hx.get h
  obtain ⟨ka, kc, hkv⟩ := kn_form hk hi
  have hb_x := kn_blk (blk := blk) (T := T) (kv := kv) (kH := kH) (i := x) hi
  rw [hkv, hp] at hb_x
  have hlm : ((T.kids x).map blk).length = (T.kids x).length := List.length_map ..
  have hsx := hx.small x hi
  refine Tr.enter Try.func57 rfl Try.ntmps57 rfl (fun W F => ?_)
  refine Wp.app ?_
  refine Wp.seq ?_
  refine Wp.region ?_
  refine Ops.ef rfl (ef_boxK rfl rfl) ?_
  rintro _ _ ⟨b1, rfl, rfl⟩
  refine Ops.pv (pv_assign rfl) rfl ?_
  refine Ops.nil ?_
  refine Ends.seq ?_
  refine Wp.seq ?_
  refine AnyH.start ((b1, .cells [.int .i64 so.1, .int .i64 so.2].toArray 38) :: trBlk tb mb :: mpBlk mb blk T.M clk :: segs (knS blk T kv kH) T.n) 7 rfl ?_
  refine AnyH.take 0 rfl (by kernel_rfl) (by kernel_rfl) (by kernel_rfl) PF.pf rfl (pv_move rfl) rfl ?_
  first | refine AnyH.take 1 rfl (by kernel_rfl) (by kernel_rfl) (by kernel_rfl) PF.pf rfl (pv_nilCheck rfl) rfl ?_ | refine AnyH.take 1 rfl (by kernel_rfl) (by kernel_rfl) (by kernel_rfl) PF.pf rfl (pv_nilCheck_func rfl rfl) rfl ?_
  first | refine AnyH.take 2 rfl (by kernel_rfl) (by kernel_rfl) (by kernel_rfl) PF.pf rfl (pv_fieldAddr0 rfl rfl) rfl ?_ | refine AnyH.take 2 rfl (by kernel_rfl) (by kernel_rfl) (by kernel_rfl) PF.pf rfl (pv_fieldAddr rfl rfl) rfl ?_
  first | refine AnyH.take 3 rfl (by kernel_rfl) (by kernel_rfl) (by kernel_rfl) PF.pf rfl (pv_load rfl rfl rfl) rfl ?_ | refine AnyH.take 3 rfl (by kernel_rfl) (by kernel_rfl) (by kernel_rfl) PF.pf rfl (pv_load rfl rfl (by assumption)) rfl ?_
  refine AnyH.take 4 rfl (by kernel_rfl) (by kernel_rfl) (by kernel_rfl) PF.pf rfl (pv_loadK [_, _] rfl rfl rfl ⟨rfl, rfl, trivial⟩) rfl ?_
  refine AnyH.take 5 rfl (by kernel_rfl) (by kernel_rfl) (by kernel_rfl) PF.pf rfl (pv_lookup_s so rfl rfl hm) rfl ?_
  refine AnyH.take 6 rfl (by kernel_rfl) (by kernel_rfl) (by kernel_rfl) PF.pf rfl (pv_assign rfl) rfl ?_
  refine AnyH.done (by kernel_rfl) ?_
  refine Ends.seq ?_
  refine Wp.seq ?_
  refine Wp.seq ?_
  refine Wp.region ?_
  refine Ops.pv (pv_move rfl) rfl ?_
  refine Ops.pv (pv_eql_nil rfl rfl) rfl ?_
  refine Ops.nil ?_
  refine Ends.seq ?_
  refine Wp.cond_false rfl ?_
  refine Wp.skip ?_
  refine Ends.seq ?_
  refine Wp.seq ?_
  refine Wp.seq ?_
  refine Wp.region ?_
  refine Ops.pv (pv_move rfl) rfl ?_
  first | refine Ops.pv (pv_nilCheck rfl) rfl ?_ | refine Ops.pv (pv_nilCheck_func rfl rfl) rfl ?_
  first | refine Ops.pv (pv_fieldAddr0 rfl rfl) rfl ?_ | refine Ops.pv (pv_fieldAddr rfl rfl) rfl ?_
  first | refine Ops.pv (pv_load rfl rfl rfl) rfl ?_ | refine Ops.pv (pv_load rfl rfl (by assumption)) rfl ?_
  refine Ops.pv (pv_len_slice (T := 110) rfl rfl) rfl ?_
  refine Ops.pv (pv_move rfl) rfl ?_
  refine Ops.nil ?_
  refine Ends.seq ?_
  refine Wp.block ?_
  refine Wp.loopK (σ := Nat) [(0, _), (3, _), (5, _), (21, _), (22, _)] (fun s => [(23, .int .i64 s)]) (fun s => (b1, .cells [.int .i64 so.1, .int .i64 so.2].toArray 38) :: trBlk tb mb :: mpBlk mb blk T.M clk :: (segs (knS blk (T.dropK x s) kv kH) T.n ++ F)) (fun s => s ≤ (T.kids x).length) (fun s => (T.kids x).length - s) 0 (Nat.zero_le _) ⟨rfl, rfl, rfl, rfl, rfl, trivial⟩ ⟨rfl, trivial⟩ (by intro w ho; rw [dropK_zero]; exact Drop.own ho) ?_
  rintro k KK hkl hK
  dsimp only [List.cons_append, List.nil_append] at hK ⊢
  refine Wp.seq ?_
  refine Wp.region ?_
  refine Ops.pv (pv_lss rfl rfl) rfl ?_
  refine Ops.nil ?_
  refine Ends.seq ?_
  refine Wp.seq ?_
  first | refine Wp.cond_dect rfl (fun h1 => ?_) (fun h1 => ?_) | refine Wp.cond_t rfl (fun h1 => ?_) (fun h1 => ?_)
  · clear hb_x
    have hv2 : View (segs (knS blk (T.dropK x k) kv kH) T.n) 1 (kv x) ((T.kids x).map blk).length (ptsC ((T.kids x).map blk)) := kn_view2 (T := T.dropK x k) (kv := kv) (kH := kH) (i := x) hk hi
    rw [hkv] at hv2
    obtain ⟨b, o, cap, cc, T0, f, hv1, hbv, hr⟩ := hv2.open (by show 0 < ((T.kids x).map blk).length; omega)
    cases hv1
    obtain ⟨q, hq⟩ : ∃ q, (T.kids x)[k]? = some q := ⟨_, List.getElem?_eq_getElem (by omega)⟩
    have hbq : ((T.kids x).map blk)[k]? = some (blk q) := by rw [List.getElem?_map, hq]; rfl
    have hqn := hx.kids x q hi (List.mem_of_getElem? hq)
    have hb_x : Blk (segs (knS blk (T.dropK x k) kv kH) T.n) (blk x) (.cells [.int .i64 (T.sl x).1, .int .i64 (T.sl x).2, ptrO blk ((T.dropK x k).par x), kv x].toArray 113 (0, 0)) := kn_blk (blk := blk) (T := T.dropK x k) (kv := kv) (kH := kH) (i := x) hi
    rw [dropK_par hxk, hp] at hb_x
    have hb_q : Blk (segs (knS blk (T.dropK x k) kv kH) T.n) (blk q) (.cells [.int .i64 (T.sl q).1, .int .i64 (T.sl q).2, ptrO blk ((T.dropK x k).par q), kv q].toArray 113 (0, 0)) := kn_blk (blk := blk) (T := T.dropK x k) (kv := kv) (kH := kH) (i := q) hqn
    have hupd := fun o1 => segs_upd (h := knS blk (T.dropK x k) kv kH) (o' := o1) hqn rfl
    have hds := dropK_succ (blk := blk) (kv := kv) (kH := kH) hq
    rw [hp] at hds
    refine Wp.skip ?_
    refine Ends.seq ?_
    refine Wp.seq ?_
    refine Wp.block ?_
    refine Wp.seq ?_
    refine Wp.region ?_
    refine Ops.pv (pv_indexAddr (i := k) rfl rfl rfl (by omega)) rfl ?_
    refine Ops.pv (pv_load rfl rfl (pts_nth hr hbq)) rfl ?_
    refine Ops.pv (pv_assign rfl) rfl ?_
    refine Ops.nil ?_
    refine Ends.seq ?_
    refine Wp.region ?_
    refine Ops.pv (pv_move rfl) rfl ?_
    refine Ops.pv (pv_move rfl) rfl ?_
    first | refine Ops.pv (pv_nilCheck rfl) rfl ?_ | refine Ops.pv (pv_nilCheck_func rfl rfl) rfl ?_
    first | refine Ops.pv (pv_fieldAddr0 rfl rfl) rfl ?_ | refine Ops.pv (pv_fieldAddr rfl rfl) rfl ?_
    first | refine Ops.pv (pv_load rfl rfl rfl) rfl ?_ | refine Ops.pv (pv_load rfl rfl (by assumption)) rfl ?_
    first | refine Ops.pv (pv_nilCheck rfl) rfl ?_ | refine Ops.pv (pv_nilCheck_func rfl rfl) rfl ?_
    first | refine Ops.pv (pv_fieldAddr0 rfl rfl) rfl ?_ | refine Ops.pv (pv_fieldAddr rfl rfl) rfl ?_
    refine Ops.ef rfl (ef_store1 rfl rfl (by first | rfl | assumption) (by first | rfl | assumption)) ?_
    rintro _ _ ⟨rfl, rfl⟩
    refine Ops.nil ?_
    refine Ends.block_normal ?_
    refine Ends.seq ?_
    refine Wp.region ?_
    first | refine Ops.pv (pv_add rfl rfl (w64 (by omega) (by omega))) rfl ?_ | refine Ops.pv (pv_add rfl rfl rfl) rfl ?_
    refine Ops.pv (pv_move rfl) rfl ?_
    refine Ops.nil ?_
    refine Ends.goes ?_
    rw [hds]
    refine Goes.back (hK (k + 1) (by omega) (by omega)) ⟨rfl, rfl, rfl, rfl, rfl, rfl, trivial⟩
  · clear hb_x
    obtain rfl : k = (T.kids x).length := by omega
    have hb_x : Blk (segs (knS blk (T.dropK x (T.kids x).length) kv kH) T.n) (blk x) (.cells [.int .i64 (T.sl x).1, .int .i64 (T.sl x).2, ptrO blk ((T.dropK x (T.kids x).length).par x), kv x].toArray 113 (0, 0)) := kn_blk (blk := blk) (T := T.dropK x (T.kids x).length) (kv := kv) (kH := kH) (i := x) hi
    rw [dropK_par hxk, hp, hkv] at hb_x
    refine Wp.exit ?_
    refine Ends.then_exit ?_
    refine Ends.then_exit ?_
    refine Ends.block_hit ?_
    refine Ends.seq ?_
    refine Wp.seq ?_
    refine Wp.seq ?_
    refine Wp.region ?_
    refine Ops.pv (pv_move rfl) rfl ?_
    first | refine Ops.pv (pv_nilCheck rfl) rfl ?_ | refine Ops.pv (pv_nilCheck_func rfl rfl) rfl ?_
    first | refine Ops.pv (pv_fieldAddr0 rfl rfl) rfl ?_ | refine Ops.pv (pv_fieldAddr rfl rfl) rfl ?_
    first | refine Ops.pv (pv_load rfl rfl rfl) rfl ?_ | refine Ops.pv (pv_load rfl rfl (by assumption)) rfl ?_
    refine Ops.pv (pv_assign rfl) rfl ?_
    refine Ops.nil ?_
    refine Ends.seq ?_
    refine Wp.seq ?_
    refine Wp.region ?_
    refine Ops.pv (pv_move rfl) rfl ?_
    refine Ops.pv (pv_neq_nil rfl rfl) rfl ?_
    refine Ops.nil ?_
    refine Ends.seq ?_
    refine Wp.cond_false rfl ?_
    refine Wp.skip ?_
    refine Ends.seq ?_
    refine Wp.seq ?_
    refine AnyH.start ((b1, .cells [.int .i64 so.1, .int .i64 so.2].toArray 38) :: trBlk tb mb :: []) 6 rfl ?_
    refine AnyH.take 0 rfl (by kernel_rfl) (by kernel_rfl) (by kernel_rfl) PF.pf rfl (pv_move rfl) rfl ?_
    first | refine AnyH.take 1 rfl (by kernel_rfl) (by kernel_rfl) (by kernel_rfl) PF.pf rfl (pv_nilCheck rfl) rfl ?_ | refine AnyH.take 1 rfl (by kernel_rfl) (by kernel_rfl) (by kernel_rfl) PF.pf rfl (pv_nilCheck_func rfl rfl) rfl ?_
    first | refine AnyH.take 2 rfl (by kernel_rfl) (by kernel_rfl) (by kernel_rfl) PF.pf rfl (pv_fieldAddr0 rfl rfl) rfl ?_ | refine AnyH.take 2 rfl (by kernel_rfl) (by kernel_rfl) (by kernel_rfl) PF.pf rfl (pv_fieldAddr rfl rfl) rfl ?_
    first | refine AnyH.take 3 rfl (by kernel_rfl) (by kernel_rfl) (by kernel_rfl) PF.pf rfl (pv_load rfl rfl rfl) rfl ?_ | refine AnyH.take 3 rfl (by kernel_rfl) (by kernel_rfl) (by kernel_rfl) PF.pf rfl (pv_load rfl rfl (by assumption)) rfl ?_
    refine AnyH.take 4 rfl (by kernel_rfl) (by kernel_rfl) (by kernel_rfl) PF.pf rfl (pv_loadK [_, _] rfl rfl rfl ⟨rfl, rfl, trivial⟩) rfl ?_
    refine AnyH.one 5 (by kernel_rfl) ?_
    refine Turn.ef rfl rfl (ef_deleten_s (T := 105) _ rfl rfl rfl) ?_ ?_
    · rintro _ _ ⟨rfl, rfl⟩; infer_instance
    rintro _ _ ⟨rfl, rfl⟩
    refine AnyH.done (by kernel_rfl) ?_
    refine Ends.seq ?_
    refine Wp.seq ?_
    refine Wp.region ?_
    refine Ops.pv (pv_assign rfl) rfl ?_
    refine Ops.nil ?_
    refine Ends.seq ?_
    refine Wp.ret ?_
    rw [gone_none (s := so) hp, tdel_kvT]
    exact Ends.ret (L' := trBlk tb mb :: mpBlk mb blk (tdel so T.M) clk :: segs (knS blk (T.gone so x) kv kH) T.n) (res1 rfl rfl) ⟨rfl, mb, clk, blk, kv, kH, gone_none_ok hp hk, rfl⟩

set_option maxHeartbeats 1000000 in
theorem tr_tDrop2 (tb : Nat) (L : Hp) (T : TreeM) (hH : TrH T tb L) (hx : T.Ix) (hn : T.n ≤ 2 ^ 20) (so : SlotM) (x : Nat) (h : tget so T.M = some x) (hxk : x ∉ T.kids x) (j : Nat) (hp : T.par x = some j) (hxj : x ∈ T.kids j) : Tr Try.prog 57 [.pointer (some ⟨tb, 0, none⟩), slotV so] (L) (fun u L' => u = .int .i64 0 ∧ TrH (T.gone so x) tb L') := by
  obtain ⟨mb, clk, blk, kv, kH, hk, rfl⟩ := hH
  have hm := tptr_hm blk T.M so
  rw [tptr_some h] at hm
  have hi := hx.get h
  obtain ⟨ka, kc, hkv⟩ := kn_form hk hi
  have hb_x := kn_blk (blk := blk) (T := T) (kv := kv) (kH := kH) (i := x) hi
  rw [hkv, hp] at hb_x
  have hlm : ((T.kids x).map blk).length = (T.kids x).length := List.length_map ..
  have hsx := hx.small x hi
  have hj := hx.par x j hi hp
  obtain ⟨ja, jc, hjv⟩ := kn_form hk hj
  obtain ⟨p, hp1, hp2, hp3⟩ := repl_at (l := T.kids x) hxj
  have hpl := (List.getElem?_eq_some_iff.1 hp2).1
  have hsj := hx.small j hj
  have hlj : ((T.kids j).map blk).length = (T.kids j).length := List.length_map ..
  refine Tr.enter Try.func57 rfl Try.ntmps57 rfl (fun W F => ?_)
  refine Wp.app ?_
  refine Wp.seq ?_
  refine Wp.region ?_
  refine Ops.ef rfl (ef_boxK rfl rfl) ?_
  rintro _ _ ⟨b1, rfl, rfl⟩
  refine Ops.pv (pv_assign rfl) rfl ?_
  refine Ops.nil ?_
  refine Ends.seq ?_
  refine Wp.seq ?_
  refine AnyH.start ((b1, .cells [.int .i64 so.1, .int .i64 so.2].toArray 38) :: trBlk tb mb :: mpBlk mb blk T.M clk :: segs (knS blk T kv kH) T.n) 7 rfl ?_
  refine AnyH.take 0 rfl (by kernel_rfl) (by kernel_rfl) (by kernel_rfl) PF.pf rfl (pv_move rfl) rfl ?_
  first | refine AnyH.take 1 rfl (by kernel_rfl) (by kernel_rfl) (by kernel_rfl) PF.pf rfl (pv_nilCheck rfl) rfl ?_ | refine AnyH.take 1 rfl (by kernel_rfl) (by kernel_rfl) (by kernel_rfl) PF.pf rfl (pv_nilCheck_func rfl rfl) rfl ?_
  first | refine AnyH.take 2 rfl (by kernel_rfl) (by kernel_rfl) (by kernel_rfl) PF.pf rfl (pv_fieldAddr0 rfl rfl) rfl ?_ | refine AnyH.take 2 rfl (by kernel_rfl) (by kernel_rfl) (by kernel_rfl) PF.pf rfl (pv_fieldAddr rfl rfl) rfl ?_
  first | refine AnyH.take 3 rfl (by kernel_rfl) (by kernel_rfl) (by kernel_rfl) PF.pf rfl (pv_load rfl rfl rfl) rfl ?_ | refine AnyH.take 3 rfl (by kernel_rfl) (by kernel_rfl) (by kernel_rfl) PF.pf rfl (pv_load rfl rfl (by assumption)) rfl ?_
  refine AnyH.take 4 rfl (by kernel_rfl) (by kernel_rfl) (by kernel_rfl) PF.pf rfl (pv_loadK [_, _] rfl rfl rfl ⟨rfl, rfl, trivial⟩) rfl ?_
  refine AnyH.take 5 rfl (by kernel_rfl) (by kernel_rfl) (by kernel_rfl) PF.pf rfl (pv_lookup_s so rfl rfl hm) rfl ?_
  refine AnyH.take 6 rfl (by kernel_rfl) (by kernel_rfl) (by kernel_rfl) PF.pf rfl (pv_assign rfl) rfl ?_
  refine AnyH.done (by kernel_rfl) ?_
  refine Ends.seq ?_
  refine Wp.seq ?_
  refine Wp.seq ?_
  refine Wp.region ?_
  refine Ops.pv (pv_move rfl) rfl ?_
  refine Ops.pv (pv_eql_nil rfl rfl) rfl ?_
  refine Ops.nil ?_
  refine Ends.seq ?_
  refine Wp.cond_false rfl ?_
  refine Wp.skip ?_
  refine Ends.seq ?_
  refine Wp.seq ?_
  refine Wp.seq ?_
  refine Wp.region ?_
  refine Ops.pv (pv_move rfl) rfl ?_
  first | refine Ops.pv (pv_nilCheck rfl) rfl ?_ | refine Ops.pv (pv_nilCheck_func rfl rfl) rfl ?_
  first | refine Ops.pv (pv_fieldAddr0 rfl rfl) rfl ?_ | refine Ops.pv (pv_fieldAddr rfl rfl) rfl ?_
  first | refine Ops.pv (pv_load rfl rfl rfl) rfl ?_ | refine Ops.pv (pv_load rfl rfl (by assumption)) rfl ?_
  refine Ops.pv (pv_len_slice (T := 110) rfl rfl) rfl ?_
  refine Ops.pv (pv_move rfl) rfl ?_
  refine Ops.nil ?_
  refine Ends.seq ?_
  refine Wp.block ?_
  refine Wp.loopK (σ := Nat) [(0, _), (3, _), (5, _), (21, _), (22, _)] (fun s => [(23, .int .i64 s)]) (fun s => (b1, .cells [.int .i64 so.1, .int .i64 so.2].toArray 38) :: trBlk tb mb :: mpBlk mb blk T.M clk :: (segs (knS blk (T.dropK x s) kv kH) T.n ++ F)) (fun s => s ≤ (T.kids x).length) (fun s => (T.kids x).length - s) 0 (Nat.zero_le _) ⟨rfl, rfl, rfl, rfl, rfl, trivial⟩ ⟨rfl, trivial⟩ (by intro w ho; rw [dropK_zero]; exact Drop.own ho) ?_
  rintro k KK hkl hK
  dsimp only [List.cons_append, List.nil_append] at hK ⊢
  refine Wp.seq ?_
  refine Wp.region ?_
  refine Ops.pv (pv_lss rfl rfl) rfl ?_
  refine Ops.nil ?_
  refine Ends.seq ?_
  refine Wp.seq ?_
  first | refine Wp.cond_dect rfl (fun h1 => ?_) (fun h1 => ?_) | refine Wp.cond_t rfl (fun h1 => ?_) (fun h1 => ?_)
  · clear hb_x
    have hv2 : View (segs (knS blk (T.dropK x k) kv kH) T.n) 1 (kv x) ((T.kids x).map blk).length (ptsC ((T.kids x).map blk)) := kn_view2 (T := T.dropK x k) (kv := kv) (kH := kH) (i := x) hk hi
    rw [hkv] at hv2
    obtain ⟨b, o, cap, cc, T0, f, hv1, hbv, hr⟩ := hv2.open (by show 0 < ((T.kids x).map blk).length; omega)
    cases hv1
    obtain ⟨q, hq⟩ : ∃ q, (T.kids x)[k]? = some q := ⟨_, List.getElem?_eq_getElem (by omega)⟩
    have hbq : ((T.kids x).map blk)[k]? = some (blk q) := by rw [List.getElem?_map, hq]; rfl
    have hqn := hx.kids x q hi (List.mem_of_getElem? hq)
    have hb_x : Blk (segs (knS blk (T.dropK x k) kv kH) T.n) (blk x) (.cells [.int .i64 (T.sl x).1, .int .i64 (T.sl x).2, ptrO blk ((T.dropK x k).par x), kv x].toArray 113 (0, 0)) := kn_blk (blk := blk) (T := T.dropK x k) (kv := kv) (kH := kH) (i := x) hi
    rw [dropK_par hxk, hp] at hb_x
    have hb_q : Blk (segs (knS blk (T.dropK x k) kv kH) T.n) (blk q) (.cells [.int .i64 (T.sl q).1, .int .i64 (T.sl q).2, ptrO blk ((T.dropK x k).par q), kv q].toArray 113 (0, 0)) := kn_blk (blk := blk) (T := T.dropK x k) (kv := kv) (kH := kH) (i := q) hqn
    have hupd := fun o1 => segs_upd (h := knS blk (T.dropK x k) kv kH) (o' := o1) hqn rfl
    have hds := dropK_succ (blk := blk) (kv := kv) (kH := kH) hq
    rw [hp] at hds
    refine Wp.skip ?_
    refine Ends.seq ?_
    refine Wp.seq ?_
    refine Wp.block ?_
    refine Wp.seq ?_
    refine Wp.region ?_
    refine Ops.pv (pv_indexAddr (i := k) rfl rfl rfl (by omega)) rfl ?_
    refine Ops.pv (pv_load rfl rfl (pts_nth hr hbq)) rfl ?_
    refine Ops.pv (pv_assign rfl) rfl ?_
    refine Ops.nil ?_
    refine Ends.seq ?_
    refine Wp.region ?_
    refine Ops.pv (pv_move rfl) rfl ?_
    refine Ops.pv (pv_move rfl) rfl ?_
    first | refine Ops.pv (pv_nilCheck rfl) rfl ?_ | refine Ops.pv (pv_nilCheck_func rfl rfl) rfl ?_
    first | refine Ops.pv (pv_fieldAddr0 rfl rfl) rfl ?_ | refine Ops.pv (pv_fieldAddr rfl rfl) rfl ?_
    first | refine Ops.pv (pv_load rfl rfl rfl) rfl ?_ | refine Ops.pv (pv_load rfl rfl (by assumption)) rfl ?_
    first | refine Ops.pv (pv_nilCheck rfl) rfl ?_ | refine Ops.pv (pv_nilCheck_func rfl rfl) rfl ?_
    first | refine Ops.pv (pv_fieldAddr0 rfl rfl) rfl ?_ | refine Ops.pv (pv_fieldAddr rfl rfl) rfl ?_
    refine Ops.ef rfl (ef_store1 rfl rfl (by first | rfl | assumption) (by first | rfl | assumption)) ?_
    rintro _ _ ⟨rfl, rfl⟩
    refine Ops.nil ?_
    refine Ends.block_normal ?_
    refine Ends.seq ?_
    refine Wp.region ?_
    first | refine Ops.pv (pv_add rfl rfl (w64 (by omega) (by omega))) rfl ?_ | refine Ops.pv (pv_add rfl rfl rfl) rfl ?_
    refine Ops.pv (pv_move rfl) rfl ?_
    refine Ops.nil ?_
    refine Ends.goes ?_
    rw [hds]
    refine Goes.back (hK (k + 1) (by omega) (by omega)) ⟨rfl, rfl, rfl, rfl, rfl, rfl, trivial⟩
  · clear hb_x
    obtain rfl : k = (T.kids x).length := by omega
    have hb_x : Blk (segs (knS blk (T.dropK x (T.kids x).length) kv kH) T.n) (blk x) (.cells [.int .i64 (T.sl x).1, .int .i64 (T.sl x).2, ptrO blk ((T.dropK x (T.kids x).length).par x), kv x].toArray 113 (0, 0)) := kn_blk (blk := blk) (T := T.dropK x (T.kids x).length) (kv := kv) (kH := kH) (i := x) hi
    rw [dropK_par hxk, hp, hkv] at hb_x
    have hb_j : Blk (segs (knS blk (T.dropK x (T.kids x).length) kv kH) T.n) (blk j) (.cells [.int .i64 (T.sl j).1, .int .i64 (T.sl j).2, ptrO blk ((T.dropK x (T.kids x).length).par j), kv j].toArray 113 (0, 0)) := kn_blk (blk := blk) (T := T.dropK x (T.kids x).length) (kv := kv) (kH := kH) (i := j) hj
    rw [hjv] at hb_j
    have hvj : View (segs (knS blk (T.dropK x (T.kids x).length) kv kH) T.n) 1 (kv j) ((T.kids j).map blk).length (ptsC ((T.kids j).map blk)) := kn_view2 (T := T.dropK x (T.kids x).length) (kv := kv) (kH := kH) (i := j) hk hj
    rw [hjv] at hvj
    have hvx : View (segs (knS blk (T.dropK x (T.kids x).length) kv kH) T.n) 1 (kv x) ((T.kids x).map blk).length (ptsC ((T.kids x).map blk)) := kn_view2 (T := T.dropK x (T.kids x).length) (kv := kv) (kH := kH) (i := x) hk hi
    rw [hkv] at hvx
    have hA := View.part (f := ptrE) (l := (T.kids j).map blk) hvj (i := 0) (j := p) (Nat.zero_le _) (by omega)
    have hB := View.part (f := ptrE) (l := (T.kids j).map blk) hvj (i := p + 1) (j := ((T.kids j).map blk).length) (by omega) (Nat.le_refl _)
    have eA : (((T.kids j).map blk).drop 0).take (p - 0) = ((T.kids j).map blk).take p := by simp
    have eB : (((T.kids j).map blk).drop (p + 1)).take (((T.kids j).map blk).length - (p + 1)) = ((T.kids j).map blk).drop (p + 1) := List.take_of_length_le (by simp)
    rw [eA] at hA
    rw [eB] at hB
    have lA : (((T.kids j).map blk).take p).length = p := by rw [List.length_take]; omega
    have lB : (((T.kids j).map blk).drop (p + 1)).length = ((T.kids j).map blk).length - (p + 1) := List.length_drop ..
    have hjc : ((T.kids j).map blk).length ≤ jc := by obtain ⟨_, _, _, e, h, _⟩ := hvj; cases e; exact h
    refine Wp.exit ?_
    refine Ends.then_exit ?_
    refine Ends.then_exit ?_
    refine Ends.block_hit ?_
    refine Ends.seq ?_
    refine Wp.seq ?_
    refine Wp.seq ?_
    refine Wp.region ?_
    refine Ops.pv (pv_move rfl) rfl ?_
    first | refine Ops.pv (pv_nilCheck rfl) rfl ?_ | refine Ops.pv (pv_nilCheck_func rfl rfl) rfl ?_
    first | refine Ops.pv (pv_fieldAddr0 rfl rfl) rfl ?_ | refine Ops.pv (pv_fieldAddr rfl rfl) rfl ?_
    first | refine Ops.pv (pv_load rfl rfl rfl) rfl ?_ | refine Ops.pv (pv_load rfl rfl (by assumption)) rfl ?_
    refine Ops.pv (pv_assign rfl) rfl ?_
    refine Ops.nil ?_
    refine Ends.seq ?_
    refine Wp.seq ?_
    refine Wp.region ?_
    refine Ops.pv (pv_move rfl) rfl ?_
    refine Ops.pv (pv_neq_nil rfl rfl) rfl ?_
    refine Ops.nil ?_
    refine Ends.seq ?_
    refine Wp.cond_true rfl ?_
    refine Wp.seq ?_
    refine Wp.region ?_
    refine Ops.ndD (segs (knS blk (T.dropK x (T.kids x).length) kv kH) T.n) fun hnd => ?_
    have hinj := segs_inj (fun i => rfl) hnd
    clear hnd
    have hupd2 := fun o1 => segs_upd (h := knS blk (T.dropK x (T.kids x).length) kv kH) (o' := o1) hj rfl
    refine Ops.pv (pv_move rfl) rfl ?_
    first | refine Ops.pv (pv_nilCheck rfl) rfl ?_ | refine Ops.pv (pv_nilCheck_func rfl rfl) rfl ?_
    first | refine Ops.pv (pv_fieldAddr0 rfl rfl) rfl ?_ | refine Ops.pv (pv_fieldAddr rfl rfl) rfl ?_
    first | refine Ops.pv (pv_load rfl rfl rfl) rfl ?_ | refine Ops.pv (pv_load rfl rfl (by assumption)) rfl ?_
    refine Ops.pv (pv_move rfl) rfl ?_
    refine Ops.ef rfl (ef_callr ((tr_index (segs (knS blk (T.dropK x (T.kids x).length) kv kH) T.n) ja jc ((T.kids j).map blk) (blk x) hvj (by omega) (fun b hb => by obtain ⟨a, ha, rfl⟩ := List.mem_map.1 hb; exact kn_isC (hx.kids j a hj ha)) (kn_isC hi)).eq (r' := .int .i64 p) (by rw [idxN_map blk (fun a ha e => hinj a x (hx.kids j a hj ha) hi e), hp1])) rfl rfl) ?_
    rintro _ _ ⟨rfl, rfl⟩
    refine Ops.pv (pv_assign rfl) rfl ?_
    refine Ops.nil ?_
    refine Ends.seq ?_
    refine AnyH.start ([] : Hp) 23 rfl ?_
    refine AnyH.take 0 rfl (by kernel_rfl) (by kernel_rfl) (by kernel_rfl) PF.pf rfl (pv_move rfl) rfl ?_
    refine AnyH.take 1 rfl (by kernel_rfl) (by kernel_rfl) (by kernel_rfl) PF.pf rfl (pv_move rfl) rfl ?_
    first | refine AnyH.take 2 rfl (by kernel_rfl) (by kernel_rfl) (by kernel_rfl) PF.pf rfl (pv_nilCheck rfl) rfl ?_ | refine AnyH.take 2 rfl (by kernel_rfl) (by kernel_rfl) (by kernel_rfl) PF.pf rfl (pv_nilCheck_func rfl rfl) rfl ?_
    first | refine AnyH.take 3 rfl (by kernel_rfl) (by kernel_rfl) (by kernel_rfl) PF.pf rfl (pv_fieldAddr0 rfl rfl) rfl ?_ | refine AnyH.take 3 rfl (by kernel_rfl) (by kernel_rfl) (by kernel_rfl) PF.pf rfl (pv_fieldAddr rfl rfl) rfl ?_
    refine AnyH.take 5 rfl (by kernel_rfl) (by kernel_rfl) (by kernel_rfl) PF.pf rfl (pv_move rfl) rfl ?_
    refine AnyH.take 7 rfl (by kernel_rfl) (by kernel_rfl) (by kernel_rfl) PF.pf rfl (pv_move rfl) rfl ?_
    first | refine AnyH.take 8 rfl (by kernel_rfl) (by kernel_rfl) (by kernel_rfl) PF.pf rfl (pv_nilCheck rfl) rfl ?_ | refine AnyH.take 8 rfl (by kernel_rfl) (by kernel_rfl) (by kernel_rfl) PF.pf rfl (pv_nilCheck_func rfl rfl) rfl ?_
    first | refine AnyH.take 9 rfl (by kernel_rfl) (by kernel_rfl) (by kernel_rfl) PF.pf rfl (pv_fieldAddr0 rfl rfl) rfl ?_ | refine AnyH.take 9 rfl (by kernel_rfl) (by kernel_rfl) (by kernel_rfl) PF.pf rfl (pv_fieldAddr rfl rfl) rfl ?_
    refine AnyH.take 11 rfl (by kernel_rfl) (by kernel_rfl) (by kernel_rfl) PF.pf rfl (pv_move rfl) rfl ?_
    first | refine AnyH.take 12 rfl (by kernel_rfl) (by kernel_rfl) (by kernel_rfl) PF.pf rfl (pv_nilCheck rfl) rfl ?_ | refine AnyH.take 12 rfl (by kernel_rfl) (by kernel_rfl) (by kernel_rfl) PF.pf rfl (pv_nilCheck_func rfl rfl) rfl ?_
    first | refine AnyH.take 13 rfl (by kernel_rfl) (by kernel_rfl) (by kernel_rfl) PF.pf rfl (pv_fieldAddr0 rfl rfl) rfl ?_ | refine AnyH.take 13 rfl (by kernel_rfl) (by kernel_rfl) (by kernel_rfl) PF.pf rfl (pv_fieldAddr rfl rfl) rfl ?_
    refine AnyH.take 15 rfl (by kernel_rfl) (by kernel_rfl) (by kernel_rfl) PF.pf rfl (pv_move rfl) rfl ?_
    refine AnyH.take 16 rfl (by kernel_rfl) (by kernel_rfl) (by kernel_rfl) PF.pf rfl (pv_add rfl rfl (w64n (k := p + 1) (by omega) (by omega))) rfl ?_
    refine AnyH.three 4 10 14 (by kernel_rfl) ?_ ?_ ?_
    · first | refine Turn.ef rfl rfl (ef_pv (pv_load rfl rfl rfl) rfl) ?_ ?_ | refine Turn.ef rfl rfl (ef_pv (pv_load rfl rfl (by assumption)) rfl) ?_ ?_
      · rintro _ _ ⟨rfl, rfl⟩; infer_instance
      rintro _ _ ⟨rfl, rfl⟩
      refine AnyH.take 6 rfl (by kernel_rfl) (by kernel_rfl) (by kernel_rfl) PF.pf rfl (pv_sliceL (i := 0) (j := p) (r := (((T.kids j).map blk).take p).length) rfl rfl ⟨_, rfl⟩ (Nat.zero_le _) (by omega) lA.symm) rfl ?_
      refine AnyH.two 10 14 (by kernel_rfl) ?_ ?_
      · first | refine Turn.ef rfl rfl (ef_pv (pv_load rfl rfl rfl) rfl) ?_ ?_ | refine Turn.ef rfl rfl (ef_pv (pv_load rfl rfl (by assumption)) rfl) ?_ ?_
        · rintro _ _ ⟨rfl, rfl⟩; infer_instance
        rintro _ _ ⟨rfl, rfl⟩
        refine AnyH.one 14 (by kernel_rfl) ?_
        first | refine Turn.ef rfl rfl (ef_pv (pv_load rfl rfl rfl) rfl) ?_ ?_ | refine Turn.ef rfl rfl (ef_pv (pv_load rfl rfl (by assumption)) rfl) ?_ ?_
        · rintro _ _ ⟨rfl, rfl⟩; infer_instance
        rintro _ _ ⟨rfl, rfl⟩
        refine AnyH.take 17 rfl (by kernel_rfl) (by kernel_rfl) (by kernel_rfl) PF.pf rfl (pv_sliceL (i := p + 1) (j := ((T.kids j).map blk).length) (r := (((T.kids j).map blk).drop (p + 1)).length) rfl ⟨_, rfl⟩ rfl (by omega) hjc lB.symm) rfl ?_
        refine AnyH.one 18 (by kernel_rfl) ?_
        refine Turn.ef rfl rfl (ef_buildSliceN [.slice none 0 0, .slice none 0 0, .slice none 0 0] [(0, 1), (1, 1), (2, 1)] rfl (by kernel_rfl) (by first | decide | rfl) rfl rfl rfl) ?_ ?_
        · rintro _ _ ⟨b2, rfl, rfl⟩; infer_instance
        rintro _ _ ⟨b2, rfl, rfl⟩
        refine AnyH.one 19 (by kernel_rfl) ?_
        refine Turn.ef rfl rfl (ef_call (tr_concat3 (segs (knS blk (T.dropK x (T.kids x).length) kv kH) T.n) b2 3 _ _ _ _ _ _ (((T.kids j).map blk).take p) ((T.kids x).map blk) (((T.kids j).map blk).drop (p + 1)) hA hvx hB (by simp only [List.length_append]; omega)) rfl rfl) ?_ ?_
        · rintro _ _ ⟨_, _, ⟨K1, hu1, rfl⟩, rfl, rfl⟩; infer_instance
        rintro _ _ ⟨_, _, ⟨K1, hu1, rfl⟩, rfl, rfl⟩
        refine AnyH.app ?_
        rename_i u1
        have ho1 := hu1.one
        have ho2 := hu1.cells1
        first | refine AnyH.take 20 rfl (by kernel_rfl) (by kernel_rfl) (by kernel_rfl) PF.pf rfl (pv_nilCheck rfl) rfl ?_ | refine AnyH.take 20 rfl (by kernel_rfl) (by kernel_rfl) (by kernel_rfl) PF.pf rfl (pv_nilCheck_func rfl rfl) rfl ?_
        first | refine AnyH.take 21 rfl (by kernel_rfl) (by kernel_rfl) (by kernel_rfl) PF.pf rfl (pv_fieldAddr0 rfl rfl) rfl ?_ | refine AnyH.take 21 rfl (by kernel_rfl) (by kernel_rfl) (by kernel_rfl) PF.pf rfl (pv_fieldAddr rfl rfl) rfl ?_
        refine AnyH.one 22 (by kernel_rfl) ?_
        refine Turn.ef rfl rfl (ef_store1 rfl rfl (by first | rfl | assumption) (by first | rfl | assumption)) ?_ ?_
        · rintro _ _ ⟨rfl, rfl⟩; infer_instance
        rintro _ _ ⟨rfl, rfl⟩
        refine AnyH.done (by kernel_rfl) ?_
        refine Ends.seq ?_
        refine Wp.seq ?_
        refine AnyH.start ((b1, .cells [.int .i64 so.1, .int .i64 so.2].toArray 38) :: trBlk tb mb :: []) 6 rfl ?_
        refine AnyH.take 0 rfl (by kernel_rfl) (by kernel_rfl) (by kernel_rfl) PF.pf rfl (pv_move rfl) rfl ?_
        first | refine AnyH.take 1 rfl (by kernel_rfl) (by kernel_rfl) (by kernel_rfl) PF.pf rfl (pv_nilCheck rfl) rfl ?_ | refine AnyH.take 1 rfl (by kernel_rfl) (by kernel_rfl) (by kernel_rfl) PF.pf rfl (pv_nilCheck_func rfl rfl) rfl ?_
        first | refine AnyH.take 2 rfl (by kernel_rfl) (by kernel_rfl) (by kernel_rfl) PF.pf rfl (pv_fieldAddr0 rfl rfl) rfl ?_ | refine AnyH.take 2 rfl (by kernel_rfl) (by kernel_rfl) (by kernel_rfl) PF.pf rfl (pv_fieldAddr rfl rfl) rfl ?_
        first | refine AnyH.take 3 rfl (by kernel_rfl) (by kernel_rfl) (by kernel_rfl) PF.pf rfl (pv_load rfl rfl rfl) rfl ?_ | refine AnyH.take 3 rfl (by kernel_rfl) (by kernel_rfl) (by kernel_rfl) PF.pf rfl (pv_load rfl rfl (by assumption)) rfl ?_
        refine AnyH.take 4 rfl (by kernel_rfl) (by kernel_rfl) (by kernel_rfl) PF.pf rfl (pv_loadK [_, _] rfl rfl rfl ⟨rfl, rfl, trivial⟩) rfl ?_
        refine AnyH.one 5 (by kernel_rfl) ?_
        refine Turn.ef rfl rfl (ef_deleten_s (T := 105) _ rfl rfl rfl) ?_ ?_
        · rintro _ _ ⟨rfl, rfl⟩; infer_instance
        rintro _ _ ⟨rfl, rfl⟩
        refine AnyH.done (by kernel_rfl) ?_
        refine Ends.seq ?_
        refine Wp.seq ?_
        refine Wp.region ?_
        refine Ops.pv (pv_assign rfl) rfl ?_
        refine Ops.nil ?_
        refine Ends.seq ?_
        refine Wp.ret ?_
        rw [tdel_kvT]
        refine Ends.heap (L' := trBlk tb mb :: mpBlk mb blk (tdel so T.M) clk :: (segs (fset (knS blk (T.dropK x (T.kids x).length) kv kH) j ((blk j, .cells [.int .i64 (T.sl j).1, .int .i64 (T.sl j).2, ptrO blk ((T.dropK x (T.kids x).length).par j), u1].toArray 113) :: K1)) T.n ++ F)) (fun w ho => ?_) ?_
        · have h2 : Own W w (K1 ++ (segs (fset (knS blk (T.dropK x (T.kids x).length) kv kH) j ((blk j, .cells [.int .i64 (T.sl j).1, .int .i64 (T.sl j).2, ptrO blk ((T.dropK x (T.kids x).length).par j), u1].toArray 113) :: kH j)) T.n ++ (trBlk tb mb :: mpBlk mb blk (tdel so T.M) clk :: F))) := Drop.own ho
          have h3 := Own.swapSeg hj h2
          exact (Drop.own h3 : Own W w (trBlk tb mb :: mpBlk mb blk (tdel so T.M) clk :: (segs (fset (knS blk (T.dropK x (T.kids x).length) kv kH) j ((blk j, .cells [.int .i64 (T.sl j).1, .int .i64 (T.sl j).2, ptrO blk ((T.dropK x (T.kids x).length).par j), u1].toArray 113) :: K1)) T.n ++ F)))
        rw [gone_some (s := so) hp]
        exact Ends.ret (L' := trBlk tb mb :: mpBlk mb blk (tdel so T.M) clk :: segs (knS blk (T.gone so x) (fset kv j u1) (fset kH j K1)) T.n) (res1 rfl rfl) ⟨rfl, mb, clk, blk, _, _, gone_some_ok hp hk (by rw [hp3, ← List.length_map (f := blk), List.map_append, List.map_append, List.map_take, List.map_drop]; exact hu1), rfl⟩
      · first | refine Turn.ef rfl rfl (ef_pv (pv_load rfl rfl rfl) rfl) ?_ ?_ | refine Turn.ef rfl rfl (ef_pv (pv_load rfl rfl (by assumption)) rfl) ?_ ?_
        · rintro _ _ ⟨rfl, rfl⟩; infer_instance
        rintro _ _ ⟨rfl, rfl⟩
        refine AnyH.take 17 rfl (by kernel_rfl) (by kernel_rfl) (by kernel_rfl) PF.pf rfl (pv_sliceL (i := p + 1) (j := ((T.kids j).map blk).length) (r := (((T.kids j).map blk).drop (p + 1)).length) rfl ⟨_, rfl⟩ rfl (by omega) hjc lB.symm) rfl ?_
        refine AnyH.one 10 (by kernel_rfl) ?_
        first | refine Turn.ef rfl rfl (ef_pv (pv_load rfl rfl rfl) rfl) ?_ ?_ | refine Turn.ef rfl rfl (ef_pv (pv_load rfl rfl (by assumption)) rfl) ?_ ?_
        · rintro _ _ ⟨rfl, rfl⟩; infer_instance
        rintro _ _ ⟨rfl, rfl⟩
        refine AnyH.one 18 (by kernel_rfl) ?_
        refine Turn.ef rfl rfl (ef_buildSliceN [.slice none 0 0, .slice none 0 0, .slice none 0 0] [(0, 1), (1, 1), (2, 1)] rfl (by kernel_rfl) (by first | decide | rfl) rfl rfl rfl) ?_ ?_
        · rintro _ _ ⟨b3, rfl, rfl⟩; infer_instance
        rintro _ _ ⟨b3, rfl, rfl⟩
        refine AnyH.one 19 (by kernel_rfl) ?_
        refine Turn.ef rfl rfl (ef_call (tr_concat3 (segs (knS blk (T.dropK x (T.kids x).length) kv kH) T.n) b3 3 _ _ _ _ _ _ (((T.kids j).map blk).take p) ((T.kids x).map blk) (((T.kids j).map blk).drop (p + 1)) hA hvx hB (by simp only [List.length_append]; omega)) rfl rfl) ?_ ?_
        · rintro _ _ ⟨_, _, ⟨K2, hu2, rfl⟩, rfl, rfl⟩; infer_instance
        rintro _ _ ⟨_, _, ⟨K2, hu2, rfl⟩, rfl, rfl⟩
        refine AnyH.app ?_
        rename_i u2
        have ho1 := hu2.one
        have ho2 := hu2.cells1
        first | refine AnyH.take 20 rfl (by kernel_rfl) (by kernel_rfl) (by kernel_rfl) PF.pf rfl (pv_nilCheck rfl) rfl ?_ | refine AnyH.take 20 rfl (by kernel_rfl) (by kernel_rfl) (by kernel_rfl) PF.pf rfl (pv_nilCheck_func rfl rfl) rfl ?_
        first | refine AnyH.take 21 rfl (by kernel_rfl) (by kernel_rfl) (by kernel_rfl) PF.pf rfl (pv_fieldAddr0 rfl rfl) rfl ?_ | refine AnyH.take 21 rfl (by kernel_rfl) (by kernel_rfl) (by kernel_rfl) PF.pf rfl (pv_fieldAddr rfl rfl) rfl ?_
        refine AnyH.one 22 (by kernel_rfl) ?_
        refine Turn.ef rfl rfl (ef_store1 rfl rfl (by first | rfl | assumption) (by first | rfl | assumption)) ?_ ?_
        · rintro _ _ ⟨rfl, rfl⟩; infer_instance
        rintro _ _ ⟨rfl, rfl⟩
        refine AnyH.done (by kernel_rfl) ?_
        refine Ends.seq ?_
        refine Wp.seq ?_
        refine AnyH.start ((b1, .cells [.int .i64 so.1, .int .i64 so.2].toArray 38) :: trBlk tb mb :: []) 6 rfl ?_
        refine AnyH.take 0 rfl (by kernel_rfl) (by kernel_rfl) (by kernel_rfl) PF.pf rfl (pv_move rfl) rfl ?_
        first | refine AnyH.take 1 rfl (by kernel_rfl) (by kernel_rfl) (by kernel_rfl) PF.pf rfl (pv_nilCheck rfl) rfl ?_ | refine AnyH.take 1 rfl (by kernel_rfl) (by kernel_rfl) (by kernel_rfl) PF.pf rfl (pv_nilCheck_func rfl rfl) rfl ?_
        first | refine AnyH.take 2 rfl (by kernel_rfl) (by kernel_rfl) (by kernel_rfl) PF.pf rfl (pv_fieldAddr0 rfl rfl) rfl ?_ | refine AnyH.take 2 rfl (by kernel_rfl) (by kernel_rfl) (by kernel_rfl) PF.pf rfl (pv_fieldAddr rfl rfl) rfl ?_
        first | refine AnyH.take 3 rfl (by kernel_rfl) (by kernel_rfl) (by kernel_rfl) PF.pf rfl (pv_load rfl rfl rfl) rfl ?_ | refine AnyH.take 3 rfl (by kernel_rfl) (by kernel_rfl) (by kernel_rfl) PF.pf rfl (pv_load rfl rfl (by assumption)) rfl ?_
        refine AnyH.take 4 rfl (by kernel_rfl) (by kernel_rfl) (by kernel_rfl) PF.pf rfl (pv_loadK [_, _] rfl rfl rfl ⟨rfl, rfl, trivial⟩) rfl ?_
        refine AnyH.one 5 (by kernel_rfl) ?_
        refine Turn.ef rfl rfl (ef_deleten_s (T := 105) _ rfl rfl rfl) ?_ ?_
        · rintro _ _ ⟨rfl, rfl⟩; infer_instance
        rintro _ _ ⟨rfl, rfl⟩
        refine AnyH.done (by kernel_rfl) ?_
        refine Ends.seq ?_
        refine Wp.seq ?_
        refine Wp.region ?_
        refine Ops.pv (pv_assign rfl) rfl ?_
        refine Ops.nil ?_
        refine Ends.seq ?_
        refine Wp.ret ?_
        rw [tdel_kvT]
        refine Ends.heap (L' := trBlk tb mb :: mpBlk mb blk (tdel so T.M) clk :: (segs (fset (knS blk (T.dropK x (T.kids x).length) kv kH) j ((blk j, .cells [.int .i64 (T.sl j).1, .int .i64 (T.sl j).2, ptrO blk ((T.dropK x (T.kids x).length).par j), u2].toArray 113) :: K2)) T.n ++ F)) (fun w ho => ?_) ?_
        · have h2 : Own W w (K2 ++ (segs (fset (knS blk (T.dropK x (T.kids x).length) kv kH) j ((blk j, .cells [.int .i64 (T.sl j).1, .int .i64 (T.sl j).2, ptrO blk ((T.dropK x (T.kids x).length).par j), u2].toArray 113) :: kH j)) T.n ++ (trBlk tb mb :: mpBlk mb blk (tdel so T.M) clk :: F))) := Drop.own ho
          have h3 := Own.swapSeg hj h2
          exact (Drop.own h3 : Own W w (trBlk tb mb :: mpBlk mb blk (tdel so T.M) clk :: (segs (fset (knS blk (T.dropK x (T.kids x).length) kv kH) j ((blk j, .cells [.int .i64 (T.sl j).1, .int .i64 (T.sl j).2, ptrO blk ((T.dropK x (T.kids x).length).par j), u2].toArray 113) :: K2)) T.n ++ F)))
        rw [gone_some (s := so) hp]
        exact Ends.ret (L' := trBlk tb mb :: mpBlk mb blk (tdel so T.M) clk :: segs (knS blk (T.gone so x) (fset kv j u2) (fset kH j K2)) T.n) (res1 rfl rfl) ⟨rfl, mb, clk, blk, _, _, gone_some_ok hp hk (by rw [hp3, ← List.length_map (f := blk), List.map_append, List.map_append, List.map_take, List.map_drop]; exact hu2), rfl⟩
    · first | refine Turn.ef rfl rfl (ef_pv (pv_load rfl rfl rfl) rfl) ?_ ?_ | refine Turn.ef rfl rfl (ef_pv (pv_load rfl rfl (by assumption)) rfl) ?_ ?_
      · rintro _ _ ⟨rfl, rfl⟩; infer_instance
      rintro _ _ ⟨rfl, rfl⟩
      refine AnyH.two 4 14 (by kernel_rfl) ?_ ?_
      · first | refine Turn.ef rfl rfl (ef_pv (pv_load rfl rfl rfl) rfl) ?_ ?_ | refine Turn.ef rfl rfl (ef_pv (pv_load rfl rfl (by assumption)) rfl) ?_ ?_
        · rintro _ _ ⟨rfl, rfl⟩; infer_instance
        rintro _ _ ⟨rfl, rfl⟩
        refine AnyH.take 6 rfl (by kernel_rfl) (by kernel_rfl) (by kernel_rfl) PF.pf rfl (pv_sliceL (i := 0) (j := p) (r := (((T.kids j).map blk).take p).length) rfl rfl ⟨_, rfl⟩ (Nat.zero_le _) (by omega) lA.symm) rfl ?_
        refine AnyH.one 14 (by kernel_rfl) ?_
        first | refine Turn.ef rfl rfl (ef_pv (pv_load rfl rfl rfl) rfl) ?_ ?_ | refine Turn.ef rfl rfl (ef_pv (pv_load rfl rfl (by assumption)) rfl) ?_ ?_
        · rintro _ _ ⟨rfl, rfl⟩; infer_instance
        rintro _ _ ⟨rfl, rfl⟩
        refine AnyH.take 17 rfl (by kernel_rfl) (by kernel_rfl) (by kernel_rfl) PF.pf rfl (pv_sliceL (i := p + 1) (j := ((T.kids j).map blk).length) (r := (((T.kids j).map blk).drop (p + 1)).length) rfl ⟨_, rfl⟩ rfl (by omega) hjc lB.symm) rfl ?_
        refine AnyH.one 18 (by kernel_rfl) ?_
        refine Turn.ef rfl rfl (ef_buildSliceN [.slice none 0 0, .slice none 0 0, .slice none 0 0] [(0, 1), (1, 1), (2, 1)] rfl (by kernel_rfl) (by first | decide | rfl) rfl rfl rfl) ?_ ?_
        · rintro _ _ ⟨b4, rfl, rfl⟩; infer_instance
        rintro _ _ ⟨b4, rfl, rfl⟩
        refine AnyH.one 19 (by kernel_rfl) ?_
        refine Turn.ef rfl rfl (ef_call (tr_concat3 (segs (knS blk (T.dropK x (T.kids x).length) kv kH) T.n) b4 3 _ _ _ _ _ _ (((T.kids j).map blk).take p) ((T.kids x).map blk) (((T.kids j).map blk).drop (p + 1)) hA hvx hB (by simp only [List.length_append]; omega)) rfl rfl) ?_ ?_
        · rintro _ _ ⟨_, _, ⟨K3, hu3, rfl⟩, rfl, rfl⟩; infer_instance
        rintro _ _ ⟨_, _, ⟨K3, hu3, rfl⟩, rfl, rfl⟩
        refine AnyH.app ?_
        rename_i u3
        have ho1 := hu3.one
        have ho2 := hu3.cells1
        first | refine AnyH.take 20 rfl (by kernel_rfl) (by kernel_rfl) (by kernel_rfl) PF.pf rfl (pv_nilCheck rfl) rfl ?_ | refine AnyH.take 20 rfl (by kernel_rfl) (by kernel_rfl) (by kernel_rfl) PF.pf rfl (pv_nilCheck_func rfl rfl) rfl ?_
        first | refine AnyH.take 21 rfl (by kernel_rfl) (by kernel_rfl) (by kernel_rfl) PF.pf rfl (pv_fieldAddr0 rfl rfl) rfl ?_ | refine AnyH.take 21 rfl (by kernel_rfl) (by kernel_rfl) (by kernel_rfl) PF.pf rfl (pv_fieldAddr rfl rfl) rfl ?_
        refine AnyH.one 22 (by kernel_rfl) ?_
        refine Turn.ef rfl rfl (ef_store1 rfl rfl (by first | rfl | assumption) (by first | rfl | assumption)) ?_ ?_
        · rintro _ _ ⟨rfl, rfl⟩; infer_instance
        rintro _ _ ⟨rfl, rfl⟩
        refine AnyH.done (by kernel_rfl) ?_
        refine Ends.seq ?_
        refine Wp.seq ?_
        refine AnyH.start ((b1, .cells [.int .i64 so.1, .int .i64 so.2].toArray 38) :: trBlk tb mb :: []) 6 rfl ?_
        refine AnyH.take 0 rfl (by kernel_rfl) (by kernel_rfl) (by kernel_rfl) PF.pf rfl (pv_move rfl) rfl ?_
        first | refine AnyH.take 1 rfl (by kernel_rfl) (by kernel_rfl) (by kernel_rfl) PF.pf rfl (pv_nilCheck rfl) rfl ?_ | refine AnyH.take 1 rfl (by kernel_rfl) (by kernel_rfl) (by kernel_rfl) PF.pf rfl (pv_nilCheck_func rfl rfl) rfl ?_
        first | refine AnyH.take 2 rfl (by kernel_rfl) (by kernel_rfl) (by kernel_rfl) PF.pf rfl (pv_fieldAddr0 rfl rfl) rfl ?_ | refine AnyH.take 2 rfl (by kernel_rfl) (by kernel_rfl) (by kernel_rfl) PF.pf rfl (pv_fieldAddr rfl rfl) rfl ?_
        first | refine AnyH.take 3 rfl (by kernel_rfl) (by kernel_rfl) (by kernel_rfl) PF.pf rfl (pv_load rfl rfl rfl) rfl ?_ | refine AnyH.take 3 rfl (by kernel_rfl) (by kernel_rfl) (by kernel_rfl) PF.pf rfl (pv_load rfl rfl (by assumption)) rfl ?_
        refine AnyH.take 4 rfl (by kernel_rfl) (by kernel_rfl) (by kernel_rfl) PF.pf rfl (pv_loadK [_, _] rfl rfl rfl ⟨rfl, rfl, trivial⟩) rfl ?_
        refine AnyH.one 5 (by kernel_rfl) ?_
        refine Turn.ef rfl rfl (ef_deleten_s (T := 105) _ rfl rfl rfl) ?_ ?_
        · rintro _ _ ⟨rfl, rfl⟩; infer_instance
        rintro _ _ ⟨rfl, rfl⟩
        refine AnyH.done (by kernel_rfl) ?_
        refine Ends.seq ?_
        refine Wp.seq ?_
        refine Wp.region ?_
        refine Ops.pv (pv_assign rfl) rfl ?_
        refine Ops.nil ?_
        refine Ends.seq ?_
        refine Wp.ret ?_
        rw [tdel_kvT]
        refine Ends.heap (L' := trBlk tb mb :: mpBlk mb blk (tdel so T.M) clk :: (segs (fset (knS blk (T.dropK x (T.kids x).length) kv kH) j ((blk j, .cells [.int .i64 (T.sl j).1, .int .i64 (T.sl j).2, ptrO blk ((T.dropK x (T.kids x).length).par j), u3].toArray 113) :: K3)) T.n ++ F)) (fun w ho => ?_) ?_
        · have h2 : Own W w (K3 ++ (segs (fset (knS blk (T.dropK x (T.kids x).length) kv kH) j ((blk j, .cells [.int .i64 (T.sl j).1, .int .i64 (T.sl j).2, ptrO blk ((T.dropK x (T.kids x).length).par j), u3].toArray 113) :: kH j)) T.n ++ (trBlk tb mb :: mpBlk mb blk (tdel so T.M) clk :: F))) := Drop.own ho
          have h3 := Own.swapSeg hj h2
          exact (Drop.own h3 : Own W w (trBlk tb mb :: mpBlk mb blk (tdel so T.M) clk :: (segs (fset (knS blk (T.dropK x (T.kids x).length) kv kH) j ((blk j, .cells [.int .i64 (T.sl j).1, .int .i64 (T.sl j).2, ptrO blk ((T.dropK x (T.kids x).length).par j), u3].toArray 113) :: K3)) T.n ++ F)))
        rw [gone_some (s := so) hp]
        exact Ends.ret (L' := trBlk tb mb :: mpBlk mb blk (tdel so T.M) clk :: segs (knS blk (T.gone so x) (fset kv j u3) (fset kH j K3)) T.n) (res1 rfl rfl) ⟨rfl, mb, clk, blk, _, _, gone_some_ok hp hk (by rw [hp3, ← List.length_map (f := blk), List.map_append, List.map_append, List.map_take, List.map_drop]; exact hu3), rfl⟩
      · first | refine Turn.ef rfl rfl (ef_pv (pv_load rfl rfl rfl) rfl) ?_ ?_ | refine Turn.ef rfl rfl (ef_pv (pv_load rfl rfl (by assumption)) rfl) ?_ ?_
        · rintro _ _ ⟨rfl, rfl⟩; infer_instance
        rintro _ _ ⟨rfl, rfl⟩
        refine AnyH.take 17 rfl (by kernel_rfl) (by kernel_rfl) (by kernel_rfl) PF.pf rfl (pv_sliceL (i := p + 1) (j := ((T.kids j).map blk).length) (r := (((T.kids j).map blk).drop (p + 1)).length) rfl ⟨_, rfl⟩ rfl (by omega) hjc lB.symm) rfl ?_
        refine AnyH.one 4 (by kernel_rfl) ?_
        first | refine Turn.ef rfl rfl (ef_pv (pv_load rfl rfl rfl) rfl) ?_ ?_ | refine Turn.ef rfl rfl (ef_pv (pv_load rfl rfl (by assumption)) rfl) ?_ ?_
        · rintro _ _ ⟨rfl, rfl⟩; infer_instance
        rintro _ _ ⟨rfl, rfl⟩
        refine AnyH.take 6 rfl (by kernel_rfl) (by kernel_rfl) (by kernel_rfl) PF.pf rfl (pv_sliceL (i := 0) (j := p) (r := (((T.kids j).map blk).take p).length) rfl rfl ⟨_, rfl⟩ (Nat.zero_le _) (by omega) lA.symm) rfl ?_
        refine AnyH.one 18 (by kernel_rfl) ?_
        refine Turn.ef rfl rfl (ef_buildSliceN [.slice none 0 0, .slice none 0 0, .slice none 0 0] [(0, 1), (1, 1), (2, 1)] rfl (by kernel_rfl) (by first | decide | rfl) rfl rfl rfl) ?_ ?_
        · rintro _ _ ⟨b5, rfl, rfl⟩; infer_instance
        rintro _ _ ⟨b5, rfl, rfl⟩
        refine AnyH.one 19 (by kernel_rfl) ?_
        refine Turn.ef rfl rfl (ef_call (tr_concat3 (segs (knS blk (T.dropK x (T.kids x).length) kv kH) T.n) b5 3 _ _ _ _ _ _ (((T.kids j).map blk).take p) ((T.kids x).map blk) (((T.kids j).map blk).drop (p + 1)) hA hvx hB (by simp only [List.length_append]; omega)) rfl rfl) ?_ ?_
        · rintro _ _ ⟨_, _, ⟨K4, hu4, rfl⟩, rfl, rfl⟩; infer_instance
        rintro _ _ ⟨_, _, ⟨K4, hu4, rfl⟩, rfl, rfl⟩
        refine AnyH.app ?_
        rename_i u4
        have ho1 := hu4.one
        have ho2 := hu4.cells1
        first | refine AnyH.take 20 rfl (by kernel_rfl) (by kernel_rfl) (by kernel_rfl) PF.pf rfl (pv_nilCheck rfl) rfl ?_ | refine AnyH.take 20 rfl (by kernel_rfl) (by kernel_rfl) (by kernel_rfl) PF.pf rfl (pv_nilCheck_func rfl rfl) rfl ?_
        first | refine AnyH.take 21 rfl (by kernel_rfl) (by kernel_rfl) (by kernel_rfl) PF.pf rfl (pv_fieldAddr0 rfl rfl) rfl ?_ | refine AnyH.take 21 rfl (by kernel_rfl) (by kernel_rfl) (by kernel_rfl) PF.pf rfl (pv_fieldAddr rfl rfl) rfl ?_
        refine AnyH.one 22 (by kernel_rfl) ?_
        refine Turn.ef rfl rfl (ef_store1 rfl rfl (by first | rfl | assumption) (by first | rfl | assumption)) ?_ ?_
        · rintro _ _ ⟨rfl, rfl⟩; infer_instance
        rintro _ _ ⟨rfl, rfl⟩
        refine AnyH.done (by kernel_rfl) ?_
        refine Ends.seq ?_
        refine Wp.seq ?_
        refine AnyH.start ((b1, .cells [.int .i64 so.1, .int .i64 so.2].toArray 38) :: trBlk tb mb :: []) 6 rfl ?_
        refine AnyH.take 0 rfl (by kernel_rfl) (by kernel_rfl) (by kernel_rfl) PF.pf rfl (pv_move rfl) rfl ?_
        first | refine AnyH.take 1 rfl (by kernel_rfl) (by kernel_rfl) (by kernel_rfl) PF.pf rfl (pv_nilCheck rfl) rfl ?_ | refine AnyH.take 1 rfl (by kernel_rfl) (by kernel_rfl) (by kernel_rfl) PF.pf rfl (pv_nilCheck_func rfl rfl) rfl ?_
        first | refine AnyH.take 2 rfl (by kernel_rfl) (by kernel_rfl) (by kernel_rfl) PF.pf rfl (pv_fieldAddr0 rfl rfl) rfl ?_ | refine AnyH.take 2 rfl (by kernel_rfl) (by kernel_rfl) (by kernel_rfl) PF.pf rfl (pv_fieldAddr rfl rfl) rfl ?_
        first | refine AnyH.take 3 rfl (by kernel_rfl) (by kernel_rfl) (by kernel_rfl) PF.pf rfl (pv_load rfl rfl rfl) rfl ?_ | refine AnyH.take 3 rfl (by kernel_rfl) (by kernel_rfl) (by kernel_rfl) PF.pf rfl (pv_load rfl rfl (by assumption)) rfl ?_
        refine AnyH.take 4 rfl (by kernel_rfl) (by kernel_rfl) (by kernel_rfl) PF.pf rfl (pv_loadK [_, _] rfl rfl rfl ⟨rfl, rfl, trivial⟩) rfl ?_
        refine AnyH.one 5 (by kernel_rfl) ?_
        refine Turn.ef rfl rfl (ef_deleten_s (T := 105) _ rfl rfl rfl) ?_ ?_
        · rintro _ _ ⟨rfl, rfl⟩; infer_instance
        rintro _ _ ⟨rfl, rfl⟩
        refine AnyH.done (by kernel_rfl) ?_
        refine Ends.seq ?_
        refine Wp.seq ?_
        refine Wp.region ?_
        refine Ops.pv (pv_assign rfl) rfl ?_
        refine Ops.nil ?_
        refine Ends.seq ?_
        refine Wp.ret ?_
        rw [tdel_kvT]
        refine Ends.heap (L' := trBlk tb mb :: mpBlk mb blk (tdel so T.M) clk :: (segs (fset (knS blk (T.dropK x (T.kids x).length) kv kH) j ((blk j, .cells [.int .i64 (T.sl j).1, .int .i64 (T.sl j).2, ptrO blk ((T.dropK x (T.kids x).length).par j), u4].toArray 113) :: K4)) T.n ++ F)) (fun w ho => ?_) ?_
        · have h2 : Own W w (K4 ++ (segs (fset (knS blk (T.dropK x (T.kids x).length) kv kH) j ((blk j, .cells [.int .i64 (T.sl j).1, .int .i64 (T.sl j).2, ptrO blk ((T.dropK x (T.kids x).length).par j), u4].toArray 113) :: kH j)) T.n ++ (trBlk tb mb :: mpBlk mb blk (tdel so T.M) clk :: F))) := Drop.own ho
          have h3 := Own.swapSeg hj h2
          exact (Drop.own h3 : Own W w (trBlk tb mb :: mpBlk mb blk (tdel so T.M) clk :: (segs (fset (knS blk (T.dropK x (T.kids x).length) kv kH) j ((blk j, .cells [.int .i64 (T.sl j).1, .int .i64 (T.sl j).2, ptrO blk ((T.dropK x (T.kids x).length).par j), u4].toArray 113) :: K4)) T.n ++ F)))
        rw [gone_some (s := so) hp]
        exact Ends.ret (L' := trBlk tb mb :: mpBlk mb blk (tdel so T.M) clk :: segs (knS blk (T.gone so x) (fset kv j u4) (fset kH j K4)) T.n) (res1 rfl rfl) ⟨rfl, mb, clk, blk, _, _, gone_some_ok hp hk (by rw [hp3, ← List.length_map (f := blk), List.map_append, List.map_append, List.map_take, List.map_drop]; exact hu4), rfl⟩
    · first | refine Turn.ef rfl rfl (ef_pv (pv_load rfl rfl rfl) rfl) ?_ ?_ | refine Turn.ef rfl rfl (ef_pv (pv_load rfl rfl (by assumption)) rfl) ?_ ?_
      · rintro _ _ ⟨rfl, rfl⟩; infer_instance
      rintro _ _ ⟨rfl, rfl⟩
      refine AnyH.take 17 rfl (by kernel_rfl) (by kernel_rfl) (by kernel_rfl) PF.pf rfl (pv_sliceL (i := p + 1) (j := ((T.kids j).map blk).length) (r := (((T.kids j).map blk).drop (p + 1)).length) rfl ⟨_, rfl⟩ rfl (by omega) hjc lB.symm) rfl ?_
      refine AnyH.two 4 10 (by kernel_rfl) ?_ ?_
      · first | refine Turn.ef rfl rfl (ef_pv (pv_load rfl rfl rfl) rfl) ?_ ?_ | refine Turn.ef rfl rfl (ef_pv (pv_load rfl rfl (by assumption)) rfl) ?_ ?_
        · rintro _ _ ⟨rfl, rfl⟩; infer_instance
        rintro _ _ ⟨rfl, rfl⟩
        refine AnyH.take 6 rfl (by kernel_rfl) (by kernel_rfl) (by kernel_rfl) PF.pf rfl (pv_sliceL (i := 0) (j := p) (r := (((T.kids j).map blk).take p).length) rfl rfl ⟨_, rfl⟩ (Nat.zero_le _) (by omega) lA.symm) rfl ?_
        refine AnyH.one 10 (by kernel_rfl) ?_
        first | refine Turn.ef rfl rfl (ef_pv (pv_load rfl rfl rfl) rfl) ?_ ?_ | refine Turn.ef rfl rfl (ef_pv (pv_load rfl rfl (by assumption)) rfl) ?_ ?_
        · rintro _ _ ⟨rfl, rfl⟩; infer_instance
        rintro _ _ ⟨rfl, rfl⟩
        refine AnyH.one 18 (by kernel_rfl) ?_
        refine Turn.ef rfl rfl (ef_buildSliceN [.slice none 0 0, .slice none 0 0, .slice none 0 0] [(0, 1), (1, 1), (2, 1)] rfl (by kernel_rfl) (by first | decide | rfl) rfl rfl rfl) ?_ ?_
        · rintro _ _ ⟨b6, rfl, rfl⟩; infer_instance
        rintro _ _ ⟨b6, rfl, rfl⟩
        refine AnyH.one 19 (by kernel_rfl) ?_
        refine Turn.ef rfl rfl (ef_call (tr_concat3 (segs (knS blk (T.dropK x (T.kids x).length) kv kH) T.n) b6 3 _ _ _ _ _ _ (((T.kids j).map blk).take p) ((T.kids x).map blk) (((T.kids j).map blk).drop (p + 1)) hA hvx hB (by simp only [List.length_append]; omega)) rfl rfl) ?_ ?_
        · rintro _ _ ⟨_, _, ⟨K5, hu5, rfl⟩, rfl, rfl⟩; infer_instance
        rintro _ _ ⟨_, _, ⟨K5, hu5, rfl⟩, rfl, rfl⟩
        refine AnyH.app ?_
        rename_i u5
        have ho1 := hu5.one
        have ho2 := hu5.cells1
        first | refine AnyH.take 20 rfl (by kernel_rfl) (by kernel_rfl) (by kernel_rfl) PF.pf rfl (pv_nilCheck rfl) rfl ?_ | refine AnyH.take 20 rfl (by kernel_rfl) (by kernel_rfl) (by kernel_rfl) PF.pf rfl (pv_nilCheck_func rfl rfl) rfl ?_
        first | refine AnyH.take 21 rfl (by kernel_rfl) (by kernel_rfl) (by kernel_rfl) PF.pf rfl (pv_fieldAddr0 rfl rfl) rfl ?_ | refine AnyH.take 21 rfl (by kernel_rfl) (by kernel_rfl) (by kernel_rfl) PF.pf rfl (pv_fieldAddr rfl rfl) rfl ?_
        refine AnyH.one 22 (by kernel_rfl) ?_
        refine Turn.ef rfl rfl (ef_store1 rfl rfl (by first | rfl | assumption) (by first | rfl | assumption)) ?_ ?_
        · rintro _ _ ⟨rfl, rfl⟩; infer_instance
        rintro _ _ ⟨rfl, rfl⟩
        refine AnyH.done (by kernel_rfl) ?_
        refine Ends.seq ?_
        refine Wp.seq ?_
        refine AnyH.start ((b1, .cells [.int .i64 so.1, .int .i64 so.2].toArray 38) :: trBlk tb mb :: []) 6 rfl ?_
        refine AnyH.take 0 rfl (by kernel_rfl) (by kernel_rfl) (by kernel_rfl) PF.pf rfl (pv_move rfl) rfl ?_
        first | refine AnyH.take 1 rfl (by kernel_rfl) (by kernel_rfl) (by kernel_rfl) PF.pf rfl (pv_nilCheck rfl) rfl ?_ | refine AnyH.take 1 rfl (by kernel_rfl) (by kernel_rfl) (by kernel_rfl) PF.pf rfl (pv_nilCheck_func rfl rfl) rfl ?_
        first | refine AnyH.take 2 rfl (by kernel_rfl) (by kernel_rfl) (by kernel_rfl) PF.pf rfl (pv_fieldAddr0 rfl rfl) rfl ?_ | refine AnyH.take 2 rfl (by kernel_rfl) (by kernel_rfl) (by kernel_rfl) PF.pf rfl (pv_fieldAddr rfl rfl) rfl ?_
        first | refine AnyH.take 3 rfl (by kernel_rfl) (by kernel_rfl) (by kernel_rfl) PF.pf rfl (pv_load rfl rfl rfl) rfl ?_ | refine AnyH.take 3 rfl (by kernel_rfl) (by kernel_rfl) (by kernel_rfl) PF.pf rfl (pv_load rfl rfl (by assumption)) rfl ?_
        refine AnyH.take 4 rfl (by kernel_rfl) (by kernel_rfl) (by kernel_rfl) PF.pf rfl (pv_loadK [_, _] rfl rfl rfl ⟨rfl, rfl, trivial⟩) rfl ?_
        refine AnyH.one 5 (by kernel_rfl) ?_
        refine Turn.ef rfl rfl (ef_deleten_s (T := 105) _ rfl rfl rfl) ?_ ?_
        · rintro _ _ ⟨rfl, rfl⟩; infer_instance
        rintro _ _ ⟨rfl, rfl⟩
        refine AnyH.done (by kernel_rfl) ?_
        refine Ends.seq ?_
        refine Wp.seq ?_
        refine Wp.region ?_
        refine Ops.pv (pv_assign rfl) rfl ?_
        refine Ops.nil ?_
        refine Ends.seq ?_
        refine Wp.ret ?_
        rw [tdel_kvT]
        refine Ends.heap (L' := trBlk tb mb :: mpBlk mb blk (tdel so T.M) clk :: (segs (fset (knS blk (T.dropK x (T.kids x).length) kv kH) j ((blk j, .cells [.int .i64 (T.sl j).1, .int .i64 (T.sl j).2, ptrO blk ((T.dropK x (T.kids x).length).par j), u5].toArray 113) :: K5)) T.n ++ F)) (fun w ho => ?_) ?_
        · have h2 : Own W w (K5 ++ (segs (fset (knS blk (T.dropK x (T.kids x).length) kv kH) j ((blk j, .cells [.int .i64 (T.sl j).1, .int .i64 (T.sl j).2, ptrO blk ((T.dropK x (T.kids x).length).par j), u5].toArray 113) :: kH j)) T.n ++ (trBlk tb mb :: mpBlk mb blk (tdel so T.M) clk :: F))) := Drop.own ho
          have h3 := Own.swapSeg hj h2
          exact (Drop.own h3 : Own W w (trBlk tb mb :: mpBlk mb blk (tdel so T.M) clk :: (segs (fset (knS blk (T.dropK x (T.kids x).length) kv kH) j ((blk j, .cells [.int .i64 (T.sl j).1, .int .i64 (T.sl j).2, ptrO blk ((T.dropK x (T.kids x).length).par j), u5].toArray 113) :: K5)) T.n ++ F)))
        rw [gone_some (s := so) hp]
        exact Ends.ret (L' := trBlk tb mb :: mpBlk mb blk (tdel so T.M) clk :: segs (knS blk (T.gone so x) (fset kv j u5) (fset kH j K5)) T.n) (res1 rfl rfl) ⟨rfl, mb, clk, blk, _, _, gone_some_ok hp hk (by rw [hp3, ← List.length_map (f := blk), List.map_append, List.map_append, List.map_take, List.map_drop]; exact hu5), rfl⟩
      · first | refine Turn.ef rfl rfl (ef_pv (pv_load rfl rfl rfl) rfl) ?_ ?_ | refine Turn.ef rfl rfl (ef_pv (pv_load rfl rfl (by assumption)) rfl) ?_ ?_
        · rintro _ _ ⟨rfl, rfl⟩; infer_instance
        rintro _ _ ⟨rfl, rfl⟩
        refine AnyH.one 4 (by kernel_rfl) ?_
        first | refine Turn.ef rfl rfl (ef_pv (pv_load rfl rfl rfl) rfl) ?_ ?_ | refine Turn.ef rfl rfl (ef_pv (pv_load rfl rfl (by assumption)) rfl) ?_ ?_
        · rintro _ _ ⟨rfl, rfl⟩; infer_instance
        rintro _ _ ⟨rfl, rfl⟩
        refine AnyH.take 6 rfl (by kernel_rfl) (by kernel_rfl) (by kernel_rfl) PF.pf rfl (pv_sliceL (i := 0) (j := p) (r := (((T.kids j).map blk).take p).length) rfl rfl ⟨_, rfl⟩ (Nat.zero_le _) (by omega) lA.symm) rfl ?_
        refine AnyH.one 18 (by kernel_rfl) ?_
        refine Turn.ef rfl rfl (ef_buildSliceN [.slice none 0 0, .slice none 0 0, .slice none 0 0] [(0, 1), (1, 1), (2, 1)] rfl (by kernel_rfl) (by first | decide | rfl) rfl rfl rfl) ?_ ?_
        · rintro _ _ ⟨b7, rfl, rfl⟩; infer_instance
        rintro _ _ ⟨b7, rfl, rfl⟩
        refine AnyH.one 19 (by kernel_rfl) ?_
        refine Turn.ef rfl rfl (ef_call (tr_concat3 (segs (knS blk (T.dropK x (T.kids x).length) kv kH) T.n) b7 3 _ _ _ _ _ _ (((T.kids j).map blk).take p) ((T.kids x).map blk) (((T.kids j).map blk).drop (p + 1)) hA hvx hB (by simp only [List.length_append]; omega)) rfl rfl) ?_ ?_
        · rintro _ _ ⟨_, _, ⟨K6, hu6, rfl⟩, rfl, rfl⟩; infer_instance
        rintro _ _ ⟨_, _, ⟨K6, hu6, rfl⟩, rfl, rfl⟩
        refine AnyH.app ?_
        rename_i u6
        have ho1 := hu6.one
        have ho2 := hu6.cells1
        first | refine AnyH.take 20 rfl (by kernel_rfl) (by kernel_rfl) (by kernel_rfl) PF.pf rfl (pv_nilCheck rfl) rfl ?_ | refine AnyH.take 20 rfl (by kernel_rfl) (by kernel_rfl) (by kernel_rfl) PF.pf rfl (pv_nilCheck_func rfl rfl) rfl ?_
        first | refine AnyH.take 21 rfl (by kernel_rfl) (by kernel_rfl) (by kernel_rfl) PF.pf rfl (pv_fieldAddr0 rfl rfl) rfl ?_ | refine AnyH.take 21 rfl (by kernel_rfl) (by kernel_rfl) (by kernel_rfl) PF.pf rfl (pv_fieldAddr rfl rfl) rfl ?_
        refine AnyH.one 22 (by kernel_rfl) ?_
        refine Turn.ef rfl rfl (ef_store1 rfl rfl (by first | rfl | assumption) (by first | rfl | assumption)) ?_ ?_
        · rintro _ _ ⟨rfl, rfl⟩; infer_instance
        rintro _ _ ⟨rfl, rfl⟩
        refine AnyH.done (by kernel_rfl) ?_
        refine Ends.seq ?_
        refine Wp.seq ?_
        refine AnyH.start ((b1, .cells [.int .i64 so.1, .int .i64 so.2].toArray 38) :: trBlk tb mb :: []) 6 rfl ?_
        refine AnyH.take 0 rfl (by kernel_rfl) (by kernel_rfl) (by kernel_rfl) PF.pf rfl (pv_move rfl) rfl ?_
        first | refine AnyH.take 1 rfl (by kernel_rfl) (by kernel_rfl) (by kernel_rfl) PF.pf rfl (pv_nilCheck rfl) rfl ?_ | refine AnyH.take 1 rfl (by kernel_rfl) (by kernel_rfl) (by kernel_rfl) PF.pf rfl (pv_nilCheck_func rfl rfl) rfl ?_
        first | refine AnyH.take 2 rfl (by kernel_rfl) (by kernel_rfl) (by kernel_rfl) PF.pf rfl (pv_fieldAddr0 rfl rfl) rfl ?_ | refine AnyH.take 2 rfl (by kernel_rfl) (by kernel_rfl) (by kernel_rfl) PF.pf rfl (pv_fieldAddr rfl rfl) rfl ?_
        first | refine AnyH.take 3 rfl (by kernel_rfl) (by kernel_rfl) (by kernel_rfl) PF.pf rfl (pv_load rfl rfl rfl) rfl ?_ | refine AnyH.take 3 rfl (by kernel_rfl) (by kernel_rfl) (by kernel_rfl) PF.pf rfl (pv_load rfl rfl (by assumption)) rfl ?_
        refine AnyH.take 4 rfl (by kernel_rfl) (by kernel_rfl) (by kernel_rfl) PF.pf rfl (pv_loadK [_, _] rfl rfl rfl ⟨rfl, rfl, trivial⟩) rfl ?_
        refine AnyH.one 5 (by kernel_rfl) ?_
        refine Turn.ef rfl rfl (ef_deleten_s (T := 105) _ rfl rfl rfl) ?_ ?_
        · rintro _ _ ⟨rfl, rfl⟩; infer_instance
        rintro _ _ ⟨rfl, rfl⟩
        refine AnyH.done (by kernel_rfl) ?_
        refine Ends.seq ?_
        refine Wp.seq ?_
        refine Wp.region ?_
        refine Ops.pv (pv_assign rfl) rfl ?_
        refine Ops.nil ?_
        refine Ends.seq ?_
        refine Wp.ret ?_
        rw [tdel_kvT]
        refine Ends.heap (L' := trBlk tb mb :: mpBlk mb blk (tdel so T.M) clk :: (segs (fset (knS blk (T.dropK x (T.kids x).length) kv kH) j ((blk j, .cells [.int .i64 (T.sl j).1, .int .i64 (T.sl j).2, ptrO blk ((T.dropK x (T.kids x).length).par j), u6].toArray 113) :: K6)) T.n ++ F)) (fun w ho => ?_) ?_
        · have h2 : Own W w (K6 ++ (segs (fset (knS blk (T.dropK x (T.kids x).length) kv kH) j ((blk j, .cells [.int .i64 (T.sl j).1, .int .i64 (T.sl j).2, ptrO blk ((T.dropK x (T.kids x).length).par j), u6].toArray 113) :: kH j)) T.n ++ (trBlk tb mb :: mpBlk mb blk (tdel so T.M) clk :: F))) := Drop.own ho
          have h3 := Own.swapSeg hj h2
          exact (Drop.own h3 : Own W w (trBlk tb mb :: mpBlk mb blk (tdel so T.M) clk :: (segs (fset (knS blk (T.dropK x (T.kids x).length) kv kH) j ((blk j, .cells [.int .i64 (T.sl j).1, .int .i64 (T.sl j).2, ptrO blk ((T.dropK x (T.kids x).length).par j), u6].toArray 113) :: K6)) T.n ++ F)))
        rw [gone_some (s := so) hp]
        exact Ends.ret (L' := trBlk tb mb :: mpBlk mb blk (tdel so T.M) clk :: segs (knS blk (T.gone so x) (fset kv j u6) (fset kH j K6)) T.n) (res1 rfl rfl) ⟨rfl, mb, clk, blk, _, _, gone_some_ok hp hk (by rw [hp3, ← List.length_map (f := blk), List.map_append, List.map_append, List.map_take, List.map_drop]; exact hu6), rfl⟩

theorem tr_tDrop (tb : Nat) (L : Hp) (T : TreeM) (hH : TrH T tb L) (hx : T.Ix) (hn : T.n ≤ 2 ^ 20) (s : SlotM) (hxk : ∀ x, tget s T.M = some x → x ∉ T.kids x) (hxj : ∀ x j, tget s T.M = some x → T.par x = some j → x ∈ T.kids j) : Tr Try.prog 57 [.pointer (some ⟨tb, 0, none⟩), slotV s] L (fun u L' => ∃ e T', u = .int .i64 e ∧ TDrop T s e T' ∧ TrH T' tb L') := by
  cases h : tget s T.M with
  | none => exact (tr_tDrop0 tb L T hH s h).mono fun u L' ⟨hu, hl⟩ => ⟨3, T, hu, .inl ⟨h, rfl, rfl⟩, hl⟩
  | some x =>
    cases hp : T.par x with
    | none => exact (tr_tDrop1 tb L T hH hx hn s x h (hxk x h) hp).mono fun u L' ⟨hu, hl⟩ => ⟨0, _, hu, .inr ⟨x, h, rfl, rfl⟩, hl⟩
    | some j => exact (tr_tDrop2 tb L T hH hx hn s x h (hxk x h) j hp (hxj x j h hp)).mono fun u L' ⟨hu, hl⟩ => ⟨0, _, hu, .inr ⟨x, h, rfl, rfl⟩, hl⟩

end Go.Proofs.Ytdodfnjmkpgdbaa
