/- Walks of layer 7, third part: Count and SlotsCounts. No condition. -/
import Derived.Test.YtpoamckpdpkpoaaM07e
import Derived.Test.YtpoamckpdpkpoaaM07o
import Derived.Test.YtpoamckpdpkpoaaW07b
set_option linter.unusedVariables false
set_option linter.unusedSimpArgs false
namespace Go.Proofs.Ytpoamckpdpkpoaa
open Go.SL
attribute [local irreducible] fullM

set_option maxHeartbeats 2000000 in
theorem tr_count (sb : Nat) (S : StoreM) (k o : Int) (hwf : S.Wf) (ht : S.Tidy) : TrR Try.prog 36 [.pointer (some ⟨sb, 0, none⟩), .int .i64 k, .int .i64 o] (storeHp sb S) (.int .i64 (countM S k o)) := by
  refine Tr.enter Try.func36 rfl Try.ntmps36 rfl (fun W F => ?_)
  refine Wp.app ?_
  refine Wp.seq ?_
  refine Wp.region ?_
  refine Ops.pv (pv_assign rfl) rfl ?_
  refine Ops.nil ?_
  refine Ends.seq ?_
  refine Wp.seq ?_
  refine Wp.region ?_
  refine Ops.pv (pv_assign rfl) rfl ?_
  refine Ops.nil ?_
  refine Ends.seq ?_
  refine Wp.seq ?_
  refine Wp.seq ?_
  refine Wp.region ?_
  refine Ops.pv (pv_move rfl) rfl ?_
  refine Ops.ef rfl (ef_call (tr_full sb S hwf) rfl rfl) ?_
  rintro _ _ ⟨_, _, ⟨H1, hs1, rfl⟩, rfl, rfl⟩
  refine Ops.app ?_
  obtain ⟨p, q, rfl⟩ := hs1.form
  have hv := hs1.view
  refine Ops.pv (pv_len_slice (T := 39) rfl rfl) rfl ?_
  refine Ops.pv (pv_move rfl) rfl ?_
  refine Ops.nil ?_
  refine Ends.seq ?_
  refine Wp.block ?_
  refine Wp.loop (σ := Nat) (fun i => [(0, .pointer (some ⟨sb, 0, none⟩)), (1, .int .i64 k), (2, .int .i64 o), (6, .int .i64 0), (7, .int .i64 (cntUpto S k o i)), (12, .slice p (fullM S).length q), (13, .int .i64 (fullM S).length), (14, .int .i64 i)]) (fun i => H1 ++ (storeHp sb S ++ F)) (fun i => i ≤ (fullM S).length) (fun i => (fullM S).length - i) 0 (Nat.zero_le _) (by exact ⟨rfl, rfl, rfl, rfl, by rw [cntUpto_zero]; rfl, rfl, rfl, rfl, trivial⟩) (by intro w ho; exact Drop.own ho) ?_
  intro i K hi hK
  refine Wp.seq ?_
  refine Wp.region ?_
  refine Ops.pv (pv_lss rfl rfl) rfl ?_
  refine Ops.nil ?_
  refine Ends.seq ?_
  refine Wp.seq ?_
  first | refine Wp.cond_dect rfl (fun h1 => ?_) (fun h1 => ?_) | refine Wp.cond_t rfl (fun h1 => ?_) (fun h1 => ?_)
  · obtain ⟨s, hsi⟩ : ∃ s, (fullM S)[i]? = some s := ⟨_, List.getElem?_eq_getElem (by omega)⟩
    obtain ⟨n, c, hn, hc, hk, hck, hadr, hg⟩ := full_cap ht (List.mem_of_getElem? hsi)
    have hblk := S.blk (sb := sb) hn
    obtain ⟨b, o1, cap, cc, T, f, hv1, hbv, hr⟩ := hv.elem (i := i) (by omega)
    cases hv1
    rw [slots_reads hsi] at hr
    have hfl : (fullM S).length ≤ 1024 := full_len S
    have hcle := cntUpto_le S k o (i + 1)
    have hsu := cntUpto_succ (k := k) (o := o) hsi
    refine Wp.skip ?_
    refine Ends.seq ?_
    refine Wp.seq ?_
    refine Wp.block ?_
    refine Wp.seq ?_
    refine Wp.region ?_
    refine Ops.pv (pv_indexAddr (i := i) rfl rfl rfl (by omega)) rfl ?_
    refine Ops.pv (pv_loadK [.int .i64 s.1, .int .i64 s.2] rfl rfl rfl hr) rfl ?_
    refine Ops.ef rfl (ef_allocK tyZ31 rfl) ?_
    rintro _ _ ⟨b1, rfl, rfl⟩
    refine Ops.ef rfl (ef_storeK rfl rfl rfl rfl) ?_
    rintro _ _ ⟨rfl, rfl⟩
    refine Ops.nil ?_
    refine Ends.seq ?_
    refine Wp.seq ?_
    refine Wp.region ?_
    refine Ops.pv (pv_move rfl) rfl ?_
    refine Ops.pv (pv_loadK [_, _] rfl rfl rfl ⟨rfl, rfl, trivial⟩) rfl ?_
    refine Ops.ef rfl (ef_callr (tr_slot sb S s hwf) rfl rfl) ?_
    rintro _ _ ⟨rfl, rfl⟩
    rw [hadr]
    refine Ops.pv (pv_assign rfl) rfl ?_
    refine Ops.nil ?_
    refine Ends.seq ?_
    refine Wp.seq ?_
    refine Wp.region ?_
    refine Ops.pv (pv_move rfl) rfl ?_
    first | refine Ops.pv (pv_nilCheck rfl) rfl ?_ | refine Ops.pv (pv_nilCheck_func rfl rfl) rfl ?_
    first | refine Ops.pv (pv_fieldAddr0 rfl rfl) rfl ?_ | refine Ops.pv (pv_fieldAddr rfl rfl) rfl ?_
    refine Ops.pv (pv_load rfl rfl (NodeM.reads hc).1) rfl ?_
    refine Ops.pv (pv_move rfl) rfl ?_
    refine Ops.pv (pv_eql rfl rfl) rfl ?_
    refine Ops.pv (pv_move rfl) rfl ?_
    first | refine Ops.split (t := 27) rfl (fun h2 => ?_) (fun h2 => ?_) | refine Ops.splitb (t := 27) rfl (fun h2 => ?_) (fun h2 => ?_)
    · refine Ops.pvg ⟨_, _, rfl, rfl, rfl⟩ (pv_move rfl) rfl ?_
      first | refine Ops.pvg ⟨_, _, rfl, rfl, rfl⟩ (pv_nilCheck rfl) rfl ?_ | refine Ops.pvg ⟨_, _, rfl, rfl, rfl⟩ (pv_nilCheck_func rfl rfl) rfl ?_
      first | refine Ops.pvg ⟨_, _, rfl, rfl, rfl⟩ (pv_fieldAddr0 rfl rfl) rfl ?_ | refine Ops.pvg ⟨_, _, rfl, rfl, rfl⟩ (pv_fieldAddr rfl rfl) rfl ?_
      refine Ops.pvg ⟨_, _, rfl, rfl, rfl⟩ (pv_load rfl rfl (NodeM.reads hc).2.1) rfl ?_
      refine Ops.pvg ⟨_, _, rfl, rfl, rfl⟩ (pv_move rfl) rfl ?_
      refine Ops.pvg ⟨_, _, rfl, rfl, rfl⟩ (pv_eql rfl rfl) rfl ?_
      refine Ops.pv (pv_pick_true rfl rfl) rfl ?_
      refine Ops.nil ?_
      refine Ends.seq ?_
      first | refine Wp.cond_dect rfl (fun h3 => ?_) (fun h3 => ?_) | refine Wp.cond_t rfl (fun h3 => ?_) (fun h3 => ?_)
      · refine Wp.region ?_
        refine Ops.pv (pv_move rfl) rfl ?_
        refine Ops.pv (pv_add rfl rfl (w64n (k := cntUpto S k o (i + 1)) (by rw [hsu, if_pos (by simp [isKO, hg, ‹c.kind = k›, ‹c.object = o›])]; omega) (by omega))) rfl ?_
        refine Ops.pv (pv_assign rfl) rfl ?_
        refine Ops.nil ?_
        refine Ends.block_normal ?_
        refine Ends.seq ?_
        refine Wp.region ?_
        first | refine Ops.pv (pv_add rfl rfl (w64 (by omega) (by omega))) rfl ?_ | refine Ops.pv (pv_add rfl rfl rfl) rfl ?_
        refine Ops.pv (pv_move rfl) rfl ?_
        refine Ops.nil ?_
        refine Ends.goes ?_
        refine Goes.back (hK (i + 1) (by omega) (by omega)) ⟨rfl, rfl, rfl, rfl, rfl, rfl, rfl, rfl, trivial⟩
      · refine Wp.skip ?_
        refine Ends.block_normal ?_
        refine Ends.seq ?_
        refine Wp.region ?_
        first | refine Ops.pv (pv_add rfl rfl (w64 (by omega) (by omega))) rfl ?_ | refine Ops.pv (pv_add rfl rfl rfl) rfl ?_
        refine Ops.pv (pv_move rfl) rfl ?_
        refine Ops.nil ?_
        refine Ends.goes ?_
        have e1 : cntUpto S k o (i + 1) = cntUpto S k o i := by rw [hsu, if_neg (by simp only [isKO, hg, Bool.and_eq_true, decide_eq_true_eq]; rintro ⟨x1, x2⟩; first | exact absurd x2 (by assumption) | exact absurd x1 (by assumption))]; rfl
        refine Goes.back (hK (i + 1) (by omega) (by omega)) ⟨rfl, rfl, rfl, rfl, by rw [e1]; rfl, rfl, rfl, rfl, trivial⟩
    · refine Ops.skipg ⟨_, _, rfl, rfl, rfl⟩ rfl ?_
      refine Ops.skipg ⟨_, _, rfl, rfl, rfl⟩ rfl ?_
      refine Ops.skipg ⟨_, _, rfl, rfl, rfl⟩ rfl ?_
      refine Ops.skipg ⟨_, _, rfl, rfl, rfl⟩ rfl ?_
      refine Ops.skipg ⟨_, _, rfl, rfl, rfl⟩ rfl ?_
      refine Ops.skipg ⟨_, _, rfl, rfl, rfl⟩ rfl ?_
      refine Ops.pv (pv_pick_false rfl rfl) rfl ?_
      refine Ops.nil ?_
      refine Ends.seq ?_
      refine Wp.cond_false rfl ?_
      refine Wp.skip ?_
      refine Ends.block_normal ?_
      refine Ends.seq ?_
      refine Wp.region ?_
      first | refine Ops.pv (pv_add rfl rfl (w64 (by omega) (by omega))) rfl ?_ | refine Ops.pv (pv_add rfl rfl rfl) rfl ?_
      refine Ops.pv (pv_move rfl) rfl ?_
      refine Ops.nil ?_
      refine Ends.goes ?_
      have e1 : cntUpto S k o (i + 1) = cntUpto S k o i := by rw [hsu, if_neg (by simp only [isKO, hg, Bool.and_eq_true, decide_eq_true_eq]; rintro ⟨x1, x2⟩; first | exact absurd x2 (by assumption) | exact absurd x1 (by assumption))]; rfl
      refine Goes.back (hK (i + 1) (by omega) (by omega)) ⟨rfl, rfl, rfl, rfl, by rw [e1]; rfl, rfl, rfl, rfl, trivial⟩
  · obtain rfl : i = (fullM S).length := by omega
    refine Wp.exit ?_
    refine Ends.then_exit ?_
    refine Ends.then_exit ?_
    refine Ends.block_hit ?_
    refine Ends.seq ?_
    refine Wp.seq ?_
    refine Wp.region ?_
    refine Ops.pv (pv_move rfl) rfl ?_
    refine Ops.pv (pv_assign rfl) rfl ?_
    refine Ops.nil ?_
    refine Ends.seq ?_
    refine Wp.ret ?_
    exact Ends.ret (res1 rfl rfl) ⟨by rw [cntUpto_all], rfl⟩

set_option maxHeartbeats 4000000 in
theorem tr_slotsCounts (G : Hp) (a : Option Addr) (c : Nat) (l : List OpM) (ha : ArgS G 10 a (l.map OpM.cells)) (hl : l.length ≤ maxLen) : TrR Try.prog 8 [.slice a l.length c] (G) (.bool true) := by
  refine Tr.enter Try.func8 rfl Try.ntmps8 rfl (fun W F => ?_)
  refine Wp.app ?_
  refine Wp.seq ?_
  refine Wp.region ?_
  refine Ops.pv (pv_assign rfl) rfl ?_
  refine Ops.nil ?_
  refine Ends.seq ?_
  refine Wp.seq ?_
  refine Wp.seq ?_
  refine Wp.region ?_
  refine Ops.ef rfl (ef_callr (tr_works7) rfl rfl) ?_
  rintro _ _ ⟨rfl, rfl⟩
  first | refine Ops.pv (pv_not_dec rfl) rfl ?_ | refine Ops.pv (pv_not rfl) rfl ?_
  refine Ops.nil ?_
  refine Ends.seq ?_
  refine Wp.cond_false rfl ?_
  refine Wp.skip ?_
  refine Ends.seq ?_
  refine Wp.seq ?_
  refine Wp.region ?_
  refine Ops.ef rfl (ef_call (tr_slotsNew) rfl rfl) ?_
  rintro _ _ ⟨_, _, ⟨sb1, S1, rfl, rfl, hS1⟩, rfl, rfl⟩
  refine Ops.app ?_
  refine Ops.pv (pv_assign rfl) rfl ?_
  refine Ops.nil ?_
  refine Ends.seq ?_
  refine Wp.seq ?_
  refine Wp.region ?_
  refine Ops.pv (pv_move rfl) rfl ?_
  refine Ops.ef rfl (ef_call (tr_add_ok (S := S1) (id := 0) (by rw [hS1]; rfl) 4 sb1 (by decide) (by decide) (by decide) (by decide)) rfl rfl) ?_
  rintro _ _ ⟨_, _, ⟨rfl, b1, rfl⟩, rfl, rfl⟩
  refine Ops.app ?_
  refine Ops.nil ?_
  refine Ends.seq ?_
  refine Wp.seq ?_
  refine Wp.region ?_
  refine Ops.pv (pv_move rfl) rfl ?_
  refine Ops.ef rfl (ef_call (tr_add_ok (S := S1.addNode 0 b1 4) (id := 1) (by rw [add_nodes0 hS1]; rfl) 2 sb1 (by decide) (by decide) (by decide) (by decide)) rfl rfl) ?_
  rintro _ _ ⟨_, _, ⟨rfl, b2, rfl⟩, rfl, rfl⟩
  refine Ops.app ?_
  have hn0 : nget 0 S1.nodes = none := by rw [hS1]; rfl
  have hn1 : nget 1 (S1.addNode 0 b1 4).nodes = none := by rw [add_nodes0 hS1]; rfl
  have hw2 := addNode_wf hn1 b2 2 (addNode_wf hn0 b1 4 (wf_new hS1) (by decide) (by decide) (by decide) (by decide)) (by decide) (by decide) (by decide) (by decide)
  have ht2 := tidy_add (tidy_add (tidy_new hS1) hn0 b1 4) hn1 b2 2
  refine Ops.nil ?_
  refine Ends.seq ?_
  refine Wp.seq ?_
  refine Wp.seq ?_
  refine Wp.region ?_
  refine Ops.pv (pv_assign rfl) rfl ?_
  refine Ops.nil ?_
  refine Ends.seq ?_
  refine Wp.block ?_
  refine Wp.loop (σ := Nat × StoreM) (fun x => [(0, .slice a l.length c), (2, .bool false), (3, .pointer (some ⟨sb1, 0, none⟩)), (4, .int .i64 x.1)]) (fun x => storeHp sb1 x.2 ++ (G ++ F)) (fun x => x.2.Wf ∧ x.2.Tidy) (fun x => l.length - x.1) (0, _) ⟨hw2, ht2⟩ (by exact ⟨rfl, rfl, rfl, rfl, trivial⟩) (by intro w ho; exact ho) ?_
  rintro ⟨i, S⟩ K ⟨hwf, ht⟩ hK
  dsimp only at hwf ht hK ⊢
  refine Wp.seq ?_
  refine Wp.seq ?_
  refine Wp.region ?_
  refine Ops.pv (pv_move rfl) rfl ?_
  refine Ops.pv (pv_move rfl) rfl ?_
  refine Ops.pv (pv_len_slice (T := 37) rfl rfl) rfl ?_
  refine Ops.pv (pv_lss rfl rfl) rfl ?_
  refine Ops.pv (pv_move rfl) rfl ?_
  first | refine Ops.split (t := 23) rfl (fun h1 => ?_) (fun h1 => ?_) | refine Ops.splitb (t := 23) rfl (fun h1 => ?_) (fun h1 => ?_)
  · refine Ops.pvg ⟨_, _, rfl, rfl, rfl⟩ (pv_move rfl) rfl ?_
    refine Ops.pvg ⟨_, _, rfl, rfl, rfl⟩ (pv_lss rfl rfl) rfl ?_
    refine Ops.pv (pv_pick_true rfl rfl) rfl ?_
    refine Ops.nil ?_
    refine Ends.seq ?_
    first | refine Wp.cond_dect rfl (fun h2 => ?_) (fun h2 => ?_) | refine Wp.cond_t rfl (fun h2 => ?_) (fun h2 => ?_)
    · obtain ⟨x, hq⟩ : ∃ x, l[i]? = some x := ⟨_, List.getElem?_eq_getElem (by omega)⟩
      obtain ⟨_, b, o, cc, T, f, rfl, hm, hr⟩ := ha i x.cells (by rw [List.getElem?_map, hq]; rfl)
      have hbg : Blk G b (.cells cc.toArray T f) := ⟨hm⟩
      obtain ⟨r0, r1, r2, r3, r4, r5, r6, r7, r8, r9, _⟩ := hr
      refine Wp.skip ?_
      refine Ends.seq ?_
      refine Wp.seq ?_
      refine Wp.block ?_
      refine AnyH.start G 12 rfl ?_
      refine AnyH.take 0 rfl (by kernel_rfl) (by kernel_rfl) (by kernel_rfl) PF.pf rfl (pv_move rfl) rfl ?_
      refine AnyH.take 1 rfl (by kernel_rfl) (by kernel_rfl) (by kernel_rfl) PF.pf rfl (pv_move rfl) rfl ?_
      refine AnyH.take 2 rfl (by kernel_rfl) (by kernel_rfl) (by kernel_rfl) PF.pf rfl (pv_move rfl) rfl ?_
      refine AnyH.take 3 rfl (by kernel_rfl) (by kernel_rfl) (by kernel_rfl) PF.pf rfl (pv_indexAddr (i := i) rfl rfl rfl (by omega)) rfl ?_
      first | refine AnyH.take 4 rfl (by kernel_rfl) (by kernel_rfl) (by kernel_rfl) PF.pf rfl (pv_fieldAddr0 rfl rfl) rfl ?_ | refine AnyH.take 4 rfl (by kernel_rfl) (by kernel_rfl) (by kernel_rfl) PF.pf rfl (pv_fieldAddr rfl rfl) rfl ?_
      refine AnyH.take 5 rfl (by kernel_rfl) (by kernel_rfl) (by kernel_rfl) PF.pf rfl (pv_loadK [.int .i64 x.slot.1, .int .i64 x.slot.2] rfl rfl rfl ⟨r1, r2, trivial⟩) rfl ?_
      refine AnyH.take 6 rfl (by kernel_rfl) (by kernel_rfl) (by kernel_rfl) PF.pf rfl (pv_move rfl) rfl ?_
      refine AnyH.take 7 rfl (by kernel_rfl) (by kernel_rfl) (by kernel_rfl) PF.pf rfl (pv_move rfl) rfl ?_
      refine AnyH.take 8 rfl (by kernel_rfl) (by kernel_rfl) (by kernel_rfl) PF.pf rfl (pv_indexAddr (i := i) rfl rfl rfl (by omega)) rfl ?_
      first | refine AnyH.take 9 rfl (by kernel_rfl) (by kernel_rfl) (by kernel_rfl) PF.pf rfl (pv_fieldAddr0 rfl rfl) rfl ?_ | refine AnyH.take 9 rfl (by kernel_rfl) (by kernel_rfl) (by kernel_rfl) PF.pf rfl (pv_fieldAddr rfl rfl) rfl ?_
      refine AnyH.take 10 rfl (by kernel_rfl) (by kernel_rfl) (by kernel_rfl) PF.pf rfl (pv_loadK x.c.cells rfl rfl rfl ⟨r4, r5, r6, r7, r8, r9, trivial⟩) rfl ?_
      refine AnyH.one 11 (by kernel_rfl) ?_
      refine Turn.ef rfl rfl (ef_call (tr_put sb1 S x.slot x.c hwf) rfl rfl) ?_ ?_
      · rintro _ _ ⟨_, _, ⟨rfl, rfl⟩, rfl, rfl⟩; infer_instance
      rintro _ _ ⟨_, _, ⟨rfl, rfl⟩, rfl, rfl⟩
      refine AnyH.app ?_
      refine AnyH.done (by kernel_rfl) ?_
      refine Ends.block_normal ?_
      refine Ends.seq ?_
      refine Wp.region ?_
      refine Ops.pv (pv_move rfl) rfl ?_
      first | refine Ops.pv (pv_add rfl rfl (w64 (by omega) (by omega))) rfl ?_ | refine Ops.pv (pv_add rfl rfl rfl) rfl ?_
      refine Ops.pv (pv_assign rfl) rfl ?_
      refine Ops.nil ?_
      refine Ends.goes ?_
      refine Goes.back (hK (i + 1, (S.put x.slot x.c).2) ⟨put_wf hwf _ _, tidy_put ht hwf _ _⟩ (by dsimp only; omega)) ⟨rfl, rfl, rfl, rfl, trivial⟩
    · refine Wp.exit ?_
      refine Ends.then_exit ?_
      refine Ends.then_exit ?_
      refine Ends.block_hit ?_
      refine Ends.seq ?_
      refine Wp.seq ?_
      refine Wp.region ?_
      refine Ops.pv (pv_assign rfl) rfl ?_
      refine Ops.nil ?_
      refine Ends.seq ?_
      refine Wp.seq ?_
      refine Wp.seq ?_
      refine Wp.region ?_
      refine Ops.pv (pv_assign rfl) rfl ?_
      refine Ops.nil ?_
      refine Ends.seq ?_
      refine Wp.block ?_
      refine Wp.loop (σ := Nat) (fun kd => [(0, .slice a l.length c), (2, .bool false), (3, .pointer (some ⟨sb1, 0, none⟩)), (5, .int .i64 (sumK S kd)), (6, .int .i64 kd)]) (fun _ => storeHp sb1 S ++ (G ++ F)) (fun kd => kd ≤ 12) (fun kd => 12 - kd) 0 (by omega) (by exact ⟨rfl, rfl, rfl, rfl, rfl, trivial⟩) (by intro w ho; exact ho) ?_
      intro kd K2 hkd hK2
      refine Wp.seq ?_
      refine Wp.seq ?_
      refine Wp.region ?_
      refine Ops.pv (pv_move rfl) rfl ?_
      refine Ops.pv (pv_leq rfl rfl) rfl ?_
      refine Ops.nil ?_
      refine Ends.seq ?_
      first | refine Wp.cond_dect rfl (fun h3 => ?_) (fun h3 => ?_) | refine Wp.cond_t rfl (fun h3 => ?_) (fun h3 => ?_)
      · refine Wp.skip ?_
        refine Ends.seq ?_
        refine Wp.seq ?_
        refine Wp.block ?_
        refine Wp.seq ?_
        refine Wp.region ?_
        refine Ops.pv (pv_assign rfl) rfl ?_
        refine Ops.nil ?_
        refine Ends.seq ?_
        refine Wp.block ?_
        refine Wp.loop (σ := Nat) (fun ob => [(0, .slice a l.length c), (2, .bool false), (3, .pointer (some ⟨sb1, 0, none⟩)), (5, .int .i64 ((sumK S kd + sumO S kd ob : Nat) : Int)), (6, .int .i64 kd), (7, .int .i64 ob)]) (fun _ => storeHp sb1 S ++ (G ++ F)) (fun ob => ob ≤ 64) (fun ob => 64 - ob) 0 (by omega) (by exact ⟨rfl, rfl, rfl, rfl, rfl, rfl, trivial⟩) (by intro w ho; exact ho) ?_
        intro ob K3 hob hK3
        have hb1 := sumK_le S kd
        have hb2 := sumO_le S kd (ob + 1)
        have hb3 : sumO S kd (ob + 1) = sumO S kd ob + countM S kd ob := rfl
        refine Wp.seq ?_
        refine Wp.seq ?_
        refine Wp.region ?_
        refine Ops.pv (pv_move rfl) rfl ?_
        refine Ops.pv (pv_lss rfl rfl) rfl ?_
        refine Ops.nil ?_
        refine Ends.seq ?_
        first | refine Wp.cond_dect rfl (fun h4 => ?_) (fun h4 => ?_) | refine Wp.cond_t rfl (fun h4 => ?_) (fun h4 => ?_)
        · refine Wp.skip ?_
          refine Ends.seq ?_
          refine Wp.seq ?_
          refine Wp.block ?_
          refine Wp.region ?_
          refine Ops.pv (pv_move rfl) rfl ?_
          refine Ops.pv (pv_move rfl) rfl ?_
          refine Ops.pv (pv_move rfl) rfl ?_
          refine Ops.pv (pv_move rfl) rfl ?_
          refine Ops.ef rfl (ef_callr (tr_count sb1 S (kd : Int) (ob : Int) hwf ht) rfl rfl) ?_
          rintro _ _ ⟨rfl, rfl⟩
          refine Ops.pv (pv_add rfl rfl (w64n (k := sumK S kd + sumO S kd (ob + 1)) (by omega) (by omega))) rfl ?_
          refine Ops.pv (pv_assign rfl) rfl ?_
          refine Ops.nil ?_
          refine Ends.block_normal ?_
          refine Ends.seq ?_
          refine Wp.region ?_
          refine Ops.pv (pv_move rfl) rfl ?_
          first | refine Ops.pv (pv_add rfl rfl (w64 (by omega) (by omega))) rfl ?_ | refine Ops.pv (pv_add rfl rfl rfl) rfl ?_
          refine Ops.pv (pv_assign rfl) rfl ?_
          refine Ops.nil ?_
          refine Ends.goes ?_
          refine Goes.back (hK3 (ob + 1) (by omega) (by omega)) ⟨rfl, rfl, rfl, rfl, rfl, rfl, trivial⟩
        · obtain rfl : ob = 64 := by omega
          refine Wp.exit ?_
          refine Ends.then_exit ?_
          refine Ends.then_exit ?_
          refine Ends.block_hit ?_
          refine Ends.block_normal ?_
          refine Ends.seq ?_
          refine Wp.region ?_
          refine Ops.pv (pv_move rfl) rfl ?_
          first | refine Ops.pv (pv_add rfl rfl (w64 (by omega) (by omega))) rfl ?_ | refine Ops.pv (pv_add rfl rfl rfl) rfl ?_
          refine Ops.pv (pv_assign rfl) rfl ?_
          refine Ops.nil ?_
          refine Ends.goes ?_
          refine Goes.back (hK2 (kd + 1) (by omega) (by omega)) ⟨rfl, rfl, rfl, rfl, rfl, trivial⟩
      · obtain rfl : kd = 12 := by omega
        refine Wp.exit ?_
        refine Ends.then_exit ?_
        refine Ends.then_exit ?_
        refine Ends.block_hit ?_
        refine Ends.seq ?_
        refine Wp.seq ?_
        refine Wp.region ?_
        refine Ops.pv (pv_move rfl) rfl ?_
        refine Ops.ef rfl (ef_call (tr_full sb1 S hwf) rfl rfl) ?_
        rintro _ _ ⟨_, _, ⟨H1, hs1, rfl⟩, rfl, rfl⟩
        refine Ops.app ?_
        obtain ⟨p, q, rfl⟩ := hs1.form
        have hv := hs1.view
        refine Ops.pv (pv_assign rfl) rfl ?_
        refine Ops.nil ?_
        refine Ends.seq ?_
        refine Wp.seq ?_
        refine Wp.seq ?_
        refine Wp.region ?_
        refine Ops.pv (pv_assign rfl) rfl ?_
        refine Ops.nil ?_
        refine Ends.seq ?_
        refine Wp.block ?_
        have hsall := sum_all ht
        have hfl := full_len S
        refine Wp.loop (σ := Nat) (fun i => [(0, .slice a l.length c), (2, .bool false), (3, .pointer (some ⟨sb1, 0, none⟩)), (5, .int .i64 (fullM S).length), (8, .slice p (fullM S).length q), (9, .int .i64 i)]) (fun _ => H1 ++ (storeHp sb1 S ++ (G ++ F))) (fun i => 1 ≤ i) (fun i => (fullM S).length - i) 1 (by omega) (by exact ⟨rfl, rfl, rfl, congrArg (fun n : Nat => some (Value.int .i64 n)) hsall, rfl, rfl, trivial⟩) (by intro w ho; exact ho) ?_
        intro i K4 hi hK4
        refine Wp.seq ?_
        refine Wp.seq ?_
        refine Wp.region ?_
        refine Ops.pv (pv_move rfl) rfl ?_
        refine Ops.pv (pv_move rfl) rfl ?_
        refine Ops.pv (pv_len_slice (T := 39) rfl rfl) rfl ?_
        refine Ops.pv (pv_lss rfl rfl) rfl ?_
        refine Ops.nil ?_
        refine Ends.seq ?_
        first | refine Wp.cond_dect rfl (fun h5 => ?_) (fun h5 => ?_) | refine Wp.cond_t rfl (fun h5 => ?_) (fun h5 => ?_)
        · obtain ⟨b9, o9, cap, cc, T, f, hv1, hbv, hr⟩ := hv.open (by omega)
          cases hv1
          obtain ⟨u, hu⟩ : ∃ u, (fullM S)[i - 1]? = some u := ⟨_, List.getElem?_eq_getElem (by omega)⟩
          obtain ⟨v, hvi⟩ : ∃ v, (fullM S)[i]? = some v := ⟨_, List.getElem?_eq_getElem (by omega)⟩
          have hru := hr.sub (i := (i - 1) * 2) (l := 2)
          have hrv := hr.sub (i := i * 2) (l := 2)
          rw [slots_reads hu] at hru
          rw [slots_reads hvi] at hrv
          have hlt := full_lt (by omega) hu hvi
          refine Wp.skip ?_
          refine Ends.seq ?_
          refine Wp.seq ?_
          refine Wp.block ?_
          refine Wp.seq ?_
          refine AnyH.start H1 13 rfl ?_
          refine AnyH.take 0 rfl (by kernel_rfl) (by kernel_rfl) (by kernel_rfl) PF.pf rfl (pv_move rfl) rfl ?_
          refine AnyH.take 1 rfl (by kernel_rfl) (by kernel_rfl) (by kernel_rfl) PF.pf rfl (pv_move rfl) rfl ?_
          refine AnyH.take 2 rfl (by kernel_rfl) (by kernel_rfl) (by kernel_rfl) PF.pf rfl (pv_sub rfl rfl (w64n (k := i - 1) (by omega) (by omega))) rfl ?_
          refine AnyH.take 3 rfl (by kernel_rfl) (by kernel_rfl) (by kernel_rfl) PF.pf rfl (pv_indexAddr (i := i - 1) rfl rfl rfl (by omega)) rfl ?_
          refine AnyH.take 4 rfl (by kernel_rfl) (by kernel_rfl) (by kernel_rfl) PF.pf rfl (pv_loadK [.int .i64 u.1, .int .i64 u.2] rfl rfl rfl hru) rfl ?_
          refine AnyH.take 5 rfl (by kernel_rfl) (by kernel_rfl) (by kernel_rfl) PF.pf rfl (pv_move rfl) rfl ?_
          refine AnyH.take 6 rfl (by kernel_rfl) (by kernel_rfl) (by kernel_rfl) PF.pf rfl (pv_move rfl) rfl ?_
          refine AnyH.take 7 rfl (by kernel_rfl) (by kernel_rfl) (by kernel_rfl) PF.pf rfl (pv_indexAddr (i := i) rfl rfl rfl (by omega)) rfl ?_
          refine AnyH.take 8 rfl (by kernel_rfl) (by kernel_rfl) (by kernel_rfl) PF.pf rfl (pv_loadK [.int .i64 v.1, .int .i64 v.2] rfl rfl rfl hrv) rfl ?_
          refine AnyH.two 9 10 (by kernel_rfl) ?_ ?_
          · refine Turn.ef rfl rfl (ef_allocK tyZ31 rfl) ?_ ?_
            · rintro _ _ ⟨b3, rfl, rfl⟩; infer_instance
            rintro _ _ ⟨b3, rfl, rfl⟩
            refine AnyH.one 10 (by kernel_rfl) ?_
            refine Turn.ef rfl rfl (ef_allocK tyZ31 rfl) ?_ ?_
            · rintro _ _ ⟨b4, rfl, rfl⟩; infer_instance
            rintro _ _ ⟨b4, rfl, rfl⟩
            refine AnyH.one 11 (by kernel_rfl) ?_
            refine Turn.ef rfl rfl (ef_storeK rfl rfl rfl rfl) ?_ ?_
            · rintro _ _ ⟨rfl, rfl⟩; infer_instance
            rintro _ _ ⟨rfl, rfl⟩
            refine AnyH.one 12 (by kernel_rfl) ?_
            refine Turn.ef rfl rfl (ef_storeK rfl rfl rfl rfl) ?_ ?_
            · rintro _ _ ⟨rfl, rfl⟩; infer_instance
            rintro _ _ ⟨rfl, rfl⟩
            refine AnyH.done (by kernel_rfl) ?_
            refine Ends.seq ?_
            refine Wp.seq ?_
            refine Wp.region ?_
            first | refine Ops.pv (pv_fieldAddr0 rfl rfl) rfl ?_ | refine Ops.pv (pv_fieldAddr rfl rfl) rfl ?_
            first | refine Ops.pv (pv_load rfl rfl rfl) rfl ?_ | refine Ops.pv (pv_load rfl rfl (by assumption)) rfl ?_
            first | refine Ops.pv (pv_fieldAddr0 rfl rfl) rfl ?_ | refine Ops.pv (pv_fieldAddr rfl rfl) rfl ?_
            first | refine Ops.pv (pv_load rfl rfl rfl) rfl ?_ | refine Ops.pv (pv_load rfl rfl (by assumption)) rfl ?_
            refine Ops.pv ((pv_gtr rfl rfl).fls (by rcases hlt with h | ⟨h, _⟩ <;> omega)) rfl ?_
            refine Ops.pv (pv_move rfl) rfl ?_
            first | refine Ops.pvg ⟨_, _, rfl, rfl, rfl⟩ (pv_fieldAddr0 rfl rfl) rfl ?_ | refine Ops.pvg ⟨_, _, rfl, rfl, rfl⟩ (pv_fieldAddr rfl rfl) rfl ?_
            first | refine Ops.pvg ⟨_, _, rfl, rfl, rfl⟩ (pv_load rfl rfl rfl) rfl ?_ | refine Ops.pvg ⟨_, _, rfl, rfl, rfl⟩ (pv_load rfl rfl (by assumption)) rfl ?_
            first | refine Ops.pvg ⟨_, _, rfl, rfl, rfl⟩ (pv_fieldAddr0 rfl rfl) rfl ?_ | refine Ops.pvg ⟨_, _, rfl, rfl, rfl⟩ (pv_fieldAddr rfl rfl) rfl ?_
            first | refine Ops.pvg ⟨_, _, rfl, rfl, rfl⟩ (pv_load rfl rfl rfl) rfl ?_ | refine Ops.pvg ⟨_, _, rfl, rfl, rfl⟩ (pv_load rfl rfl (by assumption)) rfl ?_
            refine Ops.pvg ⟨_, _, rfl, rfl, rfl⟩ (pv_eql rfl rfl) rfl ?_
            refine Ops.pvg ⟨_, _, rfl, rfl, rfl⟩ (pv_move rfl) rfl ?_
            first | refine Ops.split (t := 83) rfl (fun h6 => ?_) (fun h6 => ?_) | refine Ops.splitb (t := 83) rfl (fun h6 => ?_) (fun h6 => ?_)
            · first | refine Ops.pvg ⟨_, _, rfl, rfl, rfl⟩ (pv_fieldAddr0 rfl rfl) rfl ?_ | refine Ops.pvg ⟨_, _, rfl, rfl, rfl⟩ (pv_fieldAddr rfl rfl) rfl ?_
              first | refine Ops.pvg ⟨_, _, rfl, rfl, rfl⟩ (pv_load rfl rfl rfl) rfl ?_ | refine Ops.pvg ⟨_, _, rfl, rfl, rfl⟩ (pv_load rfl rfl (by assumption)) rfl ?_
              first | refine Ops.pvg ⟨_, _, rfl, rfl, rfl⟩ (pv_fieldAddr0 rfl rfl) rfl ?_ | refine Ops.pvg ⟨_, _, rfl, rfl, rfl⟩ (pv_fieldAddr rfl rfl) rfl ?_
              first | refine Ops.pvg ⟨_, _, rfl, rfl, rfl⟩ (pv_load rfl rfl rfl) rfl ?_ | refine Ops.pvg ⟨_, _, rfl, rfl, rfl⟩ (pv_load rfl rfl (by assumption)) rfl ?_
              refine Ops.pvg ⟨_, _, rfl, rfl, rfl⟩ ((pv_geq rfl rfl).fls (by rcases hlt with h | ⟨h, h'⟩ <;> omega)) rfl ?_
              refine Ops.pvg ⟨_, _, rfl, rfl, rfl⟩ (pv_pick_true rfl rfl) rfl ?_
              refine Ops.pv (pv_pick_false rfl rfl) rfl ?_
              refine Ops.nil ?_
              refine Ends.seq ?_
              refine Wp.cond_false rfl ?_
              refine Wp.skip ?_
              refine Ends.block_normal ?_
              refine Ends.seq ?_
              refine Wp.region ?_
              refine Ops.pv (pv_move rfl) rfl ?_
              first | refine Ops.pv (pv_add rfl rfl (w64 (by omega) (by omega))) rfl ?_ | refine Ops.pv (pv_add rfl rfl rfl) rfl ?_
              refine Ops.pv (pv_assign rfl) rfl ?_
              refine Ops.nil ?_
              refine Ends.goes ?_
              refine Goes.back (hK4 (i + 1) (by omega) (by omega)) ⟨rfl, rfl, rfl, rfl, rfl, rfl, trivial⟩
            · refine Ops.skipg ⟨_, _, rfl, rfl, rfl⟩ rfl ?_
              refine Ops.skipg ⟨_, _, rfl, rfl, rfl⟩ rfl ?_
              refine Ops.skipg ⟨_, _, rfl, rfl, rfl⟩ rfl ?_
              refine Ops.skipg ⟨_, _, rfl, rfl, rfl⟩ rfl ?_
              refine Ops.skipg ⟨_, _, rfl, rfl, rfl⟩ rfl ?_
              refine Ops.pvg ⟨_, _, rfl, rfl, rfl⟩ (pv_pick_false rfl rfl) rfl ?_
              refine Ops.pv (pv_pick_false rfl rfl) rfl ?_
              refine Ops.nil ?_
              refine Ends.seq ?_
              refine Wp.cond_false rfl ?_
              refine Wp.skip ?_
              refine Ends.block_normal ?_
              refine Ends.seq ?_
              refine Wp.region ?_
              refine Ops.pv (pv_move rfl) rfl ?_
              first | refine Ops.pv (pv_add rfl rfl (w64 (by omega) (by omega))) rfl ?_ | refine Ops.pv (pv_add rfl rfl rfl) rfl ?_
              refine Ops.pv (pv_assign rfl) rfl ?_
              refine Ops.nil ?_
              refine Ends.goes ?_
              refine Goes.back (hK4 (i + 1) (by omega) (by omega)) ⟨rfl, rfl, rfl, rfl, rfl, rfl, trivial⟩
          · refine Turn.ef rfl rfl (ef_allocK tyZ31 rfl) ?_ ?_
            · rintro _ _ ⟨b5, rfl, rfl⟩; infer_instance
            rintro _ _ ⟨b5, rfl, rfl⟩
            refine AnyH.one 9 (by kernel_rfl) ?_
            refine Turn.ef rfl rfl (ef_allocK tyZ31 rfl) ?_ ?_
            · rintro _ _ ⟨b6, rfl, rfl⟩; infer_instance
            rintro _ _ ⟨b6, rfl, rfl⟩
            refine AnyH.one 11 (by kernel_rfl) ?_
            refine Turn.ef rfl rfl (ef_storeK rfl rfl rfl rfl) ?_ ?_
            · rintro _ _ ⟨rfl, rfl⟩; infer_instance
            rintro _ _ ⟨rfl, rfl⟩
            refine AnyH.one 12 (by kernel_rfl) ?_
            refine Turn.ef rfl rfl (ef_storeK rfl rfl rfl rfl) ?_ ?_
            · rintro _ _ ⟨rfl, rfl⟩; infer_instance
            rintro _ _ ⟨rfl, rfl⟩
            refine AnyH.done (by kernel_rfl) ?_
            refine Ends.seq ?_
            refine Wp.seq ?_
            refine Wp.region ?_
            first | refine Ops.pv (pv_fieldAddr0 rfl rfl) rfl ?_ | refine Ops.pv (pv_fieldAddr rfl rfl) rfl ?_
            first | refine Ops.pv (pv_load rfl rfl rfl) rfl ?_ | refine Ops.pv (pv_load rfl rfl (by assumption)) rfl ?_
            first | refine Ops.pv (pv_fieldAddr0 rfl rfl) rfl ?_ | refine Ops.pv (pv_fieldAddr rfl rfl) rfl ?_
            first | refine Ops.pv (pv_load rfl rfl rfl) rfl ?_ | refine Ops.pv (pv_load rfl rfl (by assumption)) rfl ?_
            refine Ops.pv ((pv_gtr rfl rfl).fls (by rcases hlt with h | ⟨h, _⟩ <;> omega)) rfl ?_
            refine Ops.pv (pv_move rfl) rfl ?_
            first | refine Ops.pvg ⟨_, _, rfl, rfl, rfl⟩ (pv_fieldAddr0 rfl rfl) rfl ?_ | refine Ops.pvg ⟨_, _, rfl, rfl, rfl⟩ (pv_fieldAddr rfl rfl) rfl ?_
            first | refine Ops.pvg ⟨_, _, rfl, rfl, rfl⟩ (pv_load rfl rfl rfl) rfl ?_ | refine Ops.pvg ⟨_, _, rfl, rfl, rfl⟩ (pv_load rfl rfl (by assumption)) rfl ?_
            first | refine Ops.pvg ⟨_, _, rfl, rfl, rfl⟩ (pv_fieldAddr0 rfl rfl) rfl ?_ | refine Ops.pvg ⟨_, _, rfl, rfl, rfl⟩ (pv_fieldAddr rfl rfl) rfl ?_
            first | refine Ops.pvg ⟨_, _, rfl, rfl, rfl⟩ (pv_load rfl rfl rfl) rfl ?_ | refine Ops.pvg ⟨_, _, rfl, rfl, rfl⟩ (pv_load rfl rfl (by assumption)) rfl ?_
            refine Ops.pvg ⟨_, _, rfl, rfl, rfl⟩ (pv_eql rfl rfl) rfl ?_
            refine Ops.pvg ⟨_, _, rfl, rfl, rfl⟩ (pv_move rfl) rfl ?_
            first | refine Ops.split (t := 83) rfl (fun h7 => ?_) (fun h7 => ?_) | refine Ops.splitb (t := 83) rfl (fun h7 => ?_) (fun h7 => ?_)
            · first | refine Ops.pvg ⟨_, _, rfl, rfl, rfl⟩ (pv_fieldAddr0 rfl rfl) rfl ?_ | refine Ops.pvg ⟨_, _, rfl, rfl, rfl⟩ (pv_fieldAddr rfl rfl) rfl ?_
              first | refine Ops.pvg ⟨_, _, rfl, rfl, rfl⟩ (pv_load rfl rfl rfl) rfl ?_ | refine Ops.pvg ⟨_, _, rfl, rfl, rfl⟩ (pv_load rfl rfl (by assumption)) rfl ?_
              first | refine Ops.pvg ⟨_, _, rfl, rfl, rfl⟩ (pv_fieldAddr0 rfl rfl) rfl ?_ | refine Ops.pvg ⟨_, _, rfl, rfl, rfl⟩ (pv_fieldAddr rfl rfl) rfl ?_
              first | refine Ops.pvg ⟨_, _, rfl, rfl, rfl⟩ (pv_load rfl rfl rfl) rfl ?_ | refine Ops.pvg ⟨_, _, rfl, rfl, rfl⟩ (pv_load rfl rfl (by assumption)) rfl ?_
              refine Ops.pvg ⟨_, _, rfl, rfl, rfl⟩ ((pv_geq rfl rfl).fls (by rcases hlt with h | ⟨h, h'⟩ <;> omega)) rfl ?_
              refine Ops.pvg ⟨_, _, rfl, rfl, rfl⟩ (pv_pick_true rfl rfl) rfl ?_
              refine Ops.pv (pv_pick_false rfl rfl) rfl ?_
              refine Ops.nil ?_
              refine Ends.seq ?_
              refine Wp.cond_false rfl ?_
              refine Wp.skip ?_
              refine Ends.block_normal ?_
              refine Ends.seq ?_
              refine Wp.region ?_
              refine Ops.pv (pv_move rfl) rfl ?_
              first | refine Ops.pv (pv_add rfl rfl (w64 (by omega) (by omega))) rfl ?_ | refine Ops.pv (pv_add rfl rfl rfl) rfl ?_
              refine Ops.pv (pv_assign rfl) rfl ?_
              refine Ops.nil ?_
              refine Ends.goes ?_
              refine Goes.back (hK4 (i + 1) (by omega) (by omega)) ⟨rfl, rfl, rfl, rfl, rfl, rfl, trivial⟩
            · refine Ops.skipg ⟨_, _, rfl, rfl, rfl⟩ rfl ?_
              refine Ops.skipg ⟨_, _, rfl, rfl, rfl⟩ rfl ?_
              refine Ops.skipg ⟨_, _, rfl, rfl, rfl⟩ rfl ?_
              refine Ops.skipg ⟨_, _, rfl, rfl, rfl⟩ rfl ?_
              refine Ops.skipg ⟨_, _, rfl, rfl, rfl⟩ rfl ?_
              refine Ops.pvg ⟨_, _, rfl, rfl, rfl⟩ (pv_pick_false rfl rfl) rfl ?_
              refine Ops.pv (pv_pick_false rfl rfl) rfl ?_
              refine Ops.nil ?_
              refine Ends.seq ?_
              refine Wp.cond_false rfl ?_
              refine Wp.skip ?_
              refine Ends.block_normal ?_
              refine Ends.seq ?_
              refine Wp.region ?_
              refine Ops.pv (pv_move rfl) rfl ?_
              first | refine Ops.pv (pv_add rfl rfl (w64 (by omega) (by omega))) rfl ?_ | refine Ops.pv (pv_add rfl rfl rfl) rfl ?_
              refine Ops.pv (pv_assign rfl) rfl ?_
              refine Ops.nil ?_
              refine Ends.goes ?_
              refine Goes.back (hK4 (i + 1) (by omega) (by omega)) ⟨rfl, rfl, rfl, rfl, rfl, rfl, trivial⟩
        · refine Wp.exit ?_
          refine Ends.then_exit ?_
          refine Ends.then_exit ?_
          refine Ends.block_hit ?_
          refine Ends.seq ?_
          refine Wp.seq ?_
          refine Wp.region ?_
          refine Ops.pv (pv_move rfl) rfl ?_
          refine Ops.pv (pv_move rfl) rfl ?_
          refine Ops.pv (pv_len_slice (T := 39) rfl rfl) rfl ?_
          refine Ops.pv ((pv_eql rfl rfl).tru rfl) rfl ?_
          refine Ops.pv (pv_move rfl) rfl ?_
          refine Ops.pvg ⟨_, _, rfl, rfl, rfl⟩ (pv_move rfl) rfl ?_
          refine Ops.efg ⟨_, _, rfl, rfl, rfl⟩ (ef_callr ((tr_count sb1 S 0 0 hwf ht).eq (r' := .int .i64 0) (by rw [count_null ht]; rfl)) rfl rfl) ?_
          rintro _ _ ⟨rfl, rfl⟩
          refine Ops.pvg ⟨_, _, rfl, rfl, rfl⟩ ((pv_eql rfl rfl).tru (by first | rfl | decide | omega | assumption | (simp; done) | (simp; omega))) rfl ?_
          refine Ops.pv (pv_pick_true rfl rfl) rfl ?_
          refine Ops.pv (pv_assign rfl) rfl ?_
          refine Ops.nil ?_
          refine Ends.seq ?_
          refine Wp.ret ?_
          exact Ends.ret (res1 rfl rfl) ⟨rfl, rfl⟩
  · refine Ops.skipg ⟨_, _, rfl, rfl, rfl⟩ rfl ?_
    refine Ops.skipg ⟨_, _, rfl, rfl, rfl⟩ rfl ?_
    refine Ops.pv (pv_pick_false rfl rfl) rfl ?_
    refine Ops.nil ?_
    refine Ends.seq ?_
    refine Wp.cond_false rfl ?_
    refine Wp.exit ?_
    refine Ends.then_exit ?_
    refine Ends.then_exit ?_
    refine Ends.block_hit ?_
    refine Ends.seq ?_
    refine Wp.seq ?_
    refine Wp.region ?_
    refine Ops.pv (pv_assign rfl) rfl ?_
    refine Ops.nil ?_
    refine Ends.seq ?_
    refine Wp.seq ?_
    refine Wp.seq ?_
    refine Wp.region ?_
    refine Ops.pv (pv_assign rfl) rfl ?_
    refine Ops.nil ?_
    refine Ends.seq ?_
    refine Wp.block ?_
    refine Wp.loop (σ := Nat) (fun kd => [(0, .slice a l.length c), (2, .bool false), (3, .pointer (some ⟨sb1, 0, none⟩)), (5, .int .i64 (sumK S kd)), (6, .int .i64 kd)]) (fun _ => storeHp sb1 S ++ (G ++ F)) (fun kd => kd ≤ 12) (fun kd => 12 - kd) 0 (by omega) (by exact ⟨rfl, rfl, rfl, rfl, rfl, trivial⟩) (by intro w ho; exact ho) ?_
    intro kd K2 hkd hK2
    refine Wp.seq ?_
    refine Wp.seq ?_
    refine Wp.region ?_
    refine Ops.pv (pv_move rfl) rfl ?_
    refine Ops.pv (pv_leq rfl rfl) rfl ?_
    refine Ops.nil ?_
    refine Ends.seq ?_
    first | refine Wp.cond_dect rfl (fun h8 => ?_) (fun h8 => ?_) | refine Wp.cond_t rfl (fun h8 => ?_) (fun h8 => ?_)
    · refine Wp.skip ?_
      refine Ends.seq ?_
      refine Wp.seq ?_
      refine Wp.block ?_
      refine Wp.seq ?_
      refine Wp.region ?_
      refine Ops.pv (pv_assign rfl) rfl ?_
      refine Ops.nil ?_
      refine Ends.seq ?_
      refine Wp.block ?_
      refine Wp.loop (σ := Nat) (fun ob => [(0, .slice a l.length c), (2, .bool false), (3, .pointer (some ⟨sb1, 0, none⟩)), (5, .int .i64 ((sumK S kd + sumO S kd ob : Nat) : Int)), (6, .int .i64 kd), (7, .int .i64 ob)]) (fun _ => storeHp sb1 S ++ (G ++ F)) (fun ob => ob ≤ 64) (fun ob => 64 - ob) 0 (by omega) (by exact ⟨rfl, rfl, rfl, rfl, rfl, rfl, trivial⟩) (by intro w ho; exact ho) ?_
      intro ob K3 hob hK3
      have hb1 := sumK_le S kd
      have hb2 := sumO_le S kd (ob + 1)
      have hb3 : sumO S kd (ob + 1) = sumO S kd ob + countM S kd ob := rfl
      refine Wp.seq ?_
      refine Wp.seq ?_
      refine Wp.region ?_
      refine Ops.pv (pv_move rfl) rfl ?_
      refine Ops.pv (pv_lss rfl rfl) rfl ?_
      refine Ops.nil ?_
      refine Ends.seq ?_
      first | refine Wp.cond_dect rfl (fun h9 => ?_) (fun h9 => ?_) | refine Wp.cond_t rfl (fun h9 => ?_) (fun h9 => ?_)
      · refine Wp.skip ?_
        refine Ends.seq ?_
        refine Wp.seq ?_
        refine Wp.block ?_
        refine Wp.region ?_
        refine Ops.pv (pv_move rfl) rfl ?_
        refine Ops.pv (pv_move rfl) rfl ?_
        refine Ops.pv (pv_move rfl) rfl ?_
        refine Ops.pv (pv_move rfl) rfl ?_
        refine Ops.ef rfl (ef_callr (tr_count sb1 S (kd : Int) (ob : Int) hwf ht) rfl rfl) ?_
        rintro _ _ ⟨rfl, rfl⟩
        refine Ops.pv (pv_add rfl rfl (w64n (k := sumK S kd + sumO S kd (ob + 1)) (by omega) (by omega))) rfl ?_
        refine Ops.pv (pv_assign rfl) rfl ?_
        refine Ops.nil ?_
        refine Ends.block_normal ?_
        refine Ends.seq ?_
        refine Wp.region ?_
        refine Ops.pv (pv_move rfl) rfl ?_
        first | refine Ops.pv (pv_add rfl rfl (w64 (by omega) (by omega))) rfl ?_ | refine Ops.pv (pv_add rfl rfl rfl) rfl ?_
        refine Ops.pv (pv_assign rfl) rfl ?_
        refine Ops.nil ?_
        refine Ends.goes ?_
        refine Goes.back (hK3 (ob + 1) (by omega) (by omega)) ⟨rfl, rfl, rfl, rfl, rfl, rfl, trivial⟩
      · obtain rfl : ob = 64 := by omega
        refine Wp.exit ?_
        refine Ends.then_exit ?_
        refine Ends.then_exit ?_
        refine Ends.block_hit ?_
        refine Ends.block_normal ?_
        refine Ends.seq ?_
        refine Wp.region ?_
        refine Ops.pv (pv_move rfl) rfl ?_
        first | refine Ops.pv (pv_add rfl rfl (w64 (by omega) (by omega))) rfl ?_ | refine Ops.pv (pv_add rfl rfl rfl) rfl ?_
        refine Ops.pv (pv_assign rfl) rfl ?_
        refine Ops.nil ?_
        refine Ends.goes ?_
        refine Goes.back (hK2 (kd + 1) (by omega) (by omega)) ⟨rfl, rfl, rfl, rfl, rfl, trivial⟩
    · obtain rfl : kd = 12 := by omega
      refine Wp.exit ?_
      refine Ends.then_exit ?_
      refine Ends.then_exit ?_
      refine Ends.block_hit ?_
      refine Ends.seq ?_
      refine Wp.seq ?_
      refine Wp.region ?_
      refine Ops.pv (pv_move rfl) rfl ?_
      refine Ops.ef rfl (ef_call (tr_full sb1 S hwf) rfl rfl) ?_
      rintro _ _ ⟨_, _, ⟨H2, hs2, rfl⟩, rfl, rfl⟩
      refine Ops.app ?_
      obtain ⟨p, q, rfl⟩ := hs2.form
      have hv := hs2.view
      refine Ops.pv (pv_assign rfl) rfl ?_
      refine Ops.nil ?_
      refine Ends.seq ?_
      refine Wp.seq ?_
      refine Wp.seq ?_
      refine Wp.region ?_
      refine Ops.pv (pv_assign rfl) rfl ?_
      refine Ops.nil ?_
      refine Ends.seq ?_
      refine Wp.block ?_
      have hsall := sum_all ht
      have hfl := full_len S
      refine Wp.loop (σ := Nat) (fun i => [(0, .slice a l.length c), (2, .bool false), (3, .pointer (some ⟨sb1, 0, none⟩)), (5, .int .i64 (fullM S).length), (8, .slice p (fullM S).length q), (9, .int .i64 i)]) (fun _ => H2 ++ (storeHp sb1 S ++ (G ++ F))) (fun i => 1 ≤ i) (fun i => (fullM S).length - i) 1 (by omega) (by exact ⟨rfl, rfl, rfl, congrArg (fun n : Nat => some (Value.int .i64 n)) hsall, rfl, rfl, trivial⟩) (by intro w ho; exact ho) ?_
      intro i K4 hi hK4
      refine Wp.seq ?_
      refine Wp.seq ?_
      refine Wp.region ?_
      refine Ops.pv (pv_move rfl) rfl ?_
      refine Ops.pv (pv_move rfl) rfl ?_
      refine Ops.pv (pv_len_slice (T := 39) rfl rfl) rfl ?_
      refine Ops.pv (pv_lss rfl rfl) rfl ?_
      refine Ops.nil ?_
      refine Ends.seq ?_
      first | refine Wp.cond_dect rfl (fun h10 => ?_) (fun h10 => ?_) | refine Wp.cond_t rfl (fun h10 => ?_) (fun h10 => ?_)
      · obtain ⟨b9, o9, cap, cc, T, f, hv1, hbv, hr⟩ := hv.open (by omega)
        cases hv1
        obtain ⟨u, hu⟩ : ∃ u, (fullM S)[i - 1]? = some u := ⟨_, List.getElem?_eq_getElem (by omega)⟩
        obtain ⟨v, hvi⟩ : ∃ v, (fullM S)[i]? = some v := ⟨_, List.getElem?_eq_getElem (by omega)⟩
        have hru := hr.sub (i := (i - 1) * 2) (l := 2)
        have hrv := hr.sub (i := i * 2) (l := 2)
        rw [slots_reads hu] at hru
        rw [slots_reads hvi] at hrv
        have hlt := full_lt (by omega) hu hvi
        refine Wp.skip ?_
        refine Ends.seq ?_
        refine Wp.seq ?_
        refine Wp.block ?_
        refine Wp.seq ?_
        refine AnyH.start H2 13 rfl ?_
        refine AnyH.take 0 rfl (by kernel_rfl) (by kernel_rfl) (by kernel_rfl) PF.pf rfl (pv_move rfl) rfl ?_
        refine AnyH.take 1 rfl (by kernel_rfl) (by kernel_rfl) (by kernel_rfl) PF.pf rfl (pv_move rfl) rfl ?_
        refine AnyH.take 2 rfl (by kernel_rfl) (by kernel_rfl) (by kernel_rfl) PF.pf rfl (pv_sub rfl rfl (w64n (k := i - 1) (by omega) (by omega))) rfl ?_
        refine AnyH.take 3 rfl (by kernel_rfl) (by kernel_rfl) (by kernel_rfl) PF.pf rfl (pv_indexAddr (i := i - 1) rfl rfl rfl (by omega)) rfl ?_
        refine AnyH.take 4 rfl (by kernel_rfl) (by kernel_rfl) (by kernel_rfl) PF.pf rfl (pv_loadK [.int .i64 u.1, .int .i64 u.2] rfl rfl rfl hru) rfl ?_
        refine AnyH.take 5 rfl (by kernel_rfl) (by kernel_rfl) (by kernel_rfl) PF.pf rfl (pv_move rfl) rfl ?_
        refine AnyH.take 6 rfl (by kernel_rfl) (by kernel_rfl) (by kernel_rfl) PF.pf rfl (pv_move rfl) rfl ?_
        refine AnyH.take 7 rfl (by kernel_rfl) (by kernel_rfl) (by kernel_rfl) PF.pf rfl (pv_indexAddr (i := i) rfl rfl rfl (by omega)) rfl ?_
        refine AnyH.take 8 rfl (by kernel_rfl) (by kernel_rfl) (by kernel_rfl) PF.pf rfl (pv_loadK [.int .i64 v.1, .int .i64 v.2] rfl rfl rfl hrv) rfl ?_
        refine AnyH.two 9 10 (by kernel_rfl) ?_ ?_
        · refine Turn.ef rfl rfl (ef_allocK tyZ31 rfl) ?_ ?_
          · rintro _ _ ⟨b7, rfl, rfl⟩; infer_instance
          rintro _ _ ⟨b7, rfl, rfl⟩
          refine AnyH.one 10 (by kernel_rfl) ?_
          refine Turn.ef rfl rfl (ef_allocK tyZ31 rfl) ?_ ?_
          · rintro _ _ ⟨b8, rfl, rfl⟩; infer_instance
          rintro _ _ ⟨b8, rfl, rfl⟩
          refine AnyH.one 11 (by kernel_rfl) ?_
          refine Turn.ef rfl rfl (ef_storeK rfl rfl rfl rfl) ?_ ?_
          · rintro _ _ ⟨rfl, rfl⟩; infer_instance
          rintro _ _ ⟨rfl, rfl⟩
          refine AnyH.one 12 (by kernel_rfl) ?_
          refine Turn.ef rfl rfl (ef_storeK rfl rfl rfl rfl) ?_ ?_
          · rintro _ _ ⟨rfl, rfl⟩; infer_instance
          rintro _ _ ⟨rfl, rfl⟩
          refine AnyH.done (by kernel_rfl) ?_
          refine Ends.seq ?_
          refine Wp.seq ?_
          refine Wp.region ?_
          first | refine Ops.pv (pv_fieldAddr0 rfl rfl) rfl ?_ | refine Ops.pv (pv_fieldAddr rfl rfl) rfl ?_
          first | refine Ops.pv (pv_load rfl rfl rfl) rfl ?_ | refine Ops.pv (pv_load rfl rfl (by assumption)) rfl ?_
          first | refine Ops.pv (pv_fieldAddr0 rfl rfl) rfl ?_ | refine Ops.pv (pv_fieldAddr rfl rfl) rfl ?_
          first | refine Ops.pv (pv_load rfl rfl rfl) rfl ?_ | refine Ops.pv (pv_load rfl rfl (by assumption)) rfl ?_
          refine Ops.pv ((pv_gtr rfl rfl).fls (by rcases hlt with h | ⟨h, _⟩ <;> omega)) rfl ?_
          refine Ops.pv (pv_move rfl) rfl ?_
          first | refine Ops.pvg ⟨_, _, rfl, rfl, rfl⟩ (pv_fieldAddr0 rfl rfl) rfl ?_ | refine Ops.pvg ⟨_, _, rfl, rfl, rfl⟩ (pv_fieldAddr rfl rfl) rfl ?_
          first | refine Ops.pvg ⟨_, _, rfl, rfl, rfl⟩ (pv_load rfl rfl rfl) rfl ?_ | refine Ops.pvg ⟨_, _, rfl, rfl, rfl⟩ (pv_load rfl rfl (by assumption)) rfl ?_
          first | refine Ops.pvg ⟨_, _, rfl, rfl, rfl⟩ (pv_fieldAddr0 rfl rfl) rfl ?_ | refine Ops.pvg ⟨_, _, rfl, rfl, rfl⟩ (pv_fieldAddr rfl rfl) rfl ?_
          first | refine Ops.pvg ⟨_, _, rfl, rfl, rfl⟩ (pv_load rfl rfl rfl) rfl ?_ | refine Ops.pvg ⟨_, _, rfl, rfl, rfl⟩ (pv_load rfl rfl (by assumption)) rfl ?_
          refine Ops.pvg ⟨_, _, rfl, rfl, rfl⟩ (pv_eql rfl rfl) rfl ?_
          refine Ops.pvg ⟨_, _, rfl, rfl, rfl⟩ (pv_move rfl) rfl ?_
          first | refine Ops.split (t := 83) rfl (fun h11 => ?_) (fun h11 => ?_) | refine Ops.splitb (t := 83) rfl (fun h11 => ?_) (fun h11 => ?_)
          · first | refine Ops.pvg ⟨_, _, rfl, rfl, rfl⟩ (pv_fieldAddr0 rfl rfl) rfl ?_ | refine Ops.pvg ⟨_, _, rfl, rfl, rfl⟩ (pv_fieldAddr rfl rfl) rfl ?_
            first | refine Ops.pvg ⟨_, _, rfl, rfl, rfl⟩ (pv_load rfl rfl rfl) rfl ?_ | refine Ops.pvg ⟨_, _, rfl, rfl, rfl⟩ (pv_load rfl rfl (by assumption)) rfl ?_
            first | refine Ops.pvg ⟨_, _, rfl, rfl, rfl⟩ (pv_fieldAddr0 rfl rfl) rfl ?_ | refine Ops.pvg ⟨_, _, rfl, rfl, rfl⟩ (pv_fieldAddr rfl rfl) rfl ?_
            first | refine Ops.pvg ⟨_, _, rfl, rfl, rfl⟩ (pv_load rfl rfl rfl) rfl ?_ | refine Ops.pvg ⟨_, _, rfl, rfl, rfl⟩ (pv_load rfl rfl (by assumption)) rfl ?_
            refine Ops.pvg ⟨_, _, rfl, rfl, rfl⟩ ((pv_geq rfl rfl).fls (by rcases hlt with h | ⟨h, h'⟩ <;> omega)) rfl ?_
            refine Ops.pvg ⟨_, _, rfl, rfl, rfl⟩ (pv_pick_true rfl rfl) rfl ?_
            refine Ops.pv (pv_pick_false rfl rfl) rfl ?_
            refine Ops.nil ?_
            refine Ends.seq ?_
            refine Wp.cond_false rfl ?_
            refine Wp.skip ?_
            refine Ends.block_normal ?_
            refine Ends.seq ?_
            refine Wp.region ?_
            refine Ops.pv (pv_move rfl) rfl ?_
            first | refine Ops.pv (pv_add rfl rfl (w64 (by omega) (by omega))) rfl ?_ | refine Ops.pv (pv_add rfl rfl rfl) rfl ?_
            refine Ops.pv (pv_assign rfl) rfl ?_
            refine Ops.nil ?_
            refine Ends.goes ?_
            refine Goes.back (hK4 (i + 1) (by omega) (by omega)) ⟨rfl, rfl, rfl, rfl, rfl, rfl, trivial⟩
          · refine Ops.skipg ⟨_, _, rfl, rfl, rfl⟩ rfl ?_
            refine Ops.skipg ⟨_, _, rfl, rfl, rfl⟩ rfl ?_
            refine Ops.skipg ⟨_, _, rfl, rfl, rfl⟩ rfl ?_
            refine Ops.skipg ⟨_, _, rfl, rfl, rfl⟩ rfl ?_
            refine Ops.skipg ⟨_, _, rfl, rfl, rfl⟩ rfl ?_
            refine Ops.pvg ⟨_, _, rfl, rfl, rfl⟩ (pv_pick_false rfl rfl) rfl ?_
            refine Ops.pv (pv_pick_false rfl rfl) rfl ?_
            refine Ops.nil ?_
            refine Ends.seq ?_
            refine Wp.cond_false rfl ?_
            refine Wp.skip ?_
            refine Ends.block_normal ?_
            refine Ends.seq ?_
            refine Wp.region ?_
            refine Ops.pv (pv_move rfl) rfl ?_
            first | refine Ops.pv (pv_add rfl rfl (w64 (by omega) (by omega))) rfl ?_ | refine Ops.pv (pv_add rfl rfl rfl) rfl ?_
            refine Ops.pv (pv_assign rfl) rfl ?_
            refine Ops.nil ?_
            refine Ends.goes ?_
            refine Goes.back (hK4 (i + 1) (by omega) (by omega)) ⟨rfl, rfl, rfl, rfl, rfl, rfl, trivial⟩
        · refine Turn.ef rfl rfl (ef_allocK tyZ31 rfl) ?_ ?_
          · rintro _ _ ⟨b9, rfl, rfl⟩; infer_instance
          rintro _ _ ⟨b9, rfl, rfl⟩
          refine AnyH.one 9 (by kernel_rfl) ?_
          refine Turn.ef rfl rfl (ef_allocK tyZ31 rfl) ?_ ?_
          · rintro _ _ ⟨b10, rfl, rfl⟩; infer_instance
          rintro _ _ ⟨b10, rfl, rfl⟩
          refine AnyH.one 11 (by kernel_rfl) ?_
          refine Turn.ef rfl rfl (ef_storeK rfl rfl rfl rfl) ?_ ?_
          · rintro _ _ ⟨rfl, rfl⟩; infer_instance
          rintro _ _ ⟨rfl, rfl⟩
          refine AnyH.one 12 (by kernel_rfl) ?_
          refine Turn.ef rfl rfl (ef_storeK rfl rfl rfl rfl) ?_ ?_
          · rintro _ _ ⟨rfl, rfl⟩; infer_instance
          rintro _ _ ⟨rfl, rfl⟩
          refine AnyH.done (by kernel_rfl) ?_
          refine Ends.seq ?_
          refine Wp.seq ?_
          refine Wp.region ?_
          first | refine Ops.pv (pv_fieldAddr0 rfl rfl) rfl ?_ | refine Ops.pv (pv_fieldAddr rfl rfl) rfl ?_
          first | refine Ops.pv (pv_load rfl rfl rfl) rfl ?_ | refine Ops.pv (pv_load rfl rfl (by assumption)) rfl ?_
          first | refine Ops.pv (pv_fieldAddr0 rfl rfl) rfl ?_ | refine Ops.pv (pv_fieldAddr rfl rfl) rfl ?_
          first | refine Ops.pv (pv_load rfl rfl rfl) rfl ?_ | refine Ops.pv (pv_load rfl rfl (by assumption)) rfl ?_
          refine Ops.pv ((pv_gtr rfl rfl).fls (by rcases hlt with h | ⟨h, _⟩ <;> omega)) rfl ?_
          refine Ops.pv (pv_move rfl) rfl ?_
          first | refine Ops.pvg ⟨_, _, rfl, rfl, rfl⟩ (pv_fieldAddr0 rfl rfl) rfl ?_ | refine Ops.pvg ⟨_, _, rfl, rfl, rfl⟩ (pv_fieldAddr rfl rfl) rfl ?_
          first | refine Ops.pvg ⟨_, _, rfl, rfl, rfl⟩ (pv_load rfl rfl rfl) rfl ?_ | refine Ops.pvg ⟨_, _, rfl, rfl, rfl⟩ (pv_load rfl rfl (by assumption)) rfl ?_
          first | refine Ops.pvg ⟨_, _, rfl, rfl, rfl⟩ (pv_fieldAddr0 rfl rfl) rfl ?_ | refine Ops.pvg ⟨_, _, rfl, rfl, rfl⟩ (pv_fieldAddr rfl rfl) rfl ?_
          first | refine Ops.pvg ⟨_, _, rfl, rfl, rfl⟩ (pv_load rfl rfl rfl) rfl ?_ | refine Ops.pvg ⟨_, _, rfl, rfl, rfl⟩ (pv_load rfl rfl (by assumption)) rfl ?_
          refine Ops.pvg ⟨_, _, rfl, rfl, rfl⟩ (pv_eql rfl rfl) rfl ?_
          refine Ops.pvg ⟨_, _, rfl, rfl, rfl⟩ (pv_move rfl) rfl ?_
          first | refine Ops.split (t := 83) rfl (fun h12 => ?_) (fun h12 => ?_) | refine Ops.splitb (t := 83) rfl (fun h12 => ?_) (fun h12 => ?_)
          · first | refine Ops.pvg ⟨_, _, rfl, rfl, rfl⟩ (pv_fieldAddr0 rfl rfl) rfl ?_ | refine Ops.pvg ⟨_, _, rfl, rfl, rfl⟩ (pv_fieldAddr rfl rfl) rfl ?_
            first | refine Ops.pvg ⟨_, _, rfl, rfl, rfl⟩ (pv_load rfl rfl rfl) rfl ?_ | refine Ops.pvg ⟨_, _, rfl, rfl, rfl⟩ (pv_load rfl rfl (by assumption)) rfl ?_
            first | refine Ops.pvg ⟨_, _, rfl, rfl, rfl⟩ (pv_fieldAddr0 rfl rfl) rfl ?_ | refine Ops.pvg ⟨_, _, rfl, rfl, rfl⟩ (pv_fieldAddr rfl rfl) rfl ?_
            first | refine Ops.pvg ⟨_, _, rfl, rfl, rfl⟩ (pv_load rfl rfl rfl) rfl ?_ | refine Ops.pvg ⟨_, _, rfl, rfl, rfl⟩ (pv_load rfl rfl (by assumption)) rfl ?_
            refine Ops.pvg ⟨_, _, rfl, rfl, rfl⟩ ((pv_geq rfl rfl).fls (by rcases hlt with h | ⟨h, h'⟩ <;> omega)) rfl ?_
            refine Ops.pvg ⟨_, _, rfl, rfl, rfl⟩ (pv_pick_true rfl rfl) rfl ?_
            refine Ops.pv (pv_pick_false rfl rfl) rfl ?_
            refine Ops.nil ?_
            refine Ends.seq ?_
            refine Wp.cond_false rfl ?_
            refine Wp.skip ?_
            refine Ends.block_normal ?_
            refine Ends.seq ?_
            refine Wp.region ?_
            refine Ops.pv (pv_move rfl) rfl ?_
            first | refine Ops.pv (pv_add rfl rfl (w64 (by omega) (by omega))) rfl ?_ | refine Ops.pv (pv_add rfl rfl rfl) rfl ?_
            refine Ops.pv (pv_assign rfl) rfl ?_
            refine Ops.nil ?_
            refine Ends.goes ?_
            refine Goes.back (hK4 (i + 1) (by omega) (by omega)) ⟨rfl, rfl, rfl, rfl, rfl, rfl, trivial⟩
          · refine Ops.skipg ⟨_, _, rfl, rfl, rfl⟩ rfl ?_
            refine Ops.skipg ⟨_, _, rfl, rfl, rfl⟩ rfl ?_
            refine Ops.skipg ⟨_, _, rfl, rfl, rfl⟩ rfl ?_
            refine Ops.skipg ⟨_, _, rfl, rfl, rfl⟩ rfl ?_
            refine Ops.skipg ⟨_, _, rfl, rfl, rfl⟩ rfl ?_
            refine Ops.pvg ⟨_, _, rfl, rfl, rfl⟩ (pv_pick_false rfl rfl) rfl ?_
            refine Ops.pv (pv_pick_false rfl rfl) rfl ?_
            refine Ops.nil ?_
            refine Ends.seq ?_
            refine Wp.cond_false rfl ?_
            refine Wp.skip ?_
            refine Ends.block_normal ?_
            refine Ends.seq ?_
            refine Wp.region ?_
            refine Ops.pv (pv_move rfl) rfl ?_
            first | refine Ops.pv (pv_add rfl rfl (w64 (by omega) (by omega))) rfl ?_ | refine Ops.pv (pv_add rfl rfl rfl) rfl ?_
            refine Ops.pv (pv_assign rfl) rfl ?_
            refine Ops.nil ?_
            refine Ends.goes ?_
            refine Goes.back (hK4 (i + 1) (by omega) (by omega)) ⟨rfl, rfl, rfl, rfl, rfl, rfl, trivial⟩
      · refine Wp.exit ?_
        refine Ends.then_exit ?_
        refine Ends.then_exit ?_
        refine Ends.block_hit ?_
        refine Ends.seq ?_
        refine Wp.seq ?_
        refine Wp.region ?_
        refine Ops.pv (pv_move rfl) rfl ?_
        refine Ops.pv (pv_move rfl) rfl ?_
        refine Ops.pv (pv_len_slice (T := 39) rfl rfl) rfl ?_
        refine Ops.pv ((pv_eql rfl rfl).tru rfl) rfl ?_
        refine Ops.pv (pv_move rfl) rfl ?_
        refine Ops.pvg ⟨_, _, rfl, rfl, rfl⟩ (pv_move rfl) rfl ?_
        refine Ops.efg ⟨_, _, rfl, rfl, rfl⟩ (ef_callr ((tr_count sb1 S 0 0 hwf ht).eq (r' := .int .i64 0) (by rw [count_null ht]; rfl)) rfl rfl) ?_
        rintro _ _ ⟨rfl, rfl⟩
        refine Ops.pvg ⟨_, _, rfl, rfl, rfl⟩ ((pv_eql rfl rfl).tru (by first | rfl | decide | omega | assumption | (simp; done) | (simp; omega))) rfl ?_
        refine Ops.pv (pv_pick_true rfl rfl) rfl ?_
        refine Ops.pv (pv_assign rfl) rfl ?_
        refine Ops.nil ?_
        refine Ends.seq ?_
        refine Wp.ret ?_
        exact Ends.ret (res1 rfl rfl) ⟨rfl, rfl⟩

end Go.Proofs.Ytpoamckpdpkpoaa
