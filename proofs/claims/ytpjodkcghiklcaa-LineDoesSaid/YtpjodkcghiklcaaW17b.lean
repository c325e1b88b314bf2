/- The walk of LineDoes: it returns true, whatever the input. No condition. -/
import Derived.Test.YtpjodkcghiklcaaW17
import Derived.Test.YtpjodkcghiklcaaM17o
set_option linter.unusedVariables false
set_option linter.unusedSimpArgs false
namespace Go.Proofs.Ytpjodkcghiklcaa
open Go.SL

theorem tr_lnew  : Tr Try.prog 15 [] ([]) (fun v L' => ∃ lb, v = .pointer (some ⟨lb, 0, none⟩) ∧ L' = [(lb, .cells [.slice none 0 0].toArray 87)]) := by
  refine Tr.enter Try.func15 rfl Try.ntmps15 rfl (fun W F => ?_)
  refine Wp.app ?_
  refine Wp.seq ?_
  refine Wp.region ?_
  refine Ops.pv (pv_assign rfl) rfl ?_
  refine Ops.nil ?_
  refine Ends.seq ?_
  refine Wp.seq ?_
  refine Wp.region ?_
  refine Ops.pv (pv_build rfl) rfl ?_
  refine Ops.ef rfl (ef_boxK rfl rfl) ?_
  rintro _ _ ⟨b1, rfl, rfl⟩
  refine Ops.pv (pv_assign rfl) rfl ?_
  refine Ops.nil ?_
  refine Ends.seq ?_
  refine Wp.ret ?_
  exact Ends.ret (L' := [(b1, .cells [.slice none 0 0].toArray 87)]) (res1 rfl rfl) ⟨b1, rfl, rfl⟩

set_option maxHeartbeats 4000000 in
theorem tr_lineDoes (G : Hp) (a : Option Addr) (c : Nat) (ops : List OpL) (ha : ArgS G 3 a (ops.map OpL.cells)) (hol : ops.length ≤ maxLen) : TrR Try.prog 3 [.slice a ops.length c] (G) (.bool true) := by
  refine Tr.enter Try.func3 rfl Try.ntmps3 rfl (fun W F => ?_)
  refine Wp.app ?_
  refine Wp.seq ?_
  refine Wp.region ?_
  refine Ops.pv (pv_assign rfl) rfl ?_
  refine Ops.nil ?_
  refine Ends.seq ?_
  refine Wp.seq ?_
  refine Wp.region ?_
  refine Ops.ef rfl (ef_call (tr_lnew) rfl rfl) ?_
  rintro _ _ ⟨_, _, ⟨la1, rfl, rfl⟩, rfl, rfl⟩
  refine Ops.app ?_
  refine Ops.pv (pv_build rfl) rfl ?_
  refine Ops.ef rfl (ef_boxK rfl rfl) ?_
  rintro _ _ ⟨b1, rfl, rfl⟩
  refine Ops.pv (pv_assign rfl) rfl ?_
  refine Ops.pv (pv_assign rfl) rfl ?_
  refine Ops.nil ?_
  refine Ends.seq ?_
  refine Wp.seq ?_
  refine Wp.seq ?_
  refine Wp.region ?_
  refine Ops.pv (pv_move rfl) rfl ?_
  refine Ops.pv (pv_eql_nil rfl rfl) rfl ?_
  refine Ops.nil ?_
  refine Ends.seq ?_
  refine Wp.cond_false rfl ?_
  refine Wp.skip ?_
  refine Ends.seq ?_
  refine Wp.seq ?_
  refine Wp.seq ?_
  refine Wp.region ?_
  refine Ops.pv (pv_assign rfl) rfl ?_
  refine Ops.nil ?_
  refine Ends.seq ?_
  refine Wp.block ?_
  refine Wp.loop (σ := Nat × List Int × Value × Hp × Value × Hp) (fun x => [(0, .slice a ops.length c), (2, .bool false), (3, .pointer (some ⟨la1, 0, none⟩)), (4, .pointer (some ⟨b1, 0, none⟩)), (5, .int .i64 x.1)]) (fun x => (la1, .cells [x.2.2.1].toArray 87) :: (x.2.2.2.1 ++ ((b1, .cells [x.2.2.2.2.1].toArray 28) :: (x.2.2.2.2.2 ++ (G ++ F))))) (fun x => x.2.1.length ≤ x.1 ∧ x.1 ≤ 100 ∧ Slc 3 1 x.2.2.1 x.2.1.length (intsC x.2.1) x.2.2.2.1 ∧ Slc 3 1 x.2.2.2.2.1 x.2.1.length (intsC x.2.1) x.2.2.2.2.2) (fun x => ops.length - x.1) (0, [], .slice none 0 0, [], .slice none 0 0, []) ⟨Nat.le_refl _, Nat.zero_le _, Slc.nil _ _, Slc.nil _ _⟩ (by exact ⟨rfl, rfl, rfl, rfl, rfl, trivial⟩) (by intro w ho; dsimp only [List.nil_append]; exact Drop.own ho) ?_
  rintro ⟨i, l, v, H, w, K⟩ KK ⟨hll, hi, hs, ht⟩ hK
  dsimp only at hll hi hs ht hK ⊢
  obtain ⟨p, q, rfl⟩ := ht.form
  refine Wp.seq ?_
  refine Wp.seq ?_
  refine Wp.region ?_
  refine Ops.pv (pv_move rfl) rfl ?_
  refine Ops.pv (pv_move rfl) rfl ?_
  refine Ops.pv (pv_len_slice (T := 22) rfl rfl) rfl ?_
  refine Ops.pv (pv_lss rfl rfl) rfl ?_
  refine Ops.pv (pv_move rfl) rfl ?_
  refine Ops.split (t := 19) rfl (fun h1 => ?_) (fun h1 => ?_)
  · refine Ops.pvg ⟨_, _, rfl, rfl, rfl⟩ (pv_move rfl) rfl ?_
    refine Ops.pvg ⟨_, _, rfl, rfl, rfl⟩ (pv_lss rfl rfl) rfl ?_
    refine Ops.pv (pv_pick_true rfl rfl) rfl ?_
    refine Ops.nil ?_
    refine Ends.seq ?_
    refine Wp.cond_dect rfl (fun h2 => ?_) (fun h2 => ?_)
    · obtain ⟨x, hq⟩ : ∃ x, ops[i]? = some x := ⟨_, List.getElem?_eq_getElem (by omega)⟩
      obtain ⟨_, b, o, cc, T, f, rfl, hm, hr⟩ := ha i x.cells (by rw [List.getElem?_map, hq]; rfl)
      have hbg : Blk G b (.cells cc.toArray T f) := ⟨hm⟩
      obtain ⟨r0, r1, r2, _⟩ := hr
      have hb1 := pushL_len l x.id
      have hb2 : l.tail.length ≤ l.length := by simp
      have hb3 := remL_len l x.id
      refine Wp.skip ?_
      refine Ends.seq ?_
      refine Wp.seq ?_
      refine Wp.block ?_
      refine Wp.seq ?_
      refine Wp.seq ?_
      refine Wp.region ?_
      refine Ops.pv (pv_move rfl) rfl ?_
      refine Ops.pv (pv_move rfl) rfl ?_
      refine Ops.pv (pv_indexAddr (i := i) rfl rfl rfl (by omega)) rfl ?_
      first | refine Ops.pv (pv_fieldAddr0 rfl rfl) rfl ?_ | refine Ops.pv (pv_fieldAddr rfl rfl) rfl ?_
      refine Ops.pv (pv_load rfl rfl r0) rfl ?_
      refine Ops.nil ?_
      refine Ends.seq ?_
      refine Wp.block ?_
      refine Wp.seq ?_
      refine Wp.region ?_
      refine Ops.pv (pv_eql rfl rfl) rfl ?_
      refine Ops.pv (pv_assign rfl) rfl ?_
      refine Ops.nil ?_
      refine Ends.seq ?_
      refine Wp.cond_dect rfl (fun h3 => ?_) (fun h3 => ?_)
      · refine Wp.seq ?_
        refine AnyH.start G 15 rfl ?_
        refine AnyH.take 0 rfl (by kernel_rfl) (by kernel_rfl) (by kernel_rfl) PF.pf rfl (pv_move rfl) rfl ?_
        refine AnyH.take 1 rfl (by kernel_rfl) (by kernel_rfl) (by kernel_rfl) PF.pf rfl (pv_move rfl) rfl ?_
        refine AnyH.take 2 rfl (by kernel_rfl) (by kernel_rfl) (by kernel_rfl) PF.pf rfl (pv_move rfl) rfl ?_
        refine AnyH.take 3 rfl (by kernel_rfl) (by kernel_rfl) (by kernel_rfl) PF.pf rfl (pv_indexAddr (i := i) rfl rfl rfl (by omega)) rfl ?_
        first | refine AnyH.take 4 rfl (by kernel_rfl) (by kernel_rfl) (by kernel_rfl) PF.pf rfl (pv_fieldAddr0 rfl rfl) rfl ?_ | refine AnyH.take 4 rfl (by kernel_rfl) (by kernel_rfl) (by kernel_rfl) PF.pf rfl (pv_fieldAddr rfl rfl) rfl ?_
        refine AnyH.take 5 rfl (by kernel_rfl) (by kernel_rfl) (by kernel_rfl) PF.pf rfl (pv_load rfl rfl r1) rfl ?_
        refine AnyH.take 7 rfl (by kernel_rfl) (by kernel_rfl) (by kernel_rfl) PF.pf rfl (pv_move rfl) rfl ?_
        refine AnyH.take 8 rfl (by kernel_rfl) (by kernel_rfl) (by kernel_rfl) PF.pf rfl (pv_move rfl) rfl ?_
        refine AnyH.take 9 rfl (by kernel_rfl) (by kernel_rfl) (by kernel_rfl) PF.pf rfl (pv_move rfl) rfl ?_
        refine AnyH.take 10 rfl (by kernel_rfl) (by kernel_rfl) (by kernel_rfl) PF.pf rfl (pv_indexAddr (i := i) rfl rfl rfl (by omega)) rfl ?_
        first | refine AnyH.take 11 rfl (by kernel_rfl) (by kernel_rfl) (by kernel_rfl) PF.pf rfl (pv_fieldAddr0 rfl rfl) rfl ?_ | refine AnyH.take 11 rfl (by kernel_rfl) (by kernel_rfl) (by kernel_rfl) PF.pf rfl (pv_fieldAddr rfl rfl) rfl ?_
        refine AnyH.take 12 rfl (by kernel_rfl) (by kernel_rfl) (by kernel_rfl) PF.pf rfl (pv_load rfl rfl r1) rfl ?_
        refine AnyH.one 6 (by kernel_rfl) ?_
        refine Turn.ef rfl rfl (ef_call (tr_lpush la1 _ H l x.id hs (by omega)) rfl rfl) ?_ ?_
        · rintro _ _ ⟨_, _, ⟨rfl, v1, H1, hs1, rfl⟩, rfl, rfl⟩; infer_instance
        rintro _ _ ⟨_, _, ⟨rfl, v1, H1, hs1, rfl⟩, rfl, rfl⟩
        refine AnyH.app ?_
        refine AnyH.one 13 (by kernel_rfl) ?_
        refine Turn.ef rfl rfl (ef_call (tr_rpush b1 _ K l x.id ht (by omega)) rfl rfl) ?_ ?_
        · rintro _ _ ⟨_, _, ⟨rfl, w1, K1, ht1, rfl⟩, rfl, rfl⟩; infer_instance
        rintro _ _ ⟨_, _, ⟨rfl, w1, K1, ht1, rfl⟩, rfl, rfl⟩
        refine AnyH.app ?_
        obtain ⟨p1, q1, rfl⟩ := ht1.form
        refine AnyH.take 14 rfl (by kernel_rfl) (by kernel_rfl) (by kernel_rfl) PF.pf rfl ((pv_neq rfl rfl).fls (fun h => h rfl)) rfl ?_
        refine AnyH.done (by kernel_rfl) ?_
        refine Ends.seq ?_
        refine Wp.cond_false rfl ?_
        refine Wp.skip ?_
        refine Ends.block_normal ?_
        refine Ends.seq ?_
        refine Wp.seq ?_
        refine AnyH.start G 8 rfl ?_
        refine AnyH.take 0 rfl (by kernel_rfl) (by kernel_rfl) (by kernel_rfl) PF.pf rfl (pv_move rfl) rfl ?_
        refine AnyH.take 2 rfl (by kernel_rfl) (by kernel_rfl) (by kernel_rfl) PF.pf rfl (pv_move rfl) rfl ?_
        first | refine AnyH.take 3 rfl (by kernel_rfl) (by kernel_rfl) (by kernel_rfl) PF.pf rfl (pv_nilCheck rfl) rfl ?_ | refine AnyH.take 3 rfl (by kernel_rfl) (by kernel_rfl) (by kernel_rfl) PF.pf rfl (pv_nilCheck_func rfl rfl) rfl ?_
        first | refine AnyH.take 4 rfl (by kernel_rfl) (by kernel_rfl) (by kernel_rfl) PF.pf rfl (pv_fieldAddr0 rfl rfl) rfl ?_ | refine AnyH.take 4 rfl (by kernel_rfl) (by kernel_rfl) (by kernel_rfl) PF.pf rfl (pv_fieldAddr rfl rfl) rfl ?_
        refine AnyH.two 1 5 (by kernel_rfl) ?_ ?_
        · refine Turn.ef rfl rfl (ef_call (tr_list la1 _ H1 _ hs1 (by omega)) rfl rfl) ?_ ?_
          · rintro _ _ ⟨_, _, ⟨C1, hc1, rfl⟩, rfl, rfl⟩; infer_instance
          rintro _ _ ⟨_, _, ⟨C1, hc1, rfl⟩, rfl, rfl⟩
          refine AnyH.app ?_
          obtain ⟨u1, t1, rfl⟩ := hc1.form
          refine AnyH.one 5 (by kernel_rfl) ?_
          refine Turn.ef rfl rfl (ef_pv (pv_load rfl rfl rfl) rfl) ?_ ?_
          · rintro _ _ ⟨rfl, rfl⟩; infer_instance
          rintro _ _ ⟨rfl, rfl⟩
          refine AnyH.one 6 (by kernel_rfl) ?_
          refine Turn.ef rfl rfl (ef_callr (tr_same C1 K1 _ _ _ _ _ hc1.view ht1.view (by omega)) rfl rfl) ?_ ?_
          · rintro _ _ ⟨rfl, rfl⟩; infer_instance
          rintro _ _ ⟨rfl, rfl⟩
          first | refine AnyH.take 7 rfl (by kernel_rfl) (by kernel_rfl) (by kernel_rfl) PF.pf rfl (pv_not_dec rfl) rfl ?_ | refine AnyH.take 7 rfl (by kernel_rfl) (by kernel_rfl) (by kernel_rfl) PF.pf rfl (pv_not rfl) rfl ?_
          refine AnyH.done (by kernel_rfl) ?_
          refine Ends.seq ?_
          refine Wp.cond_false rfl ?_
          refine Wp.skip ?_
          refine Ends.block_normal ?_
          refine Ends.seq ?_
          refine Wp.region ?_
          refine Ops.pv (pv_move rfl) rfl ?_
          first | refine Ops.pv (pv_add rfl rfl (w64 (by omega) (by omega))) rfl ?_ | refine Ops.pv (pv_add rfl rfl rfl) rfl ?_
          refine Ops.pv (pv_assign rfl) rfl ?_
          refine Ops.nil ?_
          refine Ends.goes ?_
          refine Goes.back (hK (i + 1, (pushL l x.id), _, H1, _, K1) ⟨by dsimp only; omega, by dsimp only; omega, hs1, ht1⟩ (by dsimp only; omega)) ⟨rfl, rfl, rfl, rfl, rfl, trivial⟩
        · refine Turn.ef rfl rfl (ef_pv (pv_load rfl rfl rfl) rfl) ?_ ?_
          · rintro _ _ ⟨rfl, rfl⟩; infer_instance
          rintro _ _ ⟨rfl, rfl⟩
          refine AnyH.one 1 (by kernel_rfl) ?_
          refine Turn.ef rfl rfl (ef_call (tr_list la1 _ H1 _ hs1 (by omega)) rfl rfl) ?_ ?_
          · rintro _ _ ⟨_, _, ⟨C2, hc2, rfl⟩, rfl, rfl⟩; infer_instance
          rintro _ _ ⟨_, _, ⟨C2, hc2, rfl⟩, rfl, rfl⟩
          refine AnyH.app ?_
          obtain ⟨u2, t2, rfl⟩ := hc2.form
          refine AnyH.one 6 (by kernel_rfl) ?_
          refine Turn.ef rfl rfl (ef_callr (tr_same C2 K1 _ _ _ _ _ hc2.view ht1.view (by omega)) rfl rfl) ?_ ?_
          · rintro _ _ ⟨rfl, rfl⟩; infer_instance
          rintro _ _ ⟨rfl, rfl⟩
          first | refine AnyH.take 7 rfl (by kernel_rfl) (by kernel_rfl) (by kernel_rfl) PF.pf rfl (pv_not_dec rfl) rfl ?_ | refine AnyH.take 7 rfl (by kernel_rfl) (by kernel_rfl) (by kernel_rfl) PF.pf rfl (pv_not rfl) rfl ?_
          refine AnyH.done (by kernel_rfl) ?_
          refine Ends.seq ?_
          refine Wp.cond_false rfl ?_
          refine Wp.skip ?_
          refine Ends.block_normal ?_
          refine Ends.seq ?_
          refine Wp.region ?_
          refine Ops.pv (pv_move rfl) rfl ?_
          first | refine Ops.pv (pv_add rfl rfl (w64 (by omega) (by omega))) rfl ?_ | refine Ops.pv (pv_add rfl rfl rfl) rfl ?_
          refine Ops.pv (pv_assign rfl) rfl ?_
          refine Ops.nil ?_
          refine Ends.goes ?_
          refine Goes.back (hK (i + 1, (pushL l x.id), _, H1, _, K1) ⟨by dsimp only; omega, by dsimp only; omega, hs1, ht1⟩ (by dsimp only; omega)) ⟨rfl, rfl, rfl, rfl, rfl, trivial⟩
      · refine Wp.seq ?_
        refine Wp.region ?_
        refine Ops.pv (pv_eql rfl rfl) rfl ?_
        refine Ops.pv (pv_assign rfl) rfl ?_
        refine Ops.nil ?_
        refine Ends.seq ?_
        refine Wp.cond_dect rfl (fun h4 => ?_) (fun h4 => ?_)
        · refine Wp.seq ?_
          refine Wp.region ?_
          refine Ops.pv (pv_move rfl) rfl ?_
          refine Ops.ef rfl (ef_call (tr_lpop la1 _ H l hs (by omega)) rfl rfl) ?_
          rintro _ _ ⟨_, _, ⟨rfl, v2, H2, hs2, rfl⟩, rfl, rfl⟩
          refine Ops.app ?_
          refine Ops.pv (pv_move rfl) rfl ?_
          refine Ops.pv (pv_extract rfl rfl) rfl ?_
          refine Ops.pv (pv_extract rfl rfl) rfl ?_
          refine Ops.pv (pv_assign rfl) rfl ?_
          refine Ops.pv (pv_assign rfl) rfl ?_
          refine Ops.nil ?_
          refine Ends.seq ?_
          refine Wp.seq ?_
          refine Wp.region ?_
          refine Ops.pv (pv_move rfl) rfl ?_
          refine Ops.ef rfl (ef_call (tr_rpop b1 _ K l ht (by omega)) rfl rfl) ?_
          rintro _ _ ⟨_, _, ⟨rfl, w2, K2, ht2, rfl⟩, rfl, rfl⟩
          refine Ops.app ?_
          obtain ⟨p2, q2, rfl⟩ := ht2.form
          refine Ops.pv (pv_move rfl) rfl ?_
          refine Ops.pv (pv_extract rfl rfl) rfl ?_
          refine Ops.pv (pv_extract rfl rfl) rfl ?_
          refine Ops.pv (pv_assign rfl) rfl ?_
          refine Ops.pv (pv_assign rfl) rfl ?_
          refine Ops.nil ?_
          refine Ends.seq ?_
          refine Wp.seq ?_
          refine Wp.region ?_
          refine Ops.pv (pv_move rfl) rfl ?_
          refine Ops.pv (pv_move rfl) rfl ?_
          refine Ops.pv ((pv_neq rfl rfl).fls (fun h => h rfl)) rfl ?_
          refine Ops.pv (pv_move rfl) rfl ?_
          refine Ops.pvg ⟨_, _, rfl, rfl, rfl⟩ (pv_move rfl) rfl ?_
          refine Ops.pvg ⟨_, _, rfl, rfl, rfl⟩ (pv_move rfl) rfl ?_
          refine Ops.pvg ⟨_, _, rfl, rfl, rfl⟩ ((pv_neq_bool rfl rfl).is (u := .bool false) (by simp)) rfl ?_
          refine Ops.pv (pv_pick_false rfl rfl) rfl ?_
          refine Ops.nil ?_
          refine Ends.seq ?_
          refine Wp.cond_false rfl ?_
          refine Wp.skip ?_
          refine Ends.block_normal ?_
          refine Ends.seq ?_
          refine Wp.seq ?_
          refine AnyH.start G 8 rfl ?_
          refine AnyH.take 0 rfl (by kernel_rfl) (by kernel_rfl) (by kernel_rfl) PF.pf rfl (pv_move rfl) rfl ?_
          refine AnyH.take 2 rfl (by kernel_rfl) (by kernel_rfl) (by kernel_rfl) PF.pf rfl (pv_move rfl) rfl ?_
          first | refine AnyH.take 3 rfl (by kernel_rfl) (by kernel_rfl) (by kernel_rfl) PF.pf rfl (pv_nilCheck rfl) rfl ?_ | refine AnyH.take 3 rfl (by kernel_rfl) (by kernel_rfl) (by kernel_rfl) PF.pf rfl (pv_nilCheck_func rfl rfl) rfl ?_
          first | refine AnyH.take 4 rfl (by kernel_rfl) (by kernel_rfl) (by kernel_rfl) PF.pf rfl (pv_fieldAddr0 rfl rfl) rfl ?_ | refine AnyH.take 4 rfl (by kernel_rfl) (by kernel_rfl) (by kernel_rfl) PF.pf rfl (pv_fieldAddr rfl rfl) rfl ?_
          refine AnyH.two 1 5 (by kernel_rfl) ?_ ?_
          · refine Turn.ef rfl rfl (ef_call (tr_list la1 _ H2 _ hs2 (by omega)) rfl rfl) ?_ ?_
            · rintro _ _ ⟨_, _, ⟨C3, hc3, rfl⟩, rfl, rfl⟩; infer_instance
            rintro _ _ ⟨_, _, ⟨C3, hc3, rfl⟩, rfl, rfl⟩
            refine AnyH.app ?_
            obtain ⟨u3, t3, rfl⟩ := hc3.form
            refine AnyH.one 5 (by kernel_rfl) ?_
            refine Turn.ef rfl rfl (ef_pv (pv_load rfl rfl rfl) rfl) ?_ ?_
            · rintro _ _ ⟨rfl, rfl⟩; infer_instance
            rintro _ _ ⟨rfl, rfl⟩
            refine AnyH.one 6 (by kernel_rfl) ?_
            refine Turn.ef rfl rfl (ef_callr (tr_same C3 K2 _ _ _ _ _ hc3.view ht2.view (by omega)) rfl rfl) ?_ ?_
            · rintro _ _ ⟨rfl, rfl⟩; infer_instance
            rintro _ _ ⟨rfl, rfl⟩
            first | refine AnyH.take 7 rfl (by kernel_rfl) (by kernel_rfl) (by kernel_rfl) PF.pf rfl (pv_not_dec rfl) rfl ?_ | refine AnyH.take 7 rfl (by kernel_rfl) (by kernel_rfl) (by kernel_rfl) PF.pf rfl (pv_not rfl) rfl ?_
            refine AnyH.done (by kernel_rfl) ?_
            refine Ends.seq ?_
            refine Wp.cond_false rfl ?_
            refine Wp.skip ?_
            refine Ends.block_normal ?_
            refine Ends.seq ?_
            refine Wp.region ?_
            refine Ops.pv (pv_move rfl) rfl ?_
            first | refine Ops.pv (pv_add rfl rfl (w64 (by omega) (by omega))) rfl ?_ | refine Ops.pv (pv_add rfl rfl rfl) rfl ?_
            refine Ops.pv (pv_assign rfl) rfl ?_
            refine Ops.nil ?_
            refine Ends.goes ?_
            refine Goes.back (hK (i + 1, l.tail, _, H2, _, K2) ⟨by dsimp only; omega, by dsimp only; omega, hs2, ht2⟩ (by dsimp only; omega)) ⟨rfl, rfl, rfl, rfl, rfl, trivial⟩
          · refine Turn.ef rfl rfl (ef_pv (pv_load rfl rfl rfl) rfl) ?_ ?_
            · rintro _ _ ⟨rfl, rfl⟩; infer_instance
            rintro _ _ ⟨rfl, rfl⟩
            refine AnyH.one 1 (by kernel_rfl) ?_
            refine Turn.ef rfl rfl (ef_call (tr_list la1 _ H2 _ hs2 (by omega)) rfl rfl) ?_ ?_
            · rintro _ _ ⟨_, _, ⟨C4, hc4, rfl⟩, rfl, rfl⟩; infer_instance
            rintro _ _ ⟨_, _, ⟨C4, hc4, rfl⟩, rfl, rfl⟩
            refine AnyH.app ?_
            obtain ⟨u4, t4, rfl⟩ := hc4.form
            refine AnyH.one 6 (by kernel_rfl) ?_
            refine Turn.ef rfl rfl (ef_callr (tr_same C4 K2 _ _ _ _ _ hc4.view ht2.view (by omega)) rfl rfl) ?_ ?_
            · rintro _ _ ⟨rfl, rfl⟩; infer_instance
            rintro _ _ ⟨rfl, rfl⟩
            first | refine AnyH.take 7 rfl (by kernel_rfl) (by kernel_rfl) (by kernel_rfl) PF.pf rfl (pv_not_dec rfl) rfl ?_ | refine AnyH.take 7 rfl (by kernel_rfl) (by kernel_rfl) (by kernel_rfl) PF.pf rfl (pv_not rfl) rfl ?_
            refine AnyH.done (by kernel_rfl) ?_
            refine Ends.seq ?_
            refine Wp.cond_false rfl ?_
            refine Wp.skip ?_
            refine Ends.block_normal ?_
            refine Ends.seq ?_
            refine Wp.region ?_
            refine Ops.pv (pv_move rfl) rfl ?_
            first | refine Ops.pv (pv_add rfl rfl (w64 (by omega) (by omega))) rfl ?_ | refine Ops.pv (pv_add rfl rfl rfl) rfl ?_
            refine Ops.pv (pv_assign rfl) rfl ?_
            refine Ops.nil ?_
            refine Ends.goes ?_
            refine Goes.back (hK (i + 1, l.tail, _, H2, _, K2) ⟨by dsimp only; omega, by dsimp only; omega, hs2, ht2⟩ (by dsimp only; omega)) ⟨rfl, rfl, rfl, rfl, rfl, trivial⟩
        · refine Wp.seq ?_
          refine Wp.region ?_
          refine Ops.pv (pv_eql rfl rfl) rfl ?_
          refine Ops.pv (pv_assign rfl) rfl ?_
          refine Ops.nil ?_
          refine Ends.seq ?_
          refine Wp.cond_dect rfl (fun h5 => ?_) (fun h5 => ?_)
          · refine Wp.seq ?_
            refine AnyH.start G 15 rfl ?_
            refine AnyH.take 0 rfl (by kernel_rfl) (by kernel_rfl) (by kernel_rfl) PF.pf rfl (pv_move rfl) rfl ?_
            refine AnyH.take 1 rfl (by kernel_rfl) (by kernel_rfl) (by kernel_rfl) PF.pf rfl (pv_move rfl) rfl ?_
            refine AnyH.take 2 rfl (by kernel_rfl) (by kernel_rfl) (by kernel_rfl) PF.pf rfl (pv_move rfl) rfl ?_
            refine AnyH.take 3 rfl (by kernel_rfl) (by kernel_rfl) (by kernel_rfl) PF.pf rfl (pv_indexAddr (i := i) rfl rfl rfl (by omega)) rfl ?_
            first | refine AnyH.take 4 rfl (by kernel_rfl) (by kernel_rfl) (by kernel_rfl) PF.pf rfl (pv_fieldAddr0 rfl rfl) rfl ?_ | refine AnyH.take 4 rfl (by kernel_rfl) (by kernel_rfl) (by kernel_rfl) PF.pf rfl (pv_fieldAddr rfl rfl) rfl ?_
            refine AnyH.take 5 rfl (by kernel_rfl) (by kernel_rfl) (by kernel_rfl) PF.pf rfl (pv_load rfl rfl r1) rfl ?_
            refine AnyH.take 7 rfl (by kernel_rfl) (by kernel_rfl) (by kernel_rfl) PF.pf rfl (pv_move rfl) rfl ?_
            refine AnyH.take 8 rfl (by kernel_rfl) (by kernel_rfl) (by kernel_rfl) PF.pf rfl (pv_move rfl) rfl ?_
            refine AnyH.take 9 rfl (by kernel_rfl) (by kernel_rfl) (by kernel_rfl) PF.pf rfl (pv_move rfl) rfl ?_
            refine AnyH.take 10 rfl (by kernel_rfl) (by kernel_rfl) (by kernel_rfl) PF.pf rfl (pv_indexAddr (i := i) rfl rfl rfl (by omega)) rfl ?_
            first | refine AnyH.take 11 rfl (by kernel_rfl) (by kernel_rfl) (by kernel_rfl) PF.pf rfl (pv_fieldAddr0 rfl rfl) rfl ?_ | refine AnyH.take 11 rfl (by kernel_rfl) (by kernel_rfl) (by kernel_rfl) PF.pf rfl (pv_fieldAddr rfl rfl) rfl ?_
            refine AnyH.take 12 rfl (by kernel_rfl) (by kernel_rfl) (by kernel_rfl) PF.pf rfl (pv_load rfl rfl r1) rfl ?_
            refine AnyH.one 6 (by kernel_rfl) ?_
            refine Turn.ef rfl rfl (ef_call (tr_lremove la1 _ H l x.id hs (by omega)) rfl rfl) ?_ ?_
            · rintro _ _ ⟨_, _, ⟨rfl, v3, H3, hs3, rfl⟩, rfl, rfl⟩; infer_instance
            rintro _ _ ⟨_, _, ⟨rfl, v3, H3, hs3, rfl⟩, rfl, rfl⟩
            refine AnyH.app ?_
            refine AnyH.one 13 (by kernel_rfl) ?_
            refine Turn.ef rfl rfl (ef_call (tr_rremove b1 _ K l x.id ht (by omega)) rfl rfl) ?_ ?_
            · rintro _ _ ⟨_, _, ⟨rfl, w3, K3, ht3, rfl⟩, rfl, rfl⟩; infer_instance
            rintro _ _ ⟨_, _, ⟨rfl, w3, K3, ht3, rfl⟩, rfl, rfl⟩
            refine AnyH.app ?_
            obtain ⟨p3, q3, rfl⟩ := ht3.form
            refine AnyH.take 14 rfl (by kernel_rfl) (by kernel_rfl) (by kernel_rfl) PF.pf rfl ((pv_neq_bool rfl rfl).is (u := .bool false) (by simp)) rfl ?_
            refine AnyH.done (by kernel_rfl) ?_
            refine Ends.seq ?_
            refine Wp.cond_false rfl ?_
            refine Wp.skip ?_
            refine Ends.block_normal ?_
            refine Ends.seq ?_
            refine Wp.seq ?_
            refine AnyH.start G 8 rfl ?_
            refine AnyH.take 0 rfl (by kernel_rfl) (by kernel_rfl) (by kernel_rfl) PF.pf rfl (pv_move rfl) rfl ?_
            refine AnyH.take 2 rfl (by kernel_rfl) (by kernel_rfl) (by kernel_rfl) PF.pf rfl (pv_move rfl) rfl ?_
            first | refine AnyH.take 3 rfl (by kernel_rfl) (by kernel_rfl) (by kernel_rfl) PF.pf rfl (pv_nilCheck rfl) rfl ?_ | refine AnyH.take 3 rfl (by kernel_rfl) (by kernel_rfl) (by kernel_rfl) PF.pf rfl (pv_nilCheck_func rfl rfl) rfl ?_
            first | refine AnyH.take 4 rfl (by kernel_rfl) (by kernel_rfl) (by kernel_rfl) PF.pf rfl (pv_fieldAddr0 rfl rfl) rfl ?_ | refine AnyH.take 4 rfl (by kernel_rfl) (by kernel_rfl) (by kernel_rfl) PF.pf rfl (pv_fieldAddr rfl rfl) rfl ?_
            refine AnyH.two 1 5 (by kernel_rfl) ?_ ?_
            · refine Turn.ef rfl rfl (ef_call (tr_list la1 _ H3 _ hs3 (by omega)) rfl rfl) ?_ ?_
              · rintro _ _ ⟨_, _, ⟨C5, hc5, rfl⟩, rfl, rfl⟩; infer_instance
              rintro _ _ ⟨_, _, ⟨C5, hc5, rfl⟩, rfl, rfl⟩
              refine AnyH.app ?_
              obtain ⟨u5, t5, rfl⟩ := hc5.form
              refine AnyH.one 5 (by kernel_rfl) ?_
              refine Turn.ef rfl rfl (ef_pv (pv_load rfl rfl rfl) rfl) ?_ ?_
              · rintro _ _ ⟨rfl, rfl⟩; infer_instance
              rintro _ _ ⟨rfl, rfl⟩
              refine AnyH.one 6 (by kernel_rfl) ?_
              refine Turn.ef rfl rfl (ef_callr (tr_same C5 K3 _ _ _ _ _ hc5.view ht3.view (by omega)) rfl rfl) ?_ ?_
              · rintro _ _ ⟨rfl, rfl⟩; infer_instance
              rintro _ _ ⟨rfl, rfl⟩
              first | refine AnyH.take 7 rfl (by kernel_rfl) (by kernel_rfl) (by kernel_rfl) PF.pf rfl (pv_not_dec rfl) rfl ?_ | refine AnyH.take 7 rfl (by kernel_rfl) (by kernel_rfl) (by kernel_rfl) PF.pf rfl (pv_not rfl) rfl ?_
              refine AnyH.done (by kernel_rfl) ?_
              refine Ends.seq ?_
              refine Wp.cond_false rfl ?_
              refine Wp.skip ?_
              refine Ends.block_normal ?_
              refine Ends.seq ?_
              refine Wp.region ?_
              refine Ops.pv (pv_move rfl) rfl ?_
              first | refine Ops.pv (pv_add rfl rfl (w64 (by omega) (by omega))) rfl ?_ | refine Ops.pv (pv_add rfl rfl rfl) rfl ?_
              refine Ops.pv (pv_assign rfl) rfl ?_
              refine Ops.nil ?_
              refine Ends.goes ?_
              refine Goes.back (hK (i + 1, (remL l x.id), _, H3, _, K3) ⟨by dsimp only; omega, by dsimp only; omega, hs3, ht3⟩ (by dsimp only; omega)) ⟨rfl, rfl, rfl, rfl, rfl, trivial⟩
            · refine Turn.ef rfl rfl (ef_pv (pv_load rfl rfl rfl) rfl) ?_ ?_
              · rintro _ _ ⟨rfl, rfl⟩; infer_instance
              rintro _ _ ⟨rfl, rfl⟩
              refine AnyH.one 1 (by kernel_rfl) ?_
              refine Turn.ef rfl rfl (ef_call (tr_list la1 _ H3 _ hs3 (by omega)) rfl rfl) ?_ ?_
              · rintro _ _ ⟨_, _, ⟨C6, hc6, rfl⟩, rfl, rfl⟩; infer_instance
              rintro _ _ ⟨_, _, ⟨C6, hc6, rfl⟩, rfl, rfl⟩
              refine AnyH.app ?_
              obtain ⟨u6, t6, rfl⟩ := hc6.form
              refine AnyH.one 6 (by kernel_rfl) ?_
              refine Turn.ef rfl rfl (ef_callr (tr_same C6 K3 _ _ _ _ _ hc6.view ht3.view (by omega)) rfl rfl) ?_ ?_
              · rintro _ _ ⟨rfl, rfl⟩; infer_instance
              rintro _ _ ⟨rfl, rfl⟩
              first | refine AnyH.take 7 rfl (by kernel_rfl) (by kernel_rfl) (by kernel_rfl) PF.pf rfl (pv_not_dec rfl) rfl ?_ | refine AnyH.take 7 rfl (by kernel_rfl) (by kernel_rfl) (by kernel_rfl) PF.pf rfl (pv_not rfl) rfl ?_
              refine AnyH.done (by kernel_rfl) ?_
              refine Ends.seq ?_
              refine Wp.cond_false rfl ?_
              refine Wp.skip ?_
              refine Ends.block_normal ?_
              refine Ends.seq ?_
              refine Wp.region ?_
              refine Ops.pv (pv_move rfl) rfl ?_
              first | refine Ops.pv (pv_add rfl rfl (w64 (by omega) (by omega))) rfl ?_ | refine Ops.pv (pv_add rfl rfl rfl) rfl ?_
              refine Ops.pv (pv_assign rfl) rfl ?_
              refine Ops.nil ?_
              refine Ends.goes ?_
              refine Goes.back (hK (i + 1, (remL l x.id), _, H3, _, K3) ⟨by dsimp only; omega, by dsimp only; omega, hs3, ht3⟩ (by dsimp only; omega)) ⟨rfl, rfl, rfl, rfl, rfl, trivial⟩
          · refine Wp.skip ?_
            refine Ends.block_normal ?_
            refine Ends.seq ?_
            refine Wp.seq ?_
            refine AnyH.start G 8 rfl ?_
            refine AnyH.take 0 rfl (by kernel_rfl) (by kernel_rfl) (by kernel_rfl) PF.pf rfl (pv_move rfl) rfl ?_
            refine AnyH.take 2 rfl (by kernel_rfl) (by kernel_rfl) (by kernel_rfl) PF.pf rfl (pv_move rfl) rfl ?_
            first | refine AnyH.take 3 rfl (by kernel_rfl) (by kernel_rfl) (by kernel_rfl) PF.pf rfl (pv_nilCheck rfl) rfl ?_ | refine AnyH.take 3 rfl (by kernel_rfl) (by kernel_rfl) (by kernel_rfl) PF.pf rfl (pv_nilCheck_func rfl rfl) rfl ?_
            first | refine AnyH.take 4 rfl (by kernel_rfl) (by kernel_rfl) (by kernel_rfl) PF.pf rfl (pv_fieldAddr0 rfl rfl) rfl ?_ | refine AnyH.take 4 rfl (by kernel_rfl) (by kernel_rfl) (by kernel_rfl) PF.pf rfl (pv_fieldAddr rfl rfl) rfl ?_
            refine AnyH.two 1 5 (by kernel_rfl) ?_ ?_
            · refine Turn.ef rfl rfl (ef_call (tr_list la1 _ H _ hs (by omega)) rfl rfl) ?_ ?_
              · rintro _ _ ⟨_, _, ⟨C7, hc7, rfl⟩, rfl, rfl⟩; infer_instance
              rintro _ _ ⟨_, _, ⟨C7, hc7, rfl⟩, rfl, rfl⟩
              refine AnyH.app ?_
              obtain ⟨u7, t7, rfl⟩ := hc7.form
              refine AnyH.one 5 (by kernel_rfl) ?_
              refine Turn.ef rfl rfl (ef_pv (pv_load rfl rfl rfl) rfl) ?_ ?_
              · rintro _ _ ⟨rfl, rfl⟩; infer_instance
              rintro _ _ ⟨rfl, rfl⟩
              refine AnyH.one 6 (by kernel_rfl) ?_
              refine Turn.ef rfl rfl (ef_callr (tr_same C7 K _ _ _ _ _ hc7.view ht.view (by omega)) rfl rfl) ?_ ?_
              · rintro _ _ ⟨rfl, rfl⟩; infer_instance
              rintro _ _ ⟨rfl, rfl⟩
              first | refine AnyH.take 7 rfl (by kernel_rfl) (by kernel_rfl) (by kernel_rfl) PF.pf rfl (pv_not_dec rfl) rfl ?_ | refine AnyH.take 7 rfl (by kernel_rfl) (by kernel_rfl) (by kernel_rfl) PF.pf rfl (pv_not rfl) rfl ?_
              refine AnyH.done (by kernel_rfl) ?_
              refine Ends.seq ?_
              refine Wp.cond_false rfl ?_
              refine Wp.skip ?_
              refine Ends.block_normal ?_
              refine Ends.seq ?_
              refine Wp.region ?_
              refine Ops.pv (pv_move rfl) rfl ?_
              first | refine Ops.pv (pv_add rfl rfl (w64 (by omega) (by omega))) rfl ?_ | refine Ops.pv (pv_add rfl rfl rfl) rfl ?_
              refine Ops.pv (pv_assign rfl) rfl ?_
              refine Ops.nil ?_
              refine Ends.goes ?_
              refine Goes.back (hK (i + 1, l, _, H, _, K) ⟨by dsimp only; omega, by dsimp only; omega, hs, ht⟩ (by dsimp only; omega)) ⟨rfl, rfl, rfl, rfl, rfl, trivial⟩
            · refine Turn.ef rfl rfl (ef_pv (pv_load rfl rfl rfl) rfl) ?_ ?_
              · rintro _ _ ⟨rfl, rfl⟩; infer_instance
              rintro _ _ ⟨rfl, rfl⟩
              refine AnyH.one 1 (by kernel_rfl) ?_
              refine Turn.ef rfl rfl (ef_call (tr_list la1 _ H _ hs (by omega)) rfl rfl) ?_ ?_
              · rintro _ _ ⟨_, _, ⟨C8, hc8, rfl⟩, rfl, rfl⟩; infer_instance
              rintro _ _ ⟨_, _, ⟨C8, hc8, rfl⟩, rfl, rfl⟩
              refine AnyH.app ?_
              obtain ⟨u8, t8, rfl⟩ := hc8.form
              refine AnyH.one 6 (by kernel_rfl) ?_
              refine Turn.ef rfl rfl (ef_callr (tr_same C8 K _ _ _ _ _ hc8.view ht.view (by omega)) rfl rfl) ?_ ?_
              · rintro _ _ ⟨rfl, rfl⟩; infer_instance
              rintro _ _ ⟨rfl, rfl⟩
              first | refine AnyH.take 7 rfl (by kernel_rfl) (by kernel_rfl) (by kernel_rfl) PF.pf rfl (pv_not_dec rfl) rfl ?_ | refine AnyH.take 7 rfl (by kernel_rfl) (by kernel_rfl) (by kernel_rfl) PF.pf rfl (pv_not rfl) rfl ?_
              refine AnyH.done (by kernel_rfl) ?_
              refine Ends.seq ?_
              refine Wp.cond_false rfl ?_
              refine Wp.skip ?_
              refine Ends.block_normal ?_
              refine Ends.seq ?_
              refine Wp.region ?_
              refine Ops.pv (pv_move rfl) rfl ?_
              first | refine Ops.pv (pv_add rfl rfl (w64 (by omega) (by omega))) rfl ?_ | refine Ops.pv (pv_add rfl rfl rfl) rfl ?_
              refine Ops.pv (pv_assign rfl) rfl ?_
              refine Ops.nil ?_
              refine Ends.goes ?_
              refine Goes.back (hK (i + 1, l, _, H, _, K) ⟨by dsimp only; omega, by dsimp only; omega, hs, ht⟩ (by dsimp only; omega)) ⟨rfl, rfl, rfl, rfl, rfl, trivial⟩
    · refine Wp.exit ?_
      refine Ends.then_exit ?_
      refine Ends.then_exit ?_
      refine Ends.block_hit ?_
      refine Ends.seq ?_
      refine Wp.seq ?_
      refine Wp.region ?_
      refine Ops.pv (pv_assign rfl) rfl ?_
      refine Ops.nil ?_
      refine Ends.seq ?_
      refine Wp.ret ?_
      exact Ends.ret (res1 rfl rfl) ⟨rfl, rfl⟩
  · refine Ops.skipg ⟨_, _, rfl, rfl, rfl⟩ rfl ?_
    refine Ops.skipg ⟨_, _, rfl, rfl, rfl⟩ rfl ?_
    refine Ops.pv (pv_pick_false rfl rfl) rfl ?_
    refine Ops.nil ?_
    refine Ends.seq ?_
    refine Wp.cond_false rfl ?_
    refine Wp.exit ?_
    refine Ends.then_exit ?_
    refine Ends.then_exit ?_
    refine Ends.block_hit ?_
    refine Ends.seq ?_
    refine Wp.seq ?_
    refine Wp.region ?_
    refine Ops.pv (pv_assign rfl) rfl ?_
    refine Ops.nil ?_
    refine Ends.seq ?_
    refine Wp.ret ?_
    exact Ends.ret (res1 rfl rfl) ⟨rfl, rfl⟩

end Go.Proofs.Ytpjodkcghiklcaa
