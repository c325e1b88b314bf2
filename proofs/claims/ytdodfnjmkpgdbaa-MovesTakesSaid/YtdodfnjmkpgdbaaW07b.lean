/- Walks of layer 7, second part: Drop, Full and works. No condition. -/
import Derived.Test.YtdodfnjmkpgdbaaM07d
set_option linter.unusedVariables false
set_option linter.unusedSimpArgs false
namespace Go.Proofs.Ytdodfnjmkpgdbaa
open Go.SL

theorem tr_drop_none (sb : Nat) (S : StoreM) (id : Int) (h : nget id S.nodes = none) : Tr Try.prog 62 [.pointer (some ⟨sb, 0, none⟩), .int .i64 id] (storeHp sb S) (fun v L' => v = .int .i64 (S.drop id).1 ∧ L' = storeHp sb (S.drop id).2) := by
  have hm : (mget id (nodeKV S.nodes)).getD (.pointer none) = .pointer none := by rw [mget_nodeKV, h]; rfl
  refine Tr.enter Try.func62 rfl Try.ntmps62 rfl (fun W F => ?_)
  refine Wp.app ?_
  refine Wp.seq ?_
  refine Wp.region ?_
  refine Ops.pv (pv_assign rfl) rfl ?_
  refine Ops.nil ?_
  refine Ends.seq ?_
  refine Wp.seq ?_
  refine Wp.region ?_
  refine Ops.pv (pv_move rfl) rfl ?_
  first | refine Ops.pv (pv_nilCheck rfl) rfl ?_ | refine Ops.pv (pv_nilCheck_func rfl rfl) rfl ?_
  first | refine Ops.pv (pv_fieldAddr0 rfl rfl) rfl ?_ | refine Ops.pv (pv_fieldAddr rfl rfl) rfl ?_
  first | refine Ops.pv (pv_load rfl rfl rfl) rfl ?_ | refine Ops.pv (pv_load rfl rfl (by assumption)) rfl ?_
  refine Ops.pv (pv_move rfl) rfl ?_
  refine Ops.pv (pv_lookup_i id rfl rfl hm) rfl ?_
  refine Ops.pv (pv_assign rfl) rfl ?_
  refine Ops.nil ?_
  refine Ends.seq ?_
  refine Wp.seq ?_
  refine Wp.block ?_
  refine Wp.seq ?_
  refine Wp.region ?_
  refine Ops.pv (pv_move rfl) rfl ?_
  refine Ops.pv (pv_eql_nil rfl rfl) rfl ?_
  refine Ops.pv (pv_assign rfl) rfl ?_
  refine Ops.nil ?_
  refine Ends.seq ?_
  refine Wp.cond_true rfl ?_
  refine Wp.seq ?_
  refine Wp.region ?_
  refine Ops.pv (pv_assign rfl) rfl ?_
  refine Ops.nil ?_
  refine Ends.seq ?_
  refine Wp.ret ?_
  refine Ends.block_ret ?_
  refine Ends.then_ret ?_
  exact Ends.ret (L' := storeHp sb S) (res1 rfl rfl) ⟨by simp [StoreM.drop, *], by simp [StoreM.drop, *]⟩

theorem tr_drop_some (sb : Nat) (S : StoreM) (id : Int) (n : NodeM) (hw : S.Wf) (h : nget id S.nodes = some n) : Tr Try.prog 62 [.pointer (some ⟨sb, 0, none⟩), .int .i64 id] (storeHp sb S) (fun v L' => v = .int .i64 (S.drop id).1 ∧ L' = storeHp sb (S.drop id).2) := by
  have hm : (mget id (nodeKV S.nodes)).getD (.pointer none) = .pointer (some ⟨n.blk, 0, none⟩) := by rw [mget_nodeKV, h]; rfl
  have hblk := S.blk (sb := sb) h
  have hl := (hw _ _ h).1.len
  have hupd := fun o => S.updMap (sb := sb) (o := o)
  refine Tr.enter Try.func62 rfl Try.ntmps62 rfl (fun W F => ?_)
  refine Wp.app ?_
  refine Wp.seq ?_
  refine Wp.region ?_
  refine Ops.pv (pv_assign rfl) rfl ?_
  refine Ops.nil ?_
  refine Ends.seq ?_
  refine Wp.seq ?_
  refine Wp.region ?_
  refine Ops.pv (pv_move rfl) rfl ?_
  first | refine Ops.pv (pv_nilCheck rfl) rfl ?_ | refine Ops.pv (pv_nilCheck_func rfl rfl) rfl ?_
  first | refine Ops.pv (pv_fieldAddr0 rfl rfl) rfl ?_ | refine Ops.pv (pv_fieldAddr rfl rfl) rfl ?_
  first | refine Ops.pv (pv_load rfl rfl rfl) rfl ?_ | refine Ops.pv (pv_load rfl rfl (by assumption)) rfl ?_
  refine Ops.pv (pv_move rfl) rfl ?_
  refine Ops.pv (pv_lookup_i id rfl rfl hm) rfl ?_
  refine Ops.pv (pv_assign rfl) rfl ?_
  refine Ops.nil ?_
  refine Ends.seq ?_
  refine Wp.seq ?_
  refine Wp.block ?_
  refine Wp.seq ?_
  refine Wp.region ?_
  refine Ops.pv (pv_move rfl) rfl ?_
  refine Ops.pv (pv_eql_nil rfl rfl) rfl ?_
  refine Ops.pv (pv_assign rfl) rfl ?_
  refine Ops.nil ?_
  refine Ends.seq ?_
  refine Wp.cond_false rfl ?_
  refine Wp.seq ?_
  refine Wp.region ?_
  refine Ops.pv (pv_move rfl) rfl ?_
  first | refine Ops.pv (pv_nilCheck rfl) rfl ?_ | refine Ops.pv (pv_nilCheck_func rfl rfl) rfl ?_
  first | refine Ops.pv (pv_fieldAddr0 rfl rfl) rfl ?_ | refine Ops.pv (pv_fieldAddr rfl rfl) rfl ?_
  refine Ops.pv (pv_loadK (capsCells n.caps) rfl rfl (by rw [capsCells_len, hl]) n.readsAll) rfl ?_
  refine Ops.pv (pv_build_arr0 rfl) rfl ?_
  refine Ops.pv (pv_neq_arr (m := 16) (n.caps.map CapM.nums) (zeroCaps.map CapM.nums) (by exact ev_caps n.caps) (by exact ev_caps zeroCaps) rfl rfl (by simp [hl]) (by simp [zeroCaps]) (by intro q hq; obtain ⟨c, _, rfl⟩ := List.mem_map.1 hq; rfl) (by intro q hq; obtain ⟨c, _, rfl⟩ := List.mem_map.1 hq; rfl) (by kernel_rfl)) rfl ?_
  refine Ops.pv (pv_assign rfl) rfl ?_
  refine Ops.nil ?_
  refine Ends.seq ?_
  first | refine Wp.cond_dect rfl (fun h1 => ?_) (fun h1 => ?_) | refine Wp.cond_t rfl (fun h1 => ?_) (fun h1 => ?_)
  · refine Wp.seq ?_
    refine Wp.region ?_
    refine Ops.pv (pv_assign rfl) rfl ?_
    refine Ops.nil ?_
    refine Ends.seq ?_
    refine Wp.ret ?_
    refine Ends.block_ret ?_
    refine Ends.then_ret ?_
    have h2' : n.caps ≠ zeroCaps := fun e => h1 (by rw [e])
    exact Ends.ret (L' := storeHp sb S) (res1 rfl rfl) ⟨by simp [StoreM.drop, *], by simp [StoreM.drop, *]⟩
  · refine Wp.skip ?_
    refine Ends.block_normal ?_
    refine Ends.seq ?_
    refine Wp.seq ?_
    refine Wp.region ?_
    refine Ops.pv (pv_move rfl) rfl ?_
    first | refine Ops.pv (pv_nilCheck rfl) rfl ?_ | refine Ops.pv (pv_nilCheck_func rfl rfl) rfl ?_
    first | refine Ops.pv (pv_fieldAddr0 rfl rfl) rfl ?_ | refine Ops.pv (pv_fieldAddr rfl rfl) rfl ?_
    first | refine Ops.pv (pv_load rfl rfl rfl) rfl ?_ | refine Ops.pv (pv_load rfl rfl (by assumption)) rfl ?_
    refine Ops.pv (pv_move rfl) rfl ?_
    refine Ops.ef rfl (ef_deleten_i (T := 86) _ rfl rfl rfl) ?_
    rintro _ _ ⟨rfl, rfl⟩
    refine Ops.nil ?_
    refine Ends.seq ?_
    refine Wp.seq ?_
    refine Wp.region ?_
    refine Ops.pv (pv_assign rfl) rfl ?_
    refine Ops.nil ?_
    refine Ends.seq ?_
    refine Wp.ret ?_
    have h2' : n.caps = zeroCaps := Decidable.byContradiction fun e => h1 (nums_caps.2 e)
    refine Ends.heap (L' := storeHp sb (S.delNode id) ++ F) (fun w ho => Drop.own (ho.perm (StoreM.del_perm h))) ?_
    exact Ends.ret (L' := storeHp sb (S.delNode id)) (res1 rfl rfl) ⟨by simp [StoreM.drop, *], by simp [StoreM.drop, *]⟩

theorem tr_sdrop (sb : Nat) (S : StoreM) (id : Int) (hw : S.Wf) : Tr Try.prog 62 [.pointer (some ⟨sb, 0, none⟩), .int .i64 id] (storeHp sb S) (fun v L' => v = .int .i64 (S.drop id).1 ∧ L' = storeHp sb (S.drop id).2) := by
  cases h : nget id S.nodes with
  | none => exact tr_drop_none sb S id h
  | some n => exact tr_drop_some sb S id n hw h

set_option maxHeartbeats 2000000 in
theorem tr_full (sb : Nat) (S : StoreM) (hw : S.Wf) : Tr Try.prog 23 [.pointer (some ⟨sb, 0, none⟩)] (storeHp sb S) (fun v L' => ∃ H, Slc 38 2 v (fullM S).length (slotsCells (fullM S)) H ∧ L' = H ++ storeHp sb S) := by
  refine Tr.enter Try.func23 rfl Try.ntmps23 rfl (fun W F => ?_)
  refine Wp.app ?_
  refine Wp.seq ?_
  refine Wp.region ?_
  refine Ops.pv (pv_assign rfl) rfl ?_
  refine Ops.nil ?_
  refine Ends.seq ?_
  refine Wp.seq ?_
  refine Wp.region ?_
  refine Ops.pv (pv_assign rfl) rfl ?_
  refine Ops.nil ?_
  refine Ends.seq ?_
  refine Wp.seq ?_
  refine Wp.seq ?_
  refine Wp.region ?_
  refine Ops.pv (pv_move rfl) rfl ?_
  refine Ops.nil ?_
  refine Ends.seq ?_
  refine Wp.block ?_
  refine Wp.loop (σ := Nat × Value × Hp) (fun x => [(0, .pointer (some ⟨sb, 0, none⟩)), (2, .slice none 0 0), (3, x.2.1), (8, .int .i64 x.1)]) (fun x => x.2.2 ++ (storeHp sb S ++ F)) (fun x => x.1 ≤ 64 ∧ Slc 38 2 x.2.1 (fullUpto S x.1).length (slotsCells (fullUpto S x.1)) x.2.2) (fun x => 64 - x.1) (0, .slice none 0 0, []) ⟨Nat.zero_le _, Slc.nil _ _⟩ (by exact ⟨rfl, rfl, rfl, rfl, trivial⟩) (by intro w ho; exact ho) ?_
  rintro ⟨i, v, H⟩ K ⟨hi, hs⟩ hK
  dsimp only at hi hs hK ⊢
  refine Wp.seq ?_
  refine Wp.region ?_
  refine Ops.pv (pv_lss rfl rfl) rfl ?_
  refine Ops.nil ?_
  refine Ends.seq ?_
  refine Wp.seq ?_
  first | refine Wp.cond_dect rfl (fun h1 => ?_) (fun h1 => ?_) | refine Wp.cond_t rfl (fun h1 => ?_) (fun h1 => ?_)
  · refine Wp.skip ?_
    refine Ends.seq ?_
    refine Wp.seq ?_
    refine Wp.block ?_
    refine Wp.seq ?_
    refine Wp.region ?_
    refine Ops.pv (pv_move rfl) rfl ?_
    refine Ops.pv (pv_assign rfl) rfl ?_
    refine Ops.nil ?_
    refine Ends.seq ?_
    refine Wp.seq ?_
    refine Wp.region ?_
    refine Ops.pv (pv_move rfl) rfl ?_
    first | refine Ops.pv (pv_nilCheck rfl) rfl ?_ | refine Ops.pv (pv_nilCheck_func rfl rfl) rfl ?_
    first | refine Ops.pv (pv_fieldAddr0 rfl rfl) rfl ?_ | refine Ops.pv (pv_fieldAddr rfl rfl) rfl ?_
    first | refine Ops.pv (pv_load rfl rfl rfl) rfl ?_ | refine Ops.pv (pv_load rfl rfl (by assumption)) rfl ?_
    refine Ops.pv (pv_move rfl) rfl ?_
    refine Ops.pv (pv_lookup_i (i : Int) rfl rfl (nptr_hm S i)) rfl ?_
    refine Ops.pv (pv_assign rfl) rfl ?_
    refine Ops.nil ?_
    refine Ends.seq ?_
    refine Wp.seq ?_
    refine Wp.region ?_
    refine Ops.pv (pv_move rfl) rfl ?_
    refine Ops.pv (pv_neq_nil rfl rfl) rfl ?_
    refine Ops.nil ?_
    refine Ends.seq ?_
    refine Wp.cond_t rfl (fun h2 => ?_) (fun h2 => ?_)
    · obtain ⟨n, hn, hp⟩ := nptr_some h2
      rw [hp]
      have hblk := S.blk (sb := sb) hn
      have hl := (hw _ _ hn).1.len
      refine Wp.seq ?_
      refine Wp.region ?_
      refine Ops.pv (pv_move rfl) rfl ?_
      first | refine Ops.pv (pv_nilCheck rfl) rfl ?_ | refine Ops.pv (pv_nilCheck_func rfl rfl) rfl ?_
      first | refine Ops.pv (pv_fieldAddr0 rfl rfl) rfl ?_ | refine Ops.pv (pv_fieldAddr rfl rfl) rfl ?_
      refine Ops.pv (pv_loadK (capsCells n.caps) rfl rfl (by rw [capsCells_len, hl]) n.readsAll) rfl ?_
      refine Ops.pv (pv_move rfl) rfl ?_
      refine Ops.nil ?_
      refine Ends.seq ?_
      refine Wp.block ?_
      refine Wp.loop (σ := Nat × Value × Hp) (fun x => [(0, .pointer (some ⟨sb, 0, none⟩)), (2, .slice none 0 0), (3, x.2.1), (4, .int .i64 i), (8, .int .i64 i), (22, .agg (capsCells n.caps).toArray), (23, .int .i64 x.1)]) (fun x => x.2.2 ++ (storeHp sb S ++ F)) (fun x => x.1 ≤ 16 ∧ Slc 38 2 x.2.1 (fullUpto S i ++ nodeFull i n.caps x.1).length (slotsCells (fullUpto S i ++ nodeFull i n.caps x.1)) x.2.2) (fun x => 16 - x.1) (0, v, H) ⟨Nat.zero_le _, by simpa [nodeFull] using hs⟩ (by exact ⟨rfl, rfl, rfl, rfl, rfl, rfl, rfl, trivial⟩) (by intro w ho; exact Drop.own ho) ?_
      rintro ⟨j, v, H⟩ K2 ⟨hj, hs⟩ hK2
      dsimp only at hj hs hK2 ⊢
      refine Wp.seq ?_
      refine Wp.region ?_
      refine Ops.pv (pv_lss rfl rfl) rfl ?_
      refine Ops.nil ?_
      refine Ends.seq ?_
      refine Wp.seq ?_
      first | refine Wp.cond_dect rfl (fun h3 => ?_) (fun h3 => ?_) | refine Wp.cond_t rfl (fun h3 => ?_) (fun h3 => ?_)
      · obtain ⟨c, hc⟩ : ∃ c, n.caps[j]? = some c := ⟨_, List.getElem?_eq_getElem (by omega)⟩
        refine Wp.skip ?_
        refine Ends.seq ?_
        refine Wp.seq ?_
        refine Wp.block ?_
        refine Wp.seq ?_
        refine Wp.region ?_
        refine Ops.pv (pv_move rfl) rfl ?_
        refine Ops.pv (pv_indexK c.cells rfl rfl rfl rfl (by omega) rfl (caps_reads hc)) rfl ?_
        refine Ops.ef rfl (ef_allocK tyZ24 rfl) ?_
        rintro _ _ ⟨b1, rfl, rfl⟩
        refine Ops.pv (pv_assign rfl) rfl ?_
        refine Ops.ef rfl (ef_storeK rfl rfl rfl rfl) ?_
        rintro _ _ ⟨rfl, rfl⟩
        refine Ops.nil ?_
        refine Ends.seq ?_
        refine Wp.seq ?_
        refine Wp.region ?_
        first | refine Ops.pv (pv_fieldAddr0 rfl rfl) rfl ?_ | refine Ops.pv (pv_fieldAddr rfl rfl) rfl ?_
        first | refine Ops.pv (pv_load rfl rfl rfl) rfl ?_ | refine Ops.pv (pv_load rfl rfl (by assumption)) rfl ?_
        refine Ops.pv (pv_neq rfl rfl) rfl ?_
        refine Ops.nil ?_
        refine Ends.seq ?_
        first | refine Wp.cond_dect rfl (fun h4 => ?_) (fun h4 => ?_) | refine Wp.cond_t rfl (fun h4 => ?_) (fun h4 => ?_)
        · refine Wp.region ?_
          refine Ops.pv (pv_move rfl) rfl ?_
          refine Ops.pv (pv_move rfl) rfl ?_
          refine Ops.pv (pv_move rfl) rfl ?_
          refine Ops.pv (pv_build rfl) rfl ?_
          refine Ops.ef rfl (ef_buildSlice1 (k := 2) rfl rfl rfl rfl rfl) ?_
          rintro _ _ ⟨b2, rfl, rfl⟩
          refine Ops.ef rfl (ef_append (xs := slotCells (i, j)) rfl hs rfl ⟨rfl, rfl, trivial⟩ rfl rfl rfl (by have := fullUpto_len S i; have := nodeFull_len i n.caps j; rw [List.length_append]; omega) (by have := fullUpto_len S i; have := nodeFull_len i n.caps j; rw [List.length_append]; omega) rfl rfl) ?_
          rintro _ _ ⟨v1, H1, hs1, rfl, rfl⟩
          refine Ops.app ?_
          skip
          refine Ops.pv (pv_assign rfl) rfl ?_
          refine Ops.nil ?_
          refine Ends.block_normal ?_
          refine Ends.seq ?_
          refine Wp.region ?_
          first | refine Ops.pv (pv_add rfl rfl (w64 (by omega) (by omega))) rfl ?_ | refine Ops.pv (pv_add rfl rfl rfl) rfl ?_
          refine Ops.pv (pv_move rfl) rfl ?_
          refine Ops.nil ?_
          refine Ends.goes ?_
          refine Goes.back (hK2 (j + 1, v1, H1) ⟨by dsimp only; omega, ?_⟩ (by dsimp only; omega)) ⟨rfl, rfl, rfl, rfl, rfl, rfl, rfl, trivial⟩
          have e1 : nodeFull i n.caps (j + 1) = nodeFull i n.caps j ++ [((i : Int), (j : Int))] := by simp only [nodeFull, hc, Option.getD_some]; rw [if_pos ‹c.kind ≠ 0›]
          dsimp only; rw [e1, ← List.append_assoc, List.length_append, slotsCells_app]; exact hs1
        · refine Wp.skip ?_
          refine Ends.block_normal ?_
          refine Ends.seq ?_
          refine Wp.region ?_
          first | refine Ops.pv (pv_add rfl rfl (w64 (by omega) (by omega))) rfl ?_ | refine Ops.pv (pv_add rfl rfl rfl) rfl ?_
          refine Ops.pv (pv_move rfl) rfl ?_
          refine Ops.nil ?_
          refine Ends.goes ?_
          refine Goes.back (hK2 (j + 1, v, H) ⟨by dsimp only; omega, ?_⟩ (by dsimp only; omega)) ⟨rfl, rfl, rfl, rfl, rfl, rfl, rfl, trivial⟩
          have e1 : nodeFull i n.caps (j + 1) = nodeFull i n.caps j := by simp only [nodeFull, hc, Option.getD_some]; rw [if_neg ‹¬ c.kind ≠ 0›, List.append_nil]
          dsimp only; rw [e1]; exact hs
      · obtain rfl : j = 16 := by omega
        refine Wp.exit ?_
        refine Ends.then_exit ?_
        refine Ends.then_exit ?_
        refine Ends.block_hit ?_
        refine Ends.block_normal ?_
        refine Ends.seq ?_
        refine Wp.region ?_
        first | refine Ops.pv (pv_add rfl rfl (w64 (by omega) (by omega))) rfl ?_ | refine Ops.pv (pv_add rfl rfl rfl) rfl ?_
        refine Ops.pv (pv_move rfl) rfl ?_
        refine Ops.nil ?_
        refine Ends.goes ?_
        refine Goes.back (hK (i + 1, v, H) ⟨by dsimp only; omega, ?_⟩ (by dsimp only; omega)) ⟨rfl, rfl, rfl, rfl, trivial⟩
        have e1 : fullUpto S (i + 1) = fullUpto S i ++ nodeFull i n.caps 16 := by simp only [fullUpto, full1, hn]
        dsimp only; rw [e1]; exact hs
    · refine Wp.skip ?_
      refine Ends.block_normal ?_
      refine Ends.seq ?_
      refine Wp.region ?_
      first | refine Ops.pv (pv_add rfl rfl (w64 (by omega) (by omega))) rfl ?_ | refine Ops.pv (pv_add rfl rfl rfl) rfl ?_
      refine Ops.pv (pv_move rfl) rfl ?_
      refine Ops.nil ?_
      refine Ends.goes ?_
      refine Goes.back (hK (i + 1, v, H) ⟨by dsimp only; omega, ?_⟩ (by dsimp only; omega)) ⟨rfl, rfl, rfl, rfl, trivial⟩
      have e1 : fullUpto S (i + 1) = fullUpto S i := by simp [fullUpto, full1, nptr_none (by simpa using h2)]
      dsimp only; rw [e1]; exact hs
  · refine Wp.exit ?_
    refine Ends.then_exit ?_
    refine Ends.then_exit ?_
    refine Ends.block_hit ?_
    refine Ends.seq ?_
    refine Wp.seq ?_
    refine Wp.region ?_
    refine Ops.pv (pv_move rfl) rfl ?_
    refine Ops.pv (pv_assign rfl) rfl ?_
    refine Ops.nil ?_
    refine Ends.seq ?_
    refine Wp.ret ?_
    obtain rfl : i = 64 := by omega
    exact Ends.ret (L' := H ++ storeHp sb S) (res1 rfl rfl) ⟨H, hs, rfl⟩

end Go.Proofs.Ytdodfnjmkpgdbaa
