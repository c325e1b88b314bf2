/- The walk of SlotsKeeps: it returns true, whatever the input. No condition. -/
import Derived.Test.YtpoamckpdpkpoaaM07g
import Derived.Test.YtpoamckpdpkpoaaW07c
set_option linter.unusedVariables false
set_option linter.unusedSimpArgs false
namespace Go.Proofs.Ytpoamckpdpkpoaa
open Go.SL
attribute [local irreducible] fullM

set_option maxHeartbeats 8000000 in
theorem tr_slotsKeeps (G : Hp) (a : Option Addr) (c : Nat) (l : List OpM) (ha : ArgS G 10 a (l.map OpM.cells)) (hl : l.length ≤ maxLen) : TrR Try.prog 5 [.slice a l.length c] (G) (.bool true) := by
  refine Tr.enter Try.func5 rfl Try.ntmps5 rfl (fun W F => ?_)
  refine Wp.app ?_
  refine Wp.seq ?_
  refine Wp.region ?_
  refine Ops.pv (pv_assign rfl) rfl ?_
  refine Ops.nil ?_
  refine Ends.seq ?_
  refine Wp.seq ?_
  refine Wp.seq ?_
  refine Wp.region ?_
  refine Ops.ef rfl (ef_callr (tr_works7) rfl rfl) ?_
  rintro _ _ ⟨rfl, rfl⟩
  first | refine Ops.pv (pv_not_dec rfl) rfl ?_ | refine Ops.pv (pv_not rfl) rfl ?_
  refine Ops.nil ?_
  refine Ends.seq ?_
  refine Wp.cond_false rfl ?_
  refine Wp.skip ?_
  refine Ends.seq ?_
  refine Wp.seq ?_
  refine Wp.region ?_
  refine Ops.ef rfl (ef_call (tr_slotsNew) rfl rfl) ?_
  rintro _ _ ⟨_, _, ⟨sb1, S1, rfl, rfl, hS1⟩, rfl, rfl⟩
  refine Ops.app ?_
  refine Ops.pv (pv_assign rfl) rfl ?_
  refine Ops.nil ?_
  refine Ends.seq ?_
  refine Wp.seq ?_
  refine Wp.region ?_
  refine Ops.ef rfl (ef_makeMap rfl rfl) ?_
  rintro _ _ ⟨b1, rfl, rfl⟩
  refine Ops.pv (pv_assign rfl) rfl ?_
  refine Ops.nil ?_
  refine Ends.seq ?_
  refine Wp.seq ?_
  refine Wp.region ?_
  refine Ops.pv (pv_assign rfl) rfl ?_
  refine Ops.nil ?_
  refine Ends.seq ?_
  refine Wp.seq ?_
  refine Wp.seq ?_
  refine Wp.region ?_
  refine Ops.pv (pv_assign rfl) rfl ?_
  refine Ops.nil ?_
  refine Ends.seq ?_
  refine Wp.block ?_
  refine Wp.loop (σ := Nat × StoreM × Value × Hp) (fun x => [(0, .slice a l.length c), (2, .bool false), (3, .pointer (some ⟨sb1, 0, none⟩)), (4, .map (some b1)), (5, x.2.2.1), (6, .int .i64 x.1)]) (fun x => storeHp sb1 x.2.1 ++ (x.2.2.2 ++ ((b1, mapO encS ([] : List (SlotM × Value × Nat)) 0) :: (G ++ F)))) (fun x => x.1 ≤ 4 ∧ x.2.1.Wf ∧ x.2.1.Tidy ∧ (∀ id : Int, x.2.1.radix id = if 0 ≤ id ∧ id < (x.1 : Int) then id + 1 else 0) ∧ (∀ s, (x.2.1.get s).1 = CapM.zero) ∧ Slc 31 2 x.2.2.1 (allUpto x.1).length (slotsCells (allUpto x.1)) x.2.2.2) (fun x => 4 - x.1) (0, S1, .slice none 0 0, []) ⟨Nat.zero_le _, wf_new hS1, tidy_new hS1, fun id => by dsimp only; rw [if_neg (by omega)]; unfold StoreM.radix; rw [hS1]; rfl, fun s => by dsimp only; unfold StoreM.get StoreM.cap?; rw [hS1]; rfl, Slc.nil _ _⟩ (by exact ⟨rfl, rfl, rfl, rfl, rfl, rfl, trivial⟩) (by intro w ho; have h := (Drop.own ho : Own W w (storeHp sb1 S1 ++ ((b1, .map #[] 0) :: (G ++ F)))); exact h) ?_
  rintro ⟨k, S, v, H⟩ K1 ⟨hk, hwf, ht, hra, hem, hs⟩ hK1
  dsimp only at hk hwf ht hra hem hs hK1 ⊢
  refine Wp.seq ?_
  refine Wp.seq ?_
  refine Wp.region ?_
  refine Ops.pv (pv_move rfl) rfl ?_
  refine Ops.pv (pv_lss rfl rfl) rfl ?_
  refine Ops.nil ?_
  refine Ends.seq ?_
  first | refine Wp.cond_dect rfl (fun h1 => ?_) (fun h1 => ?_) | refine Wp.cond_t rfl (fun h1 => ?_) (fun h1 => ?_)
  · have hnk : nget (k : Int) S.nodes = none := radix_none hwf (by rw [hra, if_neg (by omega)])
    refine Wp.skip ?_
    refine Ends.seq ?_
    refine Wp.seq ?_
    refine Wp.block ?_
    refine Wp.seq ?_
    refine Wp.seq ?_
    refine Wp.region ?_
    refine Ops.pv (pv_move rfl) rfl ?_
    refine Ops.pv (pv_move rfl) rfl ?_
    refine Ops.pv (pv_move rfl) rfl ?_
    refine Ops.pv (pv_add rfl rfl (w64n (k := k + 1) (by omega) (by omega))) rfl ?_
    refine Ops.ef rfl (ef_call (tr_add_ok (S := S) (id := (k : Int)) hnk (k + 1) sb1 (by omega) (by omega) (by omega) (by omega)) rfl rfl) ?_
    rintro _ _ ⟨_, _, ⟨rfl, b2, rfl⟩, rfl, rfl⟩
    refine Ops.app ?_
    refine Ops.pv ((pv_neq rfl rfl).fls (by first | exact fun h => h rfl | decide | omega | assumption)) rfl ?_
    refine Ops.nil ?_
    refine Ends.seq ?_
    refine Wp.cond_false rfl ?_
    refine Wp.skip ?_
    refine Ends.seq ?_
    refine Wp.seq ?_
    refine Wp.region ?_
    refine Ops.pv (pv_assign rfl) rfl ?_
    refine Ops.nil ?_
    refine Ends.seq ?_
    refine Wp.block ?_
    refine Wp.loop (σ := Nat × Value × Hp) (fun x => [(0, .slice a l.length c), (2, .bool false), (3, .pointer (some ⟨sb1, 0, none⟩)), (4, .map (some b1)), (5, x.2.1), (6, .int .i64 k), (7, .int .i64 x.1)]) (fun x => storeHp sb1 (S.addNode (k : Int) b2 (k + 1)) ++ (x.2.2 ++ ((b1, mapO encS ([] : List (SlotM × Value × Nat)) 0) :: (G ++ F)))) (fun x => x.1 ≤ 2 ^ (k + 1) ∧ Slc 31 2 x.2.1 (allUpto k ++ rowM k x.1).length (slotsCells (allUpto k ++ rowM k x.1)) x.2.2) (fun x => 2 ^ (k + 1) - x.1) (0, v, H) ⟨Nat.zero_le _, by simpa [rowM] using hs⟩ (by exact ⟨rfl, rfl, rfl, rfl, rfl, rfl, rfl, trivial⟩) (by intro w ho; exact Drop.own ho) ?_
    rintro ⟨j, v, H⟩ K2 ⟨hj, hs⟩ hK2
    dsimp only at hj hs hK2 ⊢
    have hl1 := allUpto_len (k := k) (by omega)
    have hl2 := pow_le16 (k := k) (by omega)
    have hl3 := rowM_len k j
    refine Wp.seq ?_
    refine Wp.seq ?_
    refine Wp.region ?_
    refine Ops.pv (pv_move rfl) rfl ?_
    refine Ops.pv (pv_move rfl) rfl ?_
    refine Ops.pv (pv_shl rfl rfl (by omega) (shl2 (by omega))) rfl ?_
    refine Ops.pv (pv_lss rfl rfl) rfl ?_
    refine Ops.nil ?_
    refine Ends.seq ?_
    first | refine Wp.cond_dect rfl (fun h2 => ?_) (fun h2 => ?_) | refine Wp.cond_t rfl (fun h2 => ?_) (fun h2 => ?_)
    · refine Wp.skip ?_
      refine Ends.seq ?_
      refine Wp.seq ?_
      refine Wp.block ?_
      refine Wp.region ?_
      refine Ops.pv (pv_move rfl) rfl ?_
      refine Ops.pv (pv_move rfl) rfl ?_
      refine Ops.pv (pv_move rfl) rfl ?_
      refine Ops.pv (pv_build rfl) rfl ?_
      refine Ops.ef rfl (ef_buildSlice1 (k := 2) rfl rfl rfl rfl rfl) ?_
      rintro _ _ ⟨b3, rfl, rfl⟩
      refine Ops.ef rfl (ef_append (H := H) (xs := slotCells ((k : Int), (j : Int))) rfl hs rfl ⟨rfl, rfl, trivial⟩ rfl rfl rfl (by rw [List.length_append]; omega) (by rw [List.length_append]; omega) rfl rfl) ?_
      rintro _ _ ⟨v1, H1, hs1, rfl, rfl⟩
      refine Ops.app ?_
      skip
      refine Ops.pv (pv_assign rfl) rfl ?_
      refine Ops.nil ?_
      refine Ends.block_normal ?_
      refine Ends.seq ?_
      refine Wp.region ?_
      refine Ops.pv (pv_move rfl) rfl ?_
      first | refine Ops.pv (pv_add rfl rfl (w64 (by omega) (by omega))) rfl ?_ | refine Ops.pv (pv_add rfl rfl rfl) rfl ?_
      refine Ops.pv (pv_assign rfl) rfl ?_
      refine Ops.nil ?_
      refine Ends.goes ?_
      refine Goes.back (hK2 (j + 1, v1, H1) ⟨by dsimp only; omega, ?_⟩ (by dsimp only; omega)) ⟨rfl, rfl, rfl, rfl, rfl, rfl, rfl, trivial⟩
      dsimp only; rw [rowM_succ, ← List.append_assoc, List.length_append, slotsCells_app]; exact hs1
    · obtain rfl : j = 2 ^ (k + 1) := by omega
      refine Wp.exit ?_
      refine Ends.then_exit ?_
      refine Ends.then_exit ?_
      refine Ends.block_hit ?_
      refine Ends.block_normal ?_
      refine Ends.seq ?_
      refine Wp.region ?_
      refine Ops.pv (pv_move rfl) rfl ?_
      first | refine Ops.pv (pv_add rfl rfl (w64 (by omega) (by omega))) rfl ?_ | refine Ops.pv (pv_add rfl rfl rfl) rfl ?_
      refine Ops.pv (pv_assign rfl) rfl ?_
      refine Ops.nil ?_
      refine Ends.goes ?_
      refine Goes.back (hK1 (k + 1, S.addNode (k : Int) b2 (k + 1), v, H) ⟨by dsimp only; omega, addNode_wf hnk _ _ hwf (by omega) (by omega) (by omega) (by omega), tidy_add ht hnk _ _, ?_, ?_, ?_⟩ (by dsimp only; omega)) ⟨rfl, rfl, rfl, rfl, rfl, rfl, trivial⟩
      · intro id
        dsimp only
        rw [addNode_radix hnk, hra]
        by_cases e : id = (k : Int)
        · rw [if_pos e, e, if_pos (by omega)]; omega
        · rw [if_neg e]
          by_cases e2 : 0 ≤ id ∧ id < (k : Int)
          · rw [if_pos e2, if_pos (by omega)]
          · rw [if_neg e2, if_neg (by omega)]
      · exact add_zeroes hnk hem
      · dsimp only; exact hs
  · obtain rfl : k = 4 := by omega
    refine Wp.exit ?_
    refine Ends.then_exit ?_
    refine Ends.then_exit ?_
    refine Ends.block_hit ?_
    refine Ends.seq ?_
    refine Wp.seq ?_
    refine Wp.seq ?_
    refine Wp.region ?_
    refine Ops.pv (pv_assign rfl) rfl ?_
    refine Ops.nil ?_
    refine Ends.seq ?_
    refine Wp.block ?_
    have hs4 : Slc 31 2 v allM.length (slotsCells allM) H := hs
    obtain ⟨p, q, rfl⟩ := hs4.form
    have hv := hs4.view
    refine Wp.loop (σ := Nat × StoreM × List (SlotM × Value × Nat) × Nat) (fun x => [(0, .slice a l.length c), (2, .bool false), (3, .pointer (some ⟨sb1, 0, none⟩)), (4, .map (some b1)), (5, .slice p allM.length q), (8, .int .i64 x.1)]) (fun x => storeHp sb1 x.2.1 ++ ((b1, mapO encS x.2.2.1 x.2.2.2) :: (H ++ (G ++ F)))) (fun x => Four x.2.1 ∧ InMap x.2.1 x.2.2.1) (fun x => l.length - x.1) (0, S, [], 0) ⟨four_of hwf ht hra, inmap_nil hem⟩ (by exact ⟨rfl, rfl, rfl, rfl, rfl, rfl, trivial⟩) (by intro w ho; exact Drop.own ho) ?_
    rintro ⟨i, S, M, cl⟩ K3 ⟨hf, hm⟩ hK3
    dsimp only at hf hm hK3 ⊢
    refine Wp.seq ?_
    refine Wp.seq ?_
    refine Wp.region ?_
    refine Ops.pv (pv_move rfl) rfl ?_
    refine Ops.pv (pv_move rfl) rfl ?_
    refine Ops.pv (pv_len_slice (T := 37) rfl rfl) rfl ?_
    refine Ops.pv (pv_lss rfl rfl) rfl ?_
    refine Ops.pv (pv_move rfl) rfl ?_
    first | refine Ops.split (t := 50) rfl (fun h3 => ?_) (fun h3 => ?_) | refine Ops.splitb (t := 50) rfl (fun h3 => ?_) (fun h3 => ?_)
    · refine Ops.pvg ⟨_, _, rfl, rfl, rfl⟩ (pv_move rfl) rfl ?_
      refine Ops.pvg ⟨_, _, rfl, rfl, rfl⟩ (pv_lss rfl rfl) rfl ?_
      refine Ops.pv (pv_pick_true rfl rfl) rfl ?_
      refine Ops.nil ?_
      refine Ends.seq ?_
      first | refine Wp.cond_dect rfl (fun h4 => ?_) (fun h4 => ?_) | refine Wp.cond_t rfl (fun h4 => ?_) (fun h4 => ?_)
      · obtain ⟨x, hq⟩ : ∃ x, l[i]? = some x := ⟨_, List.getElem?_eq_getElem (by omega)⟩
        obtain ⟨_, b, o, cc, T, f, rfl, hmm, hr⟩ := ha i x.cells (by rw [List.getElem?_map, hq]; rfl)
        have hbg : Blk G b (.cells cc.toArray T f) := ⟨hmm⟩
        refine Wp.skip ?_
        refine Ends.seq ?_
        refine Wp.seq ?_
        refine Wp.block ?_
        refine Wp.seq ?_
        refine Wp.region ?_
        refine Ops.pv (pv_move rfl) rfl ?_
        refine Ops.pv (pv_move rfl) rfl ?_
        refine Ops.pv (pv_indexAddr (i := i) rfl rfl rfl (by omega)) rfl ?_
        refine Ops.pv (pv_loadK x.cells rfl rfl rfl ⟨hr.1, hr.2.1, hr.2.2.1, hr.2.2.2.1, hr.2.2.2.2.1, hr.2.2.2.2.2.1, hr.2.2.2.2.2.2.1, hr.2.2.2.2.2.2.2.1, hr.2.2.2.2.2.2.2.2.1, hr.2.2.2.2.2.2.2.2.2.1, trivial⟩) rfl ?_
        refine Ops.ef rfl (ef_allocK tyZ41 rfl) ?_
        rintro _ _ ⟨b4, rfl, rfl⟩
        refine Ops.ef rfl (ef_storeK rfl rfl rfl rfl) ?_
        rintro _ _ ⟨rfl, rfl⟩
        refine Ops.nil ?_
        refine Ends.seq ?_
        refine Wp.seq ?_
        refine Wp.region ?_
        refine Ops.pv (pv_move rfl) rfl ?_
        first | refine Ops.pv (pv_fieldAddr0 rfl rfl) rfl ?_ | refine Ops.pv (pv_fieldAddr rfl rfl) rfl ?_
        refine Ops.pv (pv_loadK [_, _] rfl rfl rfl ⟨rfl, rfl, trivial⟩) rfl ?_
        refine Ops.pv (pv_lookup_ok_s x.slot rfl rfl (hm.val x.slot) (hm.ok x.slot)) rfl ?_
        refine Ops.pv (pv_move rfl) rfl ?_
        refine Ops.pv (pv_extract rfl rfl) rfl ?_
        refine Ops.pv (pv_extract rfl rfl) rfl ?_
        refine Ops.ef rfl (ef_allocK tyZ29 rfl) ?_
        rintro _ _ ⟨b5, rfl, rfl⟩
        refine Ops.ef rfl (ef_storeK rfl rfl rfl rfl) ?_
        rintro _ _ ⟨rfl, rfl⟩
        refine Ops.pv (pv_assign rfl) rfl ?_
        refine Ops.nil ?_
        refine Ends.seq ?_
        refine Wp.seq ?_
        refine Wp.seq ?_
        refine Wp.region ?_
        first | refine Ops.pv (pv_fieldAddr0 rfl rfl) rfl ?_ | refine Ops.pv (pv_fieldAddr rfl rfl) rfl ?_
        first | refine Ops.pv (pv_load rfl rfl rfl) rfl ?_ | refine Ops.pv (pv_load rfl rfl (by assumption)) rfl ?_
        refine Ops.pv (pv_eql rfl rfl) rfl ?_
        refine Ops.nil ?_
        refine Ends.seq ?_
        first | refine Wp.cond_dect rfl (fun h5 => ?_) (fun h5 => ?_) | refine Wp.cond_t rfl (fun h5 => ?_) (fun h5 => ?_)
        · refine Wp.seq ?_
          refine Wp.region ?_
          refine Ops.pv (pv_move rfl) rfl ?_
          first | refine Ops.pv (pv_fieldAddr0 rfl rfl) rfl ?_ | refine Ops.pv (pv_fieldAddr rfl rfl) rfl ?_
          refine Ops.pv (pv_loadK [_, _] rfl rfl rfl ⟨rfl, rfl, trivial⟩) rfl ?_
          refine Ops.ef rfl (ef_call (tr_take sb1 S x.slot hf.wf) rfl rfl) ?_
          rintro _ _ ⟨_, _, ⟨rfl, rfl⟩, rfl, rfl⟩
          refine Ops.app ?_
          refine Ops.pv (pv_move rfl) rfl ?_
          refine Ops.pv (pv_extract rfl rfl) rfl ?_
          refine Ops.pv (pv_extract rfl rfl) rfl ?_
          refine Ops.ef rfl (ef_allocK tyZ29 rfl) ?_
          rintro _ _ ⟨b6, rfl, rfl⟩
          refine Ops.ef rfl (ef_storeK rfl rfl rfl rfl) ?_
          rintro _ _ ⟨rfl, rfl⟩
          refine Ops.pv (pv_assign rfl) rfl ?_
          refine Ops.nil ?_
          refine Ends.seq ?_
          refine Wp.seq ?_
          refine Wp.seq ?_
          refine AnyH.startL 15 rfl ?_
          refine AnyH.take 0 rfl (by kernel_rfl) (by kernel_rfl) (by kernel_rfl) PF.pf rfl (pv_move rfl) rfl ?_
          refine AnyH.take 1 rfl (by kernel_rfl) (by kernel_rfl) (by kernel_rfl) PF.pf rfl ((pv_eql rfl rfl).is (u := .bool (decide ((S.get x.slot).1.kind ≠ 0))) (by rw [take_ok hm hf x.slot])) rfl ?_
          refine AnyH.take 2 rfl (by kernel_rfl) (by kernel_rfl) (by kernel_rfl) PF.pf rfl (pv_move rfl) rfl ?_
          refine AnyH.take 3 rfl (by kernel_rfl) (by kernel_rfl) (by kernel_rfl) PF.pf rfl ((pv_neq_bool rfl rfl).is (u := .bool false) (by simp)) rfl ?_
          refine AnyH.take 4 rfl (by kernel_rfl) (by kernel_rfl) (by kernel_rfl) PF.pf rfl (pv_move rfl) rfl ?_
          refine AnyH.take 5 rfl (by kernel_rfl) (by kernel_rfl) (by kernel_rfl) PF.pf ⟨_, _, rfl, rfl, rfl⟩ (pv_move rfl) rfl ?_
          refine AnyH.take 6 rfl (by kernel_rfl) (by kernel_rfl) (by kernel_rfl) PF.pf ⟨_, _, rfl, rfl, rfl⟩ (pv_move rfl) rfl ?_
          refine AnyH.split (t := 83) rfl (fun h6 => ?_) (fun h6 => ?_)
          · refine AnyH.take 7 rfl (by kernel_rfl) (by kernel_rfl) (by kernel_rfl) PF.pf ⟨_, _, rfl, rfl, rfl⟩ (pv_loadK [_, _, _, _, _, _] rfl rfl rfl ⟨rfl, rfl, rfl, rfl, rfl, rfl, trivial⟩) rfl ?_
            refine AnyH.take 8 rfl (by kernel_rfl) (by kernel_rfl) (by kernel_rfl) PF.pf ⟨_, _, rfl, rfl, rfl⟩ (pv_move rfl) rfl ?_
            first | refine AnyH.take 9 rfl (by kernel_rfl) (by kernel_rfl) (by kernel_rfl) PF.pf ⟨_, _, rfl, rfl, rfl⟩ (pv_fieldAddr0 rfl rfl) rfl ?_ | refine AnyH.take 9 rfl (by kernel_rfl) (by kernel_rfl) (by kernel_rfl) PF.pf ⟨_, _, rfl, rfl, rfl⟩ (pv_fieldAddr rfl rfl) rfl ?_
            refine AnyH.take 10 rfl (by kernel_rfl) (by kernel_rfl) (by kernel_rfl) PF.pf ⟨_, _, rfl, rfl, rfl⟩ (pv_loadK [_, _] rfl rfl rfl ⟨rfl, rfl, trivial⟩) rfl ?_
            refine AnyH.take 11 rfl (by kernel_rfl) (by kernel_rfl) (by kernel_rfl) PF.pf ⟨_, _, rfl, rfl, rfl⟩ (pv_lookup_s x.slot rfl rfl (hm.val x.slot)) rfl ?_
            refine AnyH.take 12 rfl (by kernel_rfl) (by kernel_rfl) (by kernel_rfl) PF.pf ⟨_, _, rfl, rfl, rfl⟩ ((pv_neq_cap (a := (S.take x.slot).1) (b := (S.get x.slot).1) rfl rfl).fls (fun h => h (take_val hm hf x.slot (by assumption)))) rfl ?_
            refine AnyH.take 13 rfl (by kernel_rfl) (by kernel_rfl) (by kernel_rfl) PF.pf ⟨_, _, rfl, rfl, rfl⟩ (pv_pick_true rfl rfl) rfl ?_
            refine AnyH.take 14 rfl (by kernel_rfl) (by kernel_rfl) (by kernel_rfl) PF.pf rfl (pv_pick_false rfl rfl) rfl ?_
            refine AnyH.done (by kernel_rfl) ?_
            refine Ends.seq ?_
            refine Wp.cond_false rfl ?_
            refine Wp.skip ?_
            refine Ends.seq ?_
            refine Wp.region ?_
            refine Ops.pv (pv_move rfl) rfl ?_
            first | refine Ops.pv (pv_fieldAddr0 rfl rfl) rfl ?_ | refine Ops.pv (pv_fieldAddr rfl rfl) rfl ?_
            refine Ops.pv (pv_loadK [_, _] rfl rfl rfl ⟨rfl, rfl, trivial⟩) rfl ?_
            refine Ops.ef rfl (ef_deleten_s (T := 38) _ rfl rfl rfl) ?_
            rintro _ _ ⟨rfl, rfl⟩
            obtain ⟨hm2, hf2⟩ := take_in hm hf x.slot
            generalize (S.take x.slot).2.2 = S2 at hm2 hf2 ⊢
            generalize mdel x.slot M = M2 at hm2 ⊢
            generalize cl = cl2
            refine Ops.nil ?_
            refine Ends.seq ?_
            refine Wp.seq ?_
            refine Wp.region ?_
            refine Ops.pv (pv_assign rfl) rfl ?_
            refine Ops.nil ?_
            refine Ends.seq ?_
            refine Wp.seq ?_
            refine Wp.seq ?_
            refine Wp.region ?_
            refine Ops.pv (pv_assign rfl) rfl ?_
            refine Ops.nil ?_
            refine Ends.seq ?_
            refine Wp.block ?_
            refine Wp.loop (σ := Nat) (fun j => [(0, .slice (some ⟨b, o, none⟩) l.length c), (2, .bool false), (3, .pointer (some ⟨sb1, 0, none⟩)), (4, .map (some b1)), (5, .slice p allM.length q), (8, .int .i64 i), (14, .int .i64 (cntAll S2 j)), (15, .int .i64 j)]) (fun _ => storeHp sb1 S2 ++ ((b1, mapO encS M2 cl2) :: (H ++ (G ++ F)))) (fun j => j ≤ allM.length) (fun j => allM.length - j) 0 (Nat.zero_le _) (by exact ⟨rfl, rfl, rfl, rfl, rfl, rfl, by rw [cntAll_zero]; rfl, rfl, trivial⟩) (by intro w ho; exact Drop.own ho) ?_
            intro j K4 hj hK4
            refine Wp.seq ?_
            refine Wp.seq ?_
            refine Wp.region ?_
            refine Ops.pv (pv_move rfl) rfl ?_
            refine Ops.pv (pv_move rfl) rfl ?_
            refine Ops.pv (pv_len_slice (T := 39) rfl rfl) rfl ?_
            refine Ops.pv (pv_lss rfl rfl) rfl ?_
            refine Ops.nil ?_
            refine Ends.seq ?_
            first | refine Wp.cond_dect rfl (fun h7 => ?_) (fun h7 => ?_) | refine Wp.cond_t rfl (fun h7 => ?_) (fun h7 => ?_)
            · obtain ⟨s, hsj⟩ : ∃ s, allM[j]? = some s := ⟨_, List.getElem?_eq_getElem (by omega)⟩
              obtain ⟨b9, o9, cap9, cc9, T9, f9, hv1, hbv, hr9⟩ := hv.elem (i := j) (by omega)
              cases hv1
              rw [slots_reads hsj] at hr9
              have hc1 := cntAll_succ (S := S2) hsj
              have hge := all_get hf2 (List.mem_of_getElem? hsj)
              have hcle : cntAll S2 (j + 1) ≤ allM.length := Nat.le_trans List.countP_le_length (by rw [List.length_take]; omega)
              have hal := allM_len
              refine Wp.skip ?_
              refine Ends.seq ?_
              refine Wp.seq ?_
              refine Wp.block ?_
              refine Wp.seq ?_
              refine Wp.region ?_
              refine Ops.pv (pv_move rfl) rfl ?_
              refine Ops.pv (pv_move rfl) rfl ?_
              refine Ops.pv (pv_move rfl) rfl ?_
              refine Ops.pv (pv_indexAddr (i := j) rfl rfl rfl (by omega)) rfl ?_
              refine Ops.pv (pv_loadK [.int .i64 s.1, .int .i64 s.2] rfl rfl rfl hr9) rfl ?_
              refine Ops.ef rfl (ef_callr (tr_get sb1 S2 s hf2.wf) rfl rfl) ?_
              rintro _ _ ⟨rfl, rfl⟩
              refine Ops.pv (pv_move rfl) rfl ?_
              refine Ops.pv (pv_extract rfl rfl) rfl ?_
              refine Ops.pv (pv_extract rfl rfl) rfl ?_
              refine Ops.ef rfl (ef_allocK tyZ29 rfl) ?_
              rintro _ _ ⟨b7, rfl, rfl⟩
              refine Ops.ef rfl (ef_storeK rfl rfl rfl rfl) ?_
              rintro _ _ ⟨rfl, rfl⟩
              refine Ops.pv (pv_assign rfl) rfl ?_
              refine Ops.nil ?_
              refine Ends.seq ?_
              refine Wp.seq ?_
              refine Wp.region ?_
              refine Ops.pv (pv_move rfl) rfl ?_
              refine Ops.pv (pv_move rfl) rfl ?_
              refine Ops.pv (pv_move rfl) rfl ?_
              refine Ops.pv (pv_indexAddr (i := j) rfl rfl rfl (by omega)) rfl ?_
              refine Ops.pv (pv_loadK [.int .i64 s.1, .int .i64 s.2] rfl rfl rfl hr9) rfl ?_
              refine Ops.pv (pv_lookup_ok_s s rfl rfl (hm2.val s) (hm2.ok s)) rfl ?_
              refine Ops.pv (pv_move rfl) rfl ?_
              refine Ops.pv (pv_extract rfl rfl) rfl ?_
              refine Ops.pv (pv_extract rfl rfl) rfl ?_
              refine Ops.ef rfl (ef_allocK tyZ29 rfl) ?_
              rintro _ _ ⟨b8, rfl, rfl⟩
              refine Ops.ef rfl (ef_storeK rfl rfl rfl rfl) ?_
              rintro _ _ ⟨rfl, rfl⟩
              refine Ops.pv (pv_assign rfl) rfl ?_
              refine Ops.nil ?_
              refine Ends.seq ?_
              refine Wp.seq ?_
              refine Wp.seq ?_
              refine Wp.region ?_
              refine Ops.pv (pv_move rfl) rfl ?_
              refine Ops.pv ((pv_neq rfl rfl).fls (fun h => h hge)) rfl ?_
              refine Ops.pv (pv_move rfl) rfl ?_
              refine Ops.pvg ⟨_, _, rfl, rfl, rfl⟩ (pv_loadK [_, _, _, _, _, _] rfl rfl rfl ⟨rfl, rfl, rfl, rfl, rfl, rfl, trivial⟩) rfl ?_
              refine Ops.pvg ⟨_, _, rfl, rfl, rfl⟩ (pv_loadK [_, _, _, _, _, _] rfl rfl rfl ⟨rfl, rfl, rfl, rfl, rfl, rfl, trivial⟩) rfl ?_
              refine Ops.pvg ⟨_, _, rfl, rfl, rfl⟩ ((pv_neq_cap (a := (S2.get s).1) (b := (S2.get s).1) rfl rfl).fls (fun h => h rfl)) rfl ?_
              refine Ops.pv (pv_pick_false rfl rfl) rfl ?_
              refine Ops.nil ?_
              refine Ends.seq ?_
              refine Wp.cond_false rfl ?_
              refine Wp.skip ?_
              refine Ends.seq ?_
              refine Wp.seq ?_
              refine Wp.region ?_
              refine Ops.pv (pv_move rfl) rfl ?_
              refine Ops.nil ?_
              refine Ends.seq ?_
              first | refine Wp.cond_dect rfl (fun hz => ?_) (fun hz => ?_) | refine Wp.cond_t rfl (fun hz => ?_) (fun hz => ?_)
              · refine Wp.region ?_
                refine Ops.pv (pv_move rfl) rfl ?_
                refine Ops.pv (pv_add rfl rfl (w64n (k := cntAll S2 (j + 1)) (by rw [hc1, if_pos (by unfold isFull; exact decide_eq_true hz)]; omega) (by omega))) rfl ?_
                refine Ops.pv (pv_assign rfl) rfl ?_
                refine Ops.nil ?_
                refine Ends.block_normal ?_
                refine Ends.seq ?_
                refine Wp.region ?_
                refine Ops.pv (pv_move rfl) rfl ?_
                first | refine Ops.pv (pv_add rfl rfl (w64 (by omega) (by omega))) rfl ?_ | refine Ops.pv (pv_add rfl rfl rfl) rfl ?_
                refine Ops.pv (pv_assign rfl) rfl ?_
                refine Ops.nil ?_
                refine Ends.goes ?_
                refine Goes.back (hK4 (j + 1) (by omega) (by omega)) ⟨rfl, rfl, rfl, rfl, rfl, rfl, rfl, rfl, trivial⟩
              · refine Wp.skip ?_
                refine Ends.block_normal ?_
                refine Ends.seq ?_
                refine Wp.region ?_
                refine Ops.pv (pv_move rfl) rfl ?_
                first | refine Ops.pv (pv_add rfl rfl (w64 (by omega) (by omega))) rfl ?_ | refine Ops.pv (pv_add rfl rfl rfl) rfl ?_
                refine Ops.pv (pv_assign rfl) rfl ?_
                refine Ops.nil ?_
                refine Ends.goes ?_
                have e1 : cntAll S2 (j + 1) = cntAll S2 j := by rw [hc1, if_neg (by unfold isFull; simpa using hz)]; rfl
                refine Goes.back (hK4 (j + 1) (by omega) (by omega)) ⟨rfl, rfl, rfl, rfl, rfl, rfl, by rw [e1]; rfl, rfl, trivial⟩
            · obtain rfl : j = allM.length := by omega
              have hca := cntAll_all hf2
              refine Wp.exit ?_
              refine Ends.then_exit ?_
              refine Ends.then_exit ?_
              refine Ends.block_hit ?_
              refine Ends.seq ?_
              refine Wp.seq ?_
              refine Wp.region ?_
              refine Ops.pv (pv_move rfl) rfl ?_
              refine Ops.ef rfl (ef_call (tr_full sb1 S2 hf2.wf) rfl rfl) ?_
              rintro _ _ ⟨_, _, ⟨C1, hc1, rfl⟩, rfl, rfl⟩
              refine Ops.app ?_
              obtain ⟨pp1, qq1, rfl⟩ := hc1.form
              refine Ops.pv (pv_len_slice (T := 39) rfl rfl) rfl ?_
              refine Ops.pv (pv_move rfl) rfl ?_
              refine Ops.pv ((pv_neq rfl rfl).fls (fun h => h (by rw [hca]))) rfl ?_
              refine Ops.nil ?_
              refine Ends.seq ?_
              refine Wp.cond_false rfl ?_
              refine Wp.skip ?_
              refine Ends.block_normal ?_
              refine Ends.seq ?_
              refine Wp.region ?_
              refine Ops.pv (pv_move rfl) rfl ?_
              first | refine Ops.pv (pv_add rfl rfl (w64 (by omega) (by omega))) rfl ?_ | refine Ops.pv (pv_add rfl rfl rfl) rfl ?_
              refine Ops.pv (pv_assign rfl) rfl ?_
              refine Ops.nil ?_
              refine Ends.goes ?_
              refine Goes.back (hK3 (i + 1, S2, M2, cl2) ⟨hf2, hm2⟩ (by dsimp only; omega)) ⟨rfl, rfl, rfl, rfl, rfl, rfl, trivial⟩
          · refine AnyH.skip 7 rfl (by kernel_rfl) (by kernel_rfl) (by kernel_rfl) PF.pf ⟨_, _, rfl, rfl, rfl⟩ rfl ?_
            refine AnyH.skip 8 rfl (by kernel_rfl) (by kernel_rfl) (by kernel_rfl) PF.pf ⟨_, _, rfl, rfl, rfl⟩ rfl ?_
            refine AnyH.skip 9 rfl (by kernel_rfl) (by kernel_rfl) (by kernel_rfl) PF.pf ⟨_, _, rfl, rfl, rfl⟩ rfl ?_
            refine AnyH.skip 10 rfl (by kernel_rfl) (by kernel_rfl) (by kernel_rfl) PF.pf ⟨_, _, rfl, rfl, rfl⟩ rfl ?_
            refine AnyH.skip 11 rfl (by kernel_rfl) (by kernel_rfl) (by kernel_rfl) PF.pf ⟨_, _, rfl, rfl, rfl⟩ rfl ?_
            refine AnyH.skip 12 rfl (by kernel_rfl) (by kernel_rfl) (by kernel_rfl) PF.pf ⟨_, _, rfl, rfl, rfl⟩ rfl ?_
            refine AnyH.take 13 rfl (by kernel_rfl) (by kernel_rfl) (by kernel_rfl) PF.pf ⟨_, _, rfl, rfl, rfl⟩ (pv_pick_false rfl rfl) rfl ?_
            refine AnyH.take 14 rfl (by kernel_rfl) (by kernel_rfl) (by kernel_rfl) PF.pf rfl (pv_pick_false rfl rfl) rfl ?_
            refine AnyH.done (by kernel_rfl) ?_
            refine Ends.seq ?_
            refine Wp.cond_false rfl ?_
            refine Wp.skip ?_
            refine Ends.seq ?_
            refine Wp.region ?_
            refine Ops.pv (pv_move rfl) rfl ?_
            first | refine Ops.pv (pv_fieldAddr0 rfl rfl) rfl ?_ | refine Ops.pv (pv_fieldAddr rfl rfl) rfl ?_
            refine Ops.pv (pv_loadK [_, _] rfl rfl rfl ⟨rfl, rfl, trivial⟩) rfl ?_
            refine Ops.ef rfl (ef_deleten_s (T := 38) _ rfl rfl rfl) ?_
            rintro _ _ ⟨rfl, rfl⟩
            obtain ⟨hm2, hf2⟩ := take_in hm hf x.slot
            generalize (S.take x.slot).2.2 = S2 at hm2 hf2 ⊢
            generalize mdel x.slot M = M2 at hm2 ⊢
            generalize cl = cl2
            refine Ops.nil ?_
            refine Ends.seq ?_
            refine Wp.seq ?_
            refine Wp.region ?_
            refine Ops.pv (pv_assign rfl) rfl ?_
            refine Ops.nil ?_
            refine Ends.seq ?_
            refine Wp.seq ?_
            refine Wp.seq ?_
            refine Wp.region ?_
            refine Ops.pv (pv_assign rfl) rfl ?_
            refine Ops.nil ?_
            refine Ends.seq ?_
            refine Wp.block ?_
            refine Wp.loop (σ := Nat) (fun j => [(0, .slice (some ⟨b, o, none⟩) l.length c), (2, .bool false), (3, .pointer (some ⟨sb1, 0, none⟩)), (4, .map (some b1)), (5, .slice p allM.length q), (8, .int .i64 i), (14, .int .i64 (cntAll S2 j)), (15, .int .i64 j)]) (fun _ => storeHp sb1 S2 ++ ((b1, mapO encS M2 cl2) :: (H ++ (G ++ F)))) (fun j => j ≤ allM.length) (fun j => allM.length - j) 0 (Nat.zero_le _) (by exact ⟨rfl, rfl, rfl, rfl, rfl, rfl, by rw [cntAll_zero]; rfl, rfl, trivial⟩) (by intro w ho; exact Drop.own ho) ?_
            intro j K4 hj hK4
            refine Wp.seq ?_
            refine Wp.seq ?_
            refine Wp.region ?_
            refine Ops.pv (pv_move rfl) rfl ?_
            refine Ops.pv (pv_move rfl) rfl ?_
            refine Ops.pv (pv_len_slice (T := 39) rfl rfl) rfl ?_
            refine Ops.pv (pv_lss rfl rfl) rfl ?_
            refine Ops.nil ?_
            refine Ends.seq ?_
            first | refine Wp.cond_dect rfl (fun h9 => ?_) (fun h9 => ?_) | refine Wp.cond_t rfl (fun h9 => ?_) (fun h9 => ?_)
            · obtain ⟨s, hsj⟩ : ∃ s, allM[j]? = some s := ⟨_, List.getElem?_eq_getElem (by omega)⟩
              obtain ⟨b9, o9, cap9, cc9, T9, f9, hv1, hbv, hr9⟩ := hv.elem (i := j) (by omega)
              cases hv1
              rw [slots_reads hsj] at hr9
              have hc1 := cntAll_succ (S := S2) hsj
              have hge := all_get hf2 (List.mem_of_getElem? hsj)
              have hcle : cntAll S2 (j + 1) ≤ allM.length := Nat.le_trans List.countP_le_length (by rw [List.length_take]; omega)
              have hal := allM_len
              refine Wp.skip ?_
              refine Ends.seq ?_
              refine Wp.seq ?_
              refine Wp.block ?_
              refine Wp.seq ?_
              refine Wp.region ?_
              refine Ops.pv (pv_move rfl) rfl ?_
              refine Ops.pv (pv_move rfl) rfl ?_
              refine Ops.pv (pv_move rfl) rfl ?_
              refine Ops.pv (pv_indexAddr (i := j) rfl rfl rfl (by omega)) rfl ?_
              refine Ops.pv (pv_loadK [.int .i64 s.1, .int .i64 s.2] rfl rfl rfl hr9) rfl ?_
              refine Ops.ef rfl (ef_callr (tr_get sb1 S2 s hf2.wf) rfl rfl) ?_
              rintro _ _ ⟨rfl, rfl⟩
              refine Ops.pv (pv_move rfl) rfl ?_
              refine Ops.pv (pv_extract rfl rfl) rfl ?_
              refine Ops.pv (pv_extract rfl rfl) rfl ?_
              refine Ops.ef rfl (ef_allocK tyZ29 rfl) ?_
              rintro _ _ ⟨b9, rfl, rfl⟩
              refine Ops.ef rfl (ef_storeK rfl rfl rfl rfl) ?_
              rintro _ _ ⟨rfl, rfl⟩
              refine Ops.pv (pv_assign rfl) rfl ?_
              refine Ops.nil ?_
              refine Ends.seq ?_
              refine Wp.seq ?_
              refine Wp.region ?_
              refine Ops.pv (pv_move rfl) rfl ?_
              refine Ops.pv (pv_move rfl) rfl ?_
              refine Ops.pv (pv_move rfl) rfl ?_
              refine Ops.pv (pv_indexAddr (i := j) rfl rfl rfl (by omega)) rfl ?_
              refine Ops.pv (pv_loadK [.int .i64 s.1, .int .i64 s.2] rfl rfl rfl hr9) rfl ?_
              refine Ops.pv (pv_lookup_ok_s s rfl rfl (hm2.val s) (hm2.ok s)) rfl ?_
              refine Ops.pv (pv_move rfl) rfl ?_
              refine Ops.pv (pv_extract rfl rfl) rfl ?_
              refine Ops.pv (pv_extract rfl rfl) rfl ?_
              refine Ops.ef rfl (ef_allocK tyZ29 rfl) ?_
              rintro _ _ ⟨b10, rfl, rfl⟩
              refine Ops.ef rfl (ef_storeK rfl rfl rfl rfl) ?_
              rintro _ _ ⟨rfl, rfl⟩
              refine Ops.pv (pv_assign rfl) rfl ?_
              refine Ops.nil ?_
              refine Ends.seq ?_
              refine Wp.seq ?_
              refine Wp.seq ?_
              refine Wp.region ?_
              refine Ops.pv (pv_move rfl) rfl ?_
              refine Ops.pv ((pv_neq rfl rfl).fls (fun h => h hge)) rfl ?_
              refine Ops.pv (pv_move rfl) rfl ?_
              refine Ops.pvg ⟨_, _, rfl, rfl, rfl⟩ (pv_loadK [_, _, _, _, _, _] rfl rfl rfl ⟨rfl, rfl, rfl, rfl, rfl, rfl, trivial⟩) rfl ?_
              refine Ops.pvg ⟨_, _, rfl, rfl, rfl⟩ (pv_loadK [_, _, _, _, _, _] rfl rfl rfl ⟨rfl, rfl, rfl, rfl, rfl, rfl, trivial⟩) rfl ?_
              refine Ops.pvg ⟨_, _, rfl, rfl, rfl⟩ ((pv_neq_cap (a := (S2.get s).1) (b := (S2.get s).1) rfl rfl).fls (fun h => h rfl)) rfl ?_
              refine Ops.pv (pv_pick_false rfl rfl) rfl ?_
              refine Ops.nil ?_
              refine Ends.seq ?_
              refine Wp.cond_false rfl ?_
              refine Wp.skip ?_
              refine Ends.seq ?_
              refine Wp.seq ?_
              refine Wp.region ?_
              refine Ops.pv (pv_move rfl) rfl ?_
              refine Ops.nil ?_
              refine Ends.seq ?_
              first | refine Wp.cond_dect rfl (fun hz => ?_) (fun hz => ?_) | refine Wp.cond_t rfl (fun hz => ?_) (fun hz => ?_)
              · refine Wp.region ?_
                refine Ops.pv (pv_move rfl) rfl ?_
                refine Ops.pv (pv_add rfl rfl (w64n (k := cntAll S2 (j + 1)) (by rw [hc1, if_pos (by unfold isFull; exact decide_eq_true hz)]; omega) (by omega))) rfl ?_
                refine Ops.pv (pv_assign rfl) rfl ?_
                refine Ops.nil ?_
                refine Ends.block_normal ?_
                refine Ends.seq ?_
                refine Wp.region ?_
                refine Ops.pv (pv_move rfl) rfl ?_
                first | refine Ops.pv (pv_add rfl rfl (w64 (by omega) (by omega))) rfl ?_ | refine Ops.pv (pv_add rfl rfl rfl) rfl ?_
                refine Ops.pv (pv_assign rfl) rfl ?_
                refine Ops.nil ?_
                refine Ends.goes ?_
                refine Goes.back (hK4 (j + 1) (by omega) (by omega)) ⟨rfl, rfl, rfl, rfl, rfl, rfl, rfl, rfl, trivial⟩
              · refine Wp.skip ?_
                refine Ends.block_normal ?_
                refine Ends.seq ?_
                refine Wp.region ?_
                refine Ops.pv (pv_move rfl) rfl ?_
                first | refine Ops.pv (pv_add rfl rfl (w64 (by omega) (by omega))) rfl ?_ | refine Ops.pv (pv_add rfl rfl rfl) rfl ?_
                refine Ops.pv (pv_assign rfl) rfl ?_
                refine Ops.nil ?_
                refine Ends.goes ?_
                have e1 : cntAll S2 (j + 1) = cntAll S2 j := by rw [hc1, if_neg (by unfold isFull; simpa using hz)]; rfl
                refine Goes.back (hK4 (j + 1) (by omega) (by omega)) ⟨rfl, rfl, rfl, rfl, rfl, rfl, by rw [e1]; rfl, rfl, trivial⟩
            · obtain rfl : j = allM.length := by omega
              have hca := cntAll_all hf2
              refine Wp.exit ?_
              refine Ends.then_exit ?_
              refine Ends.then_exit ?_
              refine Ends.block_hit ?_
              refine Ends.seq ?_
              refine Wp.seq ?_
              refine Wp.region ?_
              refine Ops.pv (pv_move rfl) rfl ?_
              refine Ops.ef rfl (ef_call (tr_full sb1 S2 hf2.wf) rfl rfl) ?_
              rintro _ _ ⟨_, _, ⟨C2, hc2, rfl⟩, rfl, rfl⟩
              refine Ops.app ?_
              obtain ⟨pp2, qq2, rfl⟩ := hc2.form
              refine Ops.pv (pv_len_slice (T := 39) rfl rfl) rfl ?_
              refine Ops.pv (pv_move rfl) rfl ?_
              refine Ops.pv ((pv_neq rfl rfl).fls (fun h => h (by rw [hca]))) rfl ?_
              refine Ops.nil ?_
              refine Ends.seq ?_
              refine Wp.cond_false rfl ?_
              refine Wp.skip ?_
              refine Ends.block_normal ?_
              refine Ends.seq ?_
              refine Wp.region ?_
              refine Ops.pv (pv_move rfl) rfl ?_
              first | refine Ops.pv (pv_add rfl rfl (w64 (by omega) (by omega))) rfl ?_ | refine Ops.pv (pv_add rfl rfl rfl) rfl ?_
              refine Ops.pv (pv_assign rfl) rfl ?_
              refine Ops.nil ?_
              refine Ends.goes ?_
              refine Goes.back (hK3 (i + 1, S2, M2, cl2) ⟨hf2, hm2⟩ (by dsimp only; omega)) ⟨rfl, rfl, rfl, rfl, rfl, rfl, trivial⟩
        · refine Wp.seq ?_
          refine Wp.region ?_
          refine Ops.pv (pv_move rfl) rfl ?_
          first | refine Ops.pv (pv_fieldAddr0 rfl rfl) rfl ?_ | refine Ops.pv (pv_fieldAddr rfl rfl) rfl ?_
          refine Ops.pv (pv_loadK [_, _] rfl rfl rfl ⟨rfl, rfl, trivial⟩) rfl ?_
          first | refine Ops.pv (pv_fieldAddr0 rfl rfl) rfl ?_ | refine Ops.pv (pv_fieldAddr rfl rfl) rfl ?_
          refine Ops.pv (pv_loadK [_, _, _, _, _, _] rfl rfl rfl ⟨rfl, rfl, rfl, rfl, rfl, rfl, trivial⟩) rfl ?_
          refine Ops.ef rfl (ef_call (tr_put sb1 S x.slot x.c hf.wf) rfl rfl) ?_
          rintro _ _ ⟨_, _, ⟨rfl, rfl⟩, rfl, rfl⟩
          refine Ops.app ?_
          refine Ops.pv (pv_eql rfl rfl) rfl ?_
          refine Ops.nil ?_
          refine Ends.seq ?_
          first | refine Wp.cond_dect rfl (fun hp => ?_) (fun hp => ?_) | refine Wp.cond_t rfl (fun hp => ?_) (fun hp => ?_)
          · refine Wp.seq ?_
            refine Wp.seq ?_
            refine Wp.region ?_
            refine Ops.pv (pv_move rfl) rfl ?_
            refine Ops.nil ?_
            refine Ends.seq ?_
            refine Wp.cond_dect rfl (fun hx => absurd (put_in hm hf x.slot x.c hp 0).1 hx) (fun hx => ?_)
            refine Wp.skip ?_
            refine Ends.seq ?_
            refine Wp.region ?_
            refine Ops.pv (pv_move rfl) rfl ?_
            first | refine Ops.pv (pv_fieldAddr0 rfl rfl) rfl ?_ | refine Ops.pv (pv_fieldAddr rfl rfl) rfl ?_
            refine Ops.pv (pv_loadK [_, _] rfl rfl rfl ⟨rfl, rfl, trivial⟩) rfl ?_
            first | refine Ops.pv (pv_fieldAddr0 rfl rfl) rfl ?_ | refine Ops.pv (pv_fieldAddr rfl rfl) rfl ?_
            refine Ops.pv (pv_loadK [_, _, _, _, _, _] rfl rfl rfl ⟨rfl, rfl, rfl, rfl, rfl, rfl, trivial⟩) rfl ?_
            refine Ops.ef rfl (ef_mapUpdate_s _ rfl rfl rfl) ?_
            rintro _ _ ⟨rfl, rfl⟩
            obtain ⟨_, hm2, hf2⟩ := put_in hm hf x.slot x.c hp cl
            generalize (S.put x.slot x.c).2 = S2 at hm2 hf2 ⊢
            generalize mput x.slot x.c.v cl M = M2 at hm2 ⊢
            generalize mclk x.slot M cl = cl2
            refine Ops.nil ?_
            refine Ends.seq ?_
            refine Wp.seq ?_
            refine Wp.region ?_
            refine Ops.pv (pv_assign rfl) rfl ?_
            refine Ops.nil ?_
            refine Ends.seq ?_
            refine Wp.seq ?_
            refine Wp.seq ?_
            refine Wp.region ?_
            refine Ops.pv (pv_assign rfl) rfl ?_
            refine Ops.nil ?_
            refine Ends.seq ?_
            refine Wp.block ?_
            refine Wp.loop (σ := Nat) (fun j => [(0, .slice (some ⟨b, o, none⟩) l.length c), (2, .bool false), (3, .pointer (some ⟨sb1, 0, none⟩)), (4, .map (some b1)), (5, .slice p allM.length q), (8, .int .i64 i), (14, .int .i64 (cntAll S2 j)), (15, .int .i64 j)]) (fun _ => storeHp sb1 S2 ++ ((b1, mapO encS M2 cl2) :: (H ++ (G ++ F)))) (fun j => j ≤ allM.length) (fun j => allM.length - j) 0 (Nat.zero_le _) (by exact ⟨rfl, rfl, rfl, rfl, rfl, rfl, by rw [cntAll_zero]; rfl, rfl, trivial⟩) (by intro w ho; exact Drop.own ho) ?_
            intro j K4 hj hK4
            refine Wp.seq ?_
            refine Wp.seq ?_
            refine Wp.region ?_
            refine Ops.pv (pv_move rfl) rfl ?_
            refine Ops.pv (pv_move rfl) rfl ?_
            refine Ops.pv (pv_len_slice (T := 39) rfl rfl) rfl ?_
            refine Ops.pv (pv_lss rfl rfl) rfl ?_
            refine Ops.nil ?_
            refine Ends.seq ?_
            first | refine Wp.cond_dect rfl (fun h13 => ?_) (fun h13 => ?_) | refine Wp.cond_t rfl (fun h13 => ?_) (fun h13 => ?_)
            · obtain ⟨s, hsj⟩ : ∃ s, allM[j]? = some s := ⟨_, List.getElem?_eq_getElem (by omega)⟩
              obtain ⟨b9, o9, cap9, cc9, T9, f9, hv1, hbv, hr9⟩ := hv.elem (i := j) (by omega)
              cases hv1
              rw [slots_reads hsj] at hr9
              have hc1 := cntAll_succ (S := S2) hsj
              have hge := all_get hf2 (List.mem_of_getElem? hsj)
              have hcle : cntAll S2 (j + 1) ≤ allM.length := Nat.le_trans List.countP_le_length (by rw [List.length_take]; omega)
              have hal := allM_len
              refine Wp.skip ?_
              refine Ends.seq ?_
              refine Wp.seq ?_
              refine Wp.block ?_
              refine Wp.seq ?_
              refine Wp.region ?_
              refine Ops.pv (pv_move rfl) rfl ?_
              refine Ops.pv (pv_move rfl) rfl ?_
              refine Ops.pv (pv_move rfl) rfl ?_
              refine Ops.pv (pv_indexAddr (i := j) rfl rfl rfl (by omega)) rfl ?_
              refine Ops.pv (pv_loadK [.int .i64 s.1, .int .i64 s.2] rfl rfl rfl hr9) rfl ?_
              refine Ops.ef rfl (ef_callr (tr_get sb1 S2 s hf2.wf) rfl rfl) ?_
              rintro _ _ ⟨rfl, rfl⟩
              refine Ops.pv (pv_move rfl) rfl ?_
              refine Ops.pv (pv_extract rfl rfl) rfl ?_
              refine Ops.pv (pv_extract rfl rfl) rfl ?_
              refine Ops.ef rfl (ef_allocK tyZ29 rfl) ?_
              rintro _ _ ⟨b11, rfl, rfl⟩
              refine Ops.ef rfl (ef_storeK rfl rfl rfl rfl) ?_
              rintro _ _ ⟨rfl, rfl⟩
              refine Ops.pv (pv_assign rfl) rfl ?_
              refine Ops.nil ?_
              refine Ends.seq ?_
              refine Wp.seq ?_
              refine Wp.region ?_
              refine Ops.pv (pv_move rfl) rfl ?_
              refine Ops.pv (pv_move rfl) rfl ?_
              refine Ops.pv (pv_move rfl) rfl ?_
              refine Ops.pv (pv_indexAddr (i := j) rfl rfl rfl (by omega)) rfl ?_
              refine Ops.pv (pv_loadK [.int .i64 s.1, .int .i64 s.2] rfl rfl rfl hr9) rfl ?_
              refine Ops.pv (pv_lookup_ok_s s rfl rfl (hm2.val s) (hm2.ok s)) rfl ?_
              refine Ops.pv (pv_move rfl) rfl ?_
              refine Ops.pv (pv_extract rfl rfl) rfl ?_
              refine Ops.pv (pv_extract rfl rfl) rfl ?_
              refine Ops.ef rfl (ef_allocK tyZ29 rfl) ?_
              rintro _ _ ⟨b12, rfl, rfl⟩
              refine Ops.ef rfl (ef_storeK rfl rfl rfl rfl) ?_
              rintro _ _ ⟨rfl, rfl⟩
              refine Ops.pv (pv_assign rfl) rfl ?_
              refine Ops.nil ?_
              refine Ends.seq ?_
              refine Wp.seq ?_
              refine Wp.seq ?_
              refine Wp.region ?_
              refine Ops.pv (pv_move rfl) rfl ?_
              refine Ops.pv ((pv_neq rfl rfl).fls (fun h => h hge)) rfl ?_
              refine Ops.pv (pv_move rfl) rfl ?_
              refine Ops.pvg ⟨_, _, rfl, rfl, rfl⟩ (pv_loadK [_, _, _, _, _, _] rfl rfl rfl ⟨rfl, rfl, rfl, rfl, rfl, rfl, trivial⟩) rfl ?_
              refine Ops.pvg ⟨_, _, rfl, rfl, rfl⟩ (pv_loadK [_, _, _, _, _, _] rfl rfl rfl ⟨rfl, rfl, rfl, rfl, rfl, rfl, trivial⟩) rfl ?_
              refine Ops.pvg ⟨_, _, rfl, rfl, rfl⟩ ((pv_neq_cap (a := (S2.get s).1) (b := (S2.get s).1) rfl rfl).fls (fun h => h rfl)) rfl ?_
              refine Ops.pv (pv_pick_false rfl rfl) rfl ?_
              refine Ops.nil ?_
              refine Ends.seq ?_
              refine Wp.cond_false rfl ?_
              refine Wp.skip ?_
              refine Ends.seq ?_
              refine Wp.seq ?_
              refine Wp.region ?_
              refine Ops.pv (pv_move rfl) rfl ?_
              refine Ops.nil ?_
              refine Ends.seq ?_
              first | refine Wp.cond_dect rfl (fun hz => ?_) (fun hz => ?_) | refine Wp.cond_t rfl (fun hz => ?_) (fun hz => ?_)
              · refine Wp.region ?_
                refine Ops.pv (pv_move rfl) rfl ?_
                refine Ops.pv (pv_add rfl rfl (w64n (k := cntAll S2 (j + 1)) (by rw [hc1, if_pos (by unfold isFull; exact decide_eq_true hz)]; omega) (by omega))) rfl ?_
                refine Ops.pv (pv_assign rfl) rfl ?_
                refine Ops.nil ?_
                refine Ends.block_normal ?_
                refine Ends.seq ?_
                refine Wp.region ?_
                refine Ops.pv (pv_move rfl) rfl ?_
                first | refine Ops.pv (pv_add rfl rfl (w64 (by omega) (by omega))) rfl ?_ | refine Ops.pv (pv_add rfl rfl rfl) rfl ?_
                refine Ops.pv (pv_assign rfl) rfl ?_
                refine Ops.nil ?_
                refine Ends.goes ?_
                refine Goes.back (hK4 (j + 1) (by omega) (by omega)) ⟨rfl, rfl, rfl, rfl, rfl, rfl, rfl, rfl, trivial⟩
              · refine Wp.skip ?_
                refine Ends.block_normal ?_
                refine Ends.seq ?_
                refine Wp.region ?_
                refine Ops.pv (pv_move rfl) rfl ?_
                first | refine Ops.pv (pv_add rfl rfl (w64 (by omega) (by omega))) rfl ?_ | refine Ops.pv (pv_add rfl rfl rfl) rfl ?_
                refine Ops.pv (pv_assign rfl) rfl ?_
                refine Ops.nil ?_
                refine Ends.goes ?_
                have e1 : cntAll S2 (j + 1) = cntAll S2 j := by rw [hc1, if_neg (by unfold isFull; simpa using hz)]; rfl
                refine Goes.back (hK4 (j + 1) (by omega) (by omega)) ⟨rfl, rfl, rfl, rfl, rfl, rfl, by rw [e1]; rfl, rfl, trivial⟩
            · obtain rfl : j = allM.length := by omega
              have hca := cntAll_all hf2
              refine Wp.exit ?_
              refine Ends.then_exit ?_
              refine Ends.then_exit ?_
              refine Ends.block_hit ?_
              refine Ends.seq ?_
              refine Wp.seq ?_
              refine Wp.region ?_
              refine Ops.pv (pv_move rfl) rfl ?_
              refine Ops.ef rfl (ef_call (tr_full sb1 S2 hf2.wf) rfl rfl) ?_
              rintro _ _ ⟨_, _, ⟨C3, hc3, rfl⟩, rfl, rfl⟩
              refine Ops.app ?_
              obtain ⟨pp3, qq3, rfl⟩ := hc3.form
              refine Ops.pv (pv_len_slice (T := 39) rfl rfl) rfl ?_
              refine Ops.pv (pv_move rfl) rfl ?_
              refine Ops.pv ((pv_neq rfl rfl).fls (fun h => h (by rw [hca]))) rfl ?_
              refine Ops.nil ?_
              refine Ends.seq ?_
              refine Wp.cond_false rfl ?_
              refine Wp.skip ?_
              refine Ends.block_normal ?_
              refine Ends.seq ?_
              refine Wp.region ?_
              refine Ops.pv (pv_move rfl) rfl ?_
              first | refine Ops.pv (pv_add rfl rfl (w64 (by omega) (by omega))) rfl ?_ | refine Ops.pv (pv_add rfl rfl rfl) rfl ?_
              refine Ops.pv (pv_assign rfl) rfl ?_
              refine Ops.nil ?_
              refine Ends.goes ?_
              refine Goes.back (hK3 (i + 1, S2, M2, cl2) ⟨hf2, hm2⟩ (by dsimp only; omega)) ⟨rfl, rfl, rfl, rfl, rfl, rfl, trivial⟩
          · have hps := put_fails hm hf x.slot x.c hp
            rw [hps]
            have hm2 := hm
            have hf2 := hf
            generalize S = S2 at hm2 hf2 ⊢
            generalize M = M2 at hm2 ⊢
            generalize cl = cl2
            refine Wp.skip ?_
            refine Ends.seq ?_
            refine Wp.seq ?_
            refine Wp.region ?_
            refine Ops.pv (pv_assign rfl) rfl ?_
            refine Ops.nil ?_
            refine Ends.seq ?_
            refine Wp.seq ?_
            refine Wp.seq ?_
            refine Wp.region ?_
            refine Ops.pv (pv_assign rfl) rfl ?_
            refine Ops.nil ?_
            refine Ends.seq ?_
            refine Wp.block ?_
            refine Wp.loop (σ := Nat) (fun j => [(0, .slice (some ⟨b, o, none⟩) l.length c), (2, .bool false), (3, .pointer (some ⟨sb1, 0, none⟩)), (4, .map (some b1)), (5, .slice p allM.length q), (8, .int .i64 i), (14, .int .i64 (cntAll S2 j)), (15, .int .i64 j)]) (fun _ => storeHp sb1 S2 ++ ((b1, mapO encS M2 cl2) :: (H ++ (G ++ F)))) (fun j => j ≤ allM.length) (fun j => allM.length - j) 0 (Nat.zero_le _) (by exact ⟨rfl, rfl, rfl, rfl, rfl, rfl, by rw [cntAll_zero]; rfl, rfl, trivial⟩) (by intro w ho; exact Drop.own ho) ?_
            intro j K4 hj hK4
            refine Wp.seq ?_
            refine Wp.seq ?_
            refine Wp.region ?_
            refine Ops.pv (pv_move rfl) rfl ?_
            refine Ops.pv (pv_move rfl) rfl ?_
            refine Ops.pv (pv_len_slice (T := 39) rfl rfl) rfl ?_
            refine Ops.pv (pv_lss rfl rfl) rfl ?_
            refine Ops.nil ?_
            refine Ends.seq ?_
            first | refine Wp.cond_dect rfl (fun h15 => ?_) (fun h15 => ?_) | refine Wp.cond_t rfl (fun h15 => ?_) (fun h15 => ?_)
            · obtain ⟨s, hsj⟩ : ∃ s, allM[j]? = some s := ⟨_, List.getElem?_eq_getElem (by omega)⟩
              obtain ⟨b9, o9, cap9, cc9, T9, f9, hv1, hbv, hr9⟩ := hv.elem (i := j) (by omega)
              cases hv1
              rw [slots_reads hsj] at hr9
              have hc1 := cntAll_succ (S := S2) hsj
              have hge := all_get hf2 (List.mem_of_getElem? hsj)
              have hcle : cntAll S2 (j + 1) ≤ allM.length := Nat.le_trans List.countP_le_length (by rw [List.length_take]; omega)
              have hal := allM_len
              refine Wp.skip ?_
              refine Ends.seq ?_
              refine Wp.seq ?_
              refine Wp.block ?_
              refine Wp.seq ?_
              refine Wp.region ?_
              refine Ops.pv (pv_move rfl) rfl ?_
              refine Ops.pv (pv_move rfl) rfl ?_
              refine Ops.pv (pv_move rfl) rfl ?_
              refine Ops.pv (pv_indexAddr (i := j) rfl rfl rfl (by omega)) rfl ?_
              refine Ops.pv (pv_loadK [.int .i64 s.1, .int .i64 s.2] rfl rfl rfl hr9) rfl ?_
              refine Ops.ef rfl (ef_callr (tr_get sb1 S2 s hf2.wf) rfl rfl) ?_
              rintro _ _ ⟨rfl, rfl⟩
              refine Ops.pv (pv_move rfl) rfl ?_
              refine Ops.pv (pv_extract rfl rfl) rfl ?_
              refine Ops.pv (pv_extract rfl rfl) rfl ?_
              refine Ops.ef rfl (ef_allocK tyZ29 rfl) ?_
              rintro _ _ ⟨b13, rfl, rfl⟩
              refine Ops.ef rfl (ef_storeK rfl rfl rfl rfl) ?_
              rintro _ _ ⟨rfl, rfl⟩
              refine Ops.pv (pv_assign rfl) rfl ?_
              refine Ops.nil ?_
              refine Ends.seq ?_
              refine Wp.seq ?_
              refine Wp.region ?_
              refine Ops.pv (pv_move rfl) rfl ?_
              refine Ops.pv (pv_move rfl) rfl ?_
              refine Ops.pv (pv_move rfl) rfl ?_
              refine Ops.pv (pv_indexAddr (i := j) rfl rfl rfl (by omega)) rfl ?_
              refine Ops.pv (pv_loadK [.int .i64 s.1, .int .i64 s.2] rfl rfl rfl hr9) rfl ?_
              refine Ops.pv (pv_lookup_ok_s s rfl rfl (hm2.val s) (hm2.ok s)) rfl ?_
              refine Ops.pv (pv_move rfl) rfl ?_
              refine Ops.pv (pv_extract rfl rfl) rfl ?_
              refine Ops.pv (pv_extract rfl rfl) rfl ?_
              refine Ops.ef rfl (ef_allocK tyZ29 rfl) ?_
              rintro _ _ ⟨b14, rfl, rfl⟩
              refine Ops.ef rfl (ef_storeK rfl rfl rfl rfl) ?_
              rintro _ _ ⟨rfl, rfl⟩
              refine Ops.pv (pv_assign rfl) rfl ?_
              refine Ops.nil ?_
              refine Ends.seq ?_
              refine Wp.seq ?_
              refine Wp.seq ?_
              refine Wp.region ?_
              refine Ops.pv (pv_move rfl) rfl ?_
              refine Ops.pv ((pv_neq rfl rfl).fls (fun h => h hge)) rfl ?_
              refine Ops.pv (pv_move rfl) rfl ?_
              refine Ops.pvg ⟨_, _, rfl, rfl, rfl⟩ (pv_loadK [_, _, _, _, _, _] rfl rfl rfl ⟨rfl, rfl, rfl, rfl, rfl, rfl, trivial⟩) rfl ?_
              refine Ops.pvg ⟨_, _, rfl, rfl, rfl⟩ (pv_loadK [_, _, _, _, _, _] rfl rfl rfl ⟨rfl, rfl, rfl, rfl, rfl, rfl, trivial⟩) rfl ?_
              refine Ops.pvg ⟨_, _, rfl, rfl, rfl⟩ ((pv_neq_cap (a := (S2.get s).1) (b := (S2.get s).1) rfl rfl).fls (fun h => h rfl)) rfl ?_
              refine Ops.pv (pv_pick_false rfl rfl) rfl ?_
              refine Ops.nil ?_
              refine Ends.seq ?_
              refine Wp.cond_false rfl ?_
              refine Wp.skip ?_
              refine Ends.seq ?_
              refine Wp.seq ?_
              refine Wp.region ?_
              refine Ops.pv (pv_move rfl) rfl ?_
              refine Ops.nil ?_
              refine Ends.seq ?_
              first | refine Wp.cond_dect rfl (fun hz => ?_) (fun hz => ?_) | refine Wp.cond_t rfl (fun hz => ?_) (fun hz => ?_)
              · refine Wp.region ?_
                refine Ops.pv (pv_move rfl) rfl ?_
                refine Ops.pv (pv_add rfl rfl (w64n (k := cntAll S2 (j + 1)) (by rw [hc1, if_pos (by unfold isFull; exact decide_eq_true hz)]; omega) (by omega))) rfl ?_
                refine Ops.pv (pv_assign rfl) rfl ?_
                refine Ops.nil ?_
                refine Ends.block_normal ?_
                refine Ends.seq ?_
                refine Wp.region ?_
                refine Ops.pv (pv_move rfl) rfl ?_
                first | refine Ops.pv (pv_add rfl rfl (w64 (by omega) (by omega))) rfl ?_ | refine Ops.pv (pv_add rfl rfl rfl) rfl ?_
                refine Ops.pv (pv_assign rfl) rfl ?_
                refine Ops.nil ?_
                refine Ends.goes ?_
                refine Goes.back (hK4 (j + 1) (by omega) (by omega)) ⟨rfl, rfl, rfl, rfl, rfl, rfl, rfl, rfl, trivial⟩
              · refine Wp.skip ?_
                refine Ends.block_normal ?_
                refine Ends.seq ?_
                refine Wp.region ?_
                refine Ops.pv (pv_move rfl) rfl ?_
                first | refine Ops.pv (pv_add rfl rfl (w64 (by omega) (by omega))) rfl ?_ | refine Ops.pv (pv_add rfl rfl rfl) rfl ?_
                refine Ops.pv (pv_assign rfl) rfl ?_
                refine Ops.nil ?_
                refine Ends.goes ?_
                have e1 : cntAll S2 (j + 1) = cntAll S2 j := by rw [hc1, if_neg (by unfold isFull; simpa using hz)]; rfl
                refine Goes.back (hK4 (j + 1) (by omega) (by omega)) ⟨rfl, rfl, rfl, rfl, rfl, rfl, by rw [e1]; rfl, rfl, trivial⟩
            · obtain rfl : j = allM.length := by omega
              have hca := cntAll_all hf2
              refine Wp.exit ?_
              refine Ends.then_exit ?_
              refine Ends.then_exit ?_
              refine Ends.block_hit ?_
              refine Ends.seq ?_
              refine Wp.seq ?_
              refine Wp.region ?_
              refine Ops.pv (pv_move rfl) rfl ?_
              refine Ops.ef rfl (ef_call (tr_full sb1 S2 hf2.wf) rfl rfl) ?_
              rintro _ _ ⟨_, _, ⟨C4, hc4, rfl⟩, rfl, rfl⟩
              refine Ops.app ?_
              obtain ⟨pp4, qq4, rfl⟩ := hc4.form
              refine Ops.pv (pv_len_slice (T := 39) rfl rfl) rfl ?_
              refine Ops.pv (pv_move rfl) rfl ?_
              refine Ops.pv ((pv_neq rfl rfl).fls (fun h => h (by rw [hca]))) rfl ?_
              refine Ops.nil ?_
              refine Ends.seq ?_
              refine Wp.cond_false rfl ?_
              refine Wp.skip ?_
              refine Ends.block_normal ?_
              refine Ends.seq ?_
              refine Wp.region ?_
              refine Ops.pv (pv_move rfl) rfl ?_
              first | refine Ops.pv (pv_add rfl rfl (w64 (by omega) (by omega))) rfl ?_ | refine Ops.pv (pv_add rfl rfl rfl) rfl ?_
              refine Ops.pv (pv_assign rfl) rfl ?_
              refine Ops.nil ?_
              refine Ends.goes ?_
              refine Goes.back (hK3 (i + 1, S2, M2, cl2) ⟨hf2, hm2⟩ (by dsimp only; omega)) ⟨rfl, rfl, rfl, rfl, rfl, rfl, trivial⟩
      · refine Wp.exit ?_
        refine Ends.then_exit ?_
        refine Ends.then_exit ?_
        refine Ends.block_hit ?_
        refine Ends.seq ?_
        refine Wp.seq ?_
        refine Wp.region ?_
        refine Ops.pv (pv_assign rfl) rfl ?_
        refine Ops.nil ?_
        refine Ends.seq ?_
        refine Wp.ret ?_
        exact Ends.ret (res1 rfl rfl) ⟨rfl, rfl⟩
    · refine Ops.skipg ⟨_, _, rfl, rfl, rfl⟩ rfl ?_
      refine Ops.skipg ⟨_, _, rfl, rfl, rfl⟩ rfl ?_
      refine Ops.pv (pv_pick_false rfl rfl) rfl ?_
      refine Ops.nil ?_
      refine Ends.seq ?_
      refine Wp.cond_false rfl ?_
      refine Wp.exit ?_
      refine Ends.then_exit ?_
      refine Ends.then_exit ?_
      refine Ends.block_hit ?_
      refine Ends.seq ?_
      refine Wp.seq ?_
      refine Wp.region ?_
      refine Ops.pv (pv_assign rfl) rfl ?_
      refine Ops.nil ?_
      refine Ends.seq ?_
      refine Wp.ret ?_
      exact Ends.ret (res1 rfl rfl) ⟨rfl, rfl⟩

end Go.Proofs.Ytpoamckpdpkpoaa
