/- Walks of layer 9: TreeDrops. No condition. -/
import Derived.Test.YtpoamckpdpkpoaaW09k
set_option linter.unusedVariables false
set_option linter.unusedSimpArgs false
namespace Go.Proofs.Ytpoamckpdpkpoaa
open Go.SL

set_option maxHeartbeats 8000000 in
theorem tr_treeDrops (G : Hp) (a : Option Addr) (c : Nat) (l : List OpT) (ha : ArgS G 5 a (l.map OpT.cells)) (hl : l.length ≤ maxLen) (at0 : Int) : TrR Try.prog 7 [.slice a l.length c, .int .i64 at0] (G) (.bool true) := by
  refine Tr.enter Try.func7 rfl Try.ntmps7 rfl (fun W F => ?_)
  refine Wp.app ?_
  refine Wp.seq ?_
  refine Wp.region ?_
  refine Ops.pv (pv_assign rfl) rfl ?_
  refine Ops.nil ?_
  refine Ends.seq ?_
  refine Wp.seq ?_
  refine Wp.seq ?_
  refine Wp.region ?_
  refine Ops.ef rfl (ef_callr (tr_tworks) rfl rfl) ?_
  rintro _ _ ⟨rfl, rfl⟩
  first | refine Ops.pv (pv_not_dec rfl) rfl ?_ | refine Ops.pv (pv_not rfl) rfl ?_
  refine Ops.nil ?_
  refine Ends.seq ?_
  refine Wp.cond_false rfl ?_
  refine Wp.skip ?_
  refine Ends.seq ?_
  refine Wp.seq ?_
  refine Wp.region ?_
  refine Ops.ef rfl (ef_call (tr_fNew) rfl rfl) ?_
  rintro _ _ ⟨_, Q1, ⟨tb1, rfl, hS1⟩, rfl, rfl⟩
  refine Ops.app ?_
  skip
  refine Ops.pv (pv_assign rfl) rfl ?_
  refine Ops.nil ?_
  refine Ends.seq ?_
  refine Wp.seq ?_
  refine Wp.region ?_
  refine Ops.pv (pv_assign rfl) rfl ?_
  refine Ops.nil ?_
  refine Ends.seq ?_
  refine Wp.seq ?_
  refine Wp.seq ?_
  refine Wp.region ?_
  refine Ops.pv (pv_assign rfl) rfl ?_
  refine Ops.nil ?_
  refine Ends.seq ?_
  refine Wp.block ?_
  refine Wp.loopK (σ := Nat × Value × Hp × FoS × Hp × List SlotM) [(0, _), (1, _), (5, _)] (fun s => [(6, s.2.1), (7, .int .i64 s.1)]) (fun s => s.2.2.1 ++ (s.2.2.2.2.1 ++ (G ++ F))) (fun s => s.1 ≤ l.length ∧ s.1 ≤ 40 ∧ Slc 31 2 s.2.1 s.2.2.2.2.2.length (slotsCells s.2.2.2.2.2) s.2.2.1 ∧ TrF s.1 s.2.2.2.1 tb1 s.2.2.2.2.1 ∧ s.2.2.2.2.2.Perm s.2.2.2.1.all ∧ s.2.2.2.2.2.length ≤ s.1) (fun s => l.length - s.1) (0, .slice none 0 0, [], .nil, Q1, []) ⟨Nat.zero_le _, Nat.zero_le _, Slc.nil _ _, hS1, List.Perm.refl _, Nat.le_refl _⟩ ⟨rfl, rfl, rfl, trivial⟩ ⟨rfl, rfl, trivial⟩ (by intro w ho; (try dsimp only [List.nil_append, List.cons_append]); exact Drop.own ho) ?_
  rintro ⟨i, u, K, F0, Lt, ins⟩ KK ⟨hi, hi2, hu, hT, hp, hil⟩ hK
  dsimp only [List.cons_append, List.nil_append] at hK ⊢
  dsimp only at hi hi2 hu hT hp hil ⊢
  refine Wp.seq ?_
  refine Wp.seq ?_
  refine Wp.region ?_
  refine Ops.pv (pv_move rfl) rfl ?_
  refine Ops.pv (pv_move rfl) rfl ?_
  refine Ops.pv (pv_len_slice (T := 48) rfl rfl) rfl ?_
  refine Ops.pv (pv_lss rfl rfl) rfl ?_
  refine Ops.pv (pv_move rfl) rfl ?_
  refine Ops.pvc rfl rfl (fun hg => pv_move rfl) rfl ?_
  refine Ops.pvc rfl rfl (fun hg => Pv.setE (t := 30) rfl (cv_pos hg) (pv_lss rfl rfl)) rfl ?_
  refine Ops.pv (pv_pick_and rfl rfl) rfl ?_
  refine Ops.nil ?_
  refine Ends.seq ?_
  first | refine Wp.cond_dect rfl (fun h1 => ?_) (fun h1 => ?_) | refine Wp.cond_t rfl (fun h1 => ?_) (fun h1 => ?_)
  · obtain ⟨x, hq⟩ : ∃ x, l[i]? = some x := ⟨_, List.getElem?_eq_getElem (by omega)⟩
    obtain ⟨_, b, o, cc, T, f, rfl, hmm, hr⟩ := ha i x.cells (by rw [List.getElem?_map, hq]; rfl)
    have hbg : Blk G b (.cells cc.toArray T f) := ⟨hmm⟩
    refine Wp.skip ?_
    refine Ends.seq ?_
    refine Wp.seq ?_
    refine Wp.block ?_
    refine Wp.seq ?_
    refine Wp.region ?_
    refine Ops.pv (pv_move rfl) rfl ?_
    refine Ops.pv (pv_move rfl) rfl ?_
    refine Ops.pv (pv_indexAddr (i := i) rfl rfl rfl (by omega)) rfl ?_
    refine Ops.pv (pv_loadK x.cells rfl rfl rfl ⟨hr.1, hr.2.1, hr.2.2.1, hr.2.2.2.1, hr.2.2.2.2.1, trivial⟩) rfl ?_
    refine Ops.ef rfl (ef_allocK tyZ52 rfl) ?_
    rintro _ _ ⟨b1, rfl, rfl⟩
    refine Ops.ef rfl (ef_storeK rfl rfl rfl rfl) ?_
    rintro _ _ ⟨rfl, rfl⟩
    refine Ops.nil ?_
    refine Ends.seq ?_
    refine Wp.seq ?_
    refine Wp.seq ?_
    refine Wp.region ?_
    first | refine Ops.pv (pv_fieldAddr0 rfl rfl) rfl ?_ | refine Ops.pv (pv_fieldAddr rfl rfl) rfl ?_
    first | refine Ops.pv (pv_load rfl rfl rfl) rfl ?_ | refine Ops.pv (pv_load rfl rfl (by assumption)) rfl ?_
    refine Ops.pv (pv_eql rfl rfl) rfl ?_
    refine Ops.pv (pv_move rfl) rfl ?_
    first | refine Ops.split (t := 42) rfl (fun h2 => ?_) (fun h2 => ?_) | refine Ops.splitb (t := 42) rfl (fun h2 => ?_) (fun h2 => ?_)
    · refine Ops.pvg ⟨_, _, rfl, rfl, rfl⟩ (pv_move rfl) rfl ?_
      first | refine Ops.pvg ⟨_, _, rfl, rfl, rfl⟩ (pv_fieldAddr0 rfl rfl) rfl ?_ | refine Ops.pvg ⟨_, _, rfl, rfl, rfl⟩ (pv_fieldAddr rfl rfl) rfl ?_
      refine Ops.pvg ⟨_, _, rfl, rfl, rfl⟩ (pv_loadK [_, _] rfl rfl rfl ⟨rfl, rfl, trivial⟩) rfl ?_
      refine Ops.efg ⟨_, _, rfl, rfl, rfl⟩ (ef_call (tr_fRoot hT x.a) rfl rfl) ?_
      rintro _ _ ⟨_, QR1, ⟨rfl, hT2⟩, rfl, rfl⟩
      refine Ops.app ?_
      skip
      refine Ops.pvg ⟨_, _, rfl, rfl, rfl⟩ (pv_eql rfl rfl) rfl ?_
      refine Ops.pv (pv_pick_true rfl rfl) rfl ?_
      refine Ops.nil ?_
      refine Ends.seq ?_
      first | refine Wp.cond_dect rfl (fun h3 => ?_) (fun h3 => ?_) | refine Wp.cond_t rfl (fun h3 => ?_) (fun h3 => ?_)
      · refine Wp.region ?_
        refine Ops.pv (pv_move rfl) rfl ?_
        first | refine Ops.pv (pv_fieldAddr0 rfl rfl) rfl ?_ | refine Ops.pv (pv_fieldAddr rfl rfl) rfl ?_
        refine Ops.pv (pv_loadK [_, _] rfl rfl rfl ⟨rfl, rfl, trivial⟩) rfl ?_
        refine Ops.ef rfl (ef_buildSlice1 (k := 2) rfl rfl rfl rfl rfl) ?_
        rintro _ _ ⟨b2, rfl, rfl⟩
        refine Ops.ef rfl (ef_append (H := K) (xs := slotCells x.a) rfl hu rfl ⟨rfl, rfl, trivial⟩ rfl rfl rfl (by omega) (by omega) rfl rfl) ?_
        rintro _ _ ⟨u1, K1, hu1, rfl, rfl⟩
        refine Ops.app ?_
        refine Ops.pv (pv_assign rfl) rfl ?_
        refine Ops.nil ?_
        refine Ends.seq ?_
        refine Wp.seq ?_
        refine Wp.region ?_
        first | refine Ops.pv (pv_fieldAddr0 rfl rfl) rfl ?_ | refine Ops.pv (pv_fieldAddr rfl rfl) rfl ?_
        first | refine Ops.pv (pv_load rfl rfl rfl) rfl ?_ | refine Ops.pv (pv_load rfl rfl (by assumption)) rfl ?_
        refine Ops.pv (pv_eql rfl rfl) rfl ?_
        refine Ops.pv (pv_move rfl) rfl ?_
        first | refine Ops.split (t := 57) rfl (fun h4 => ?_) (fun h4 => ?_) | refine Ops.splitb (t := 57) rfl (fun h4 => ?_) (fun h4 => ?_)
        · exfalso; omega
        · refine Ops.skipg ⟨_, _, rfl, rfl, rfl⟩ rfl ?_
          refine Ops.skipg ⟨_, _, rfl, rfl, rfl⟩ rfl ?_
          refine Ops.skipg ⟨_, _, rfl, rfl, rfl⟩ rfl ?_
          refine Ops.skipg ⟨_, _, rfl, rfl, rfl⟩ rfl ?_
          refine Ops.skipg ⟨_, _, rfl, rfl, rfl⟩ rfl ?_
          refine Ops.skipg ⟨_, _, rfl, rfl, rfl⟩ rfl ?_
          refine Ops.skipg ⟨_, _, rfl, rfl, rfl⟩ rfl ?_
          refine Ops.pv (pv_pick_false rfl rfl) rfl ?_
          refine Ops.nil ?_
          refine Ends.seq ?_
          refine Wp.cond_false rfl ?_
          refine Wp.skip ?_
          refine Ends.block_normal ?_
          refine Ends.seq ?_
          refine Wp.region ?_
          refine Ops.pv (pv_move rfl) rfl ?_
          first | refine Ops.pv (pv_add rfl rfl (w64 (by omega) (by omega))) rfl ?_ | refine Ops.pv (pv_add rfl rfl rfl) rfl ?_
          refine Ops.pv (pv_assign rfl) rfl ?_
          refine Ops.nil ?_
          refine Ends.goes ?_
          refine Goes.back (hK (i + 1, u1, K1, (ftRoot F0 x.a).2, QR1, ins ++ [x.a]) ⟨by dsimp only; omega, by dsimp only; omega, by dsimp only; rw [List.length_append, slotsCells_app]; exact hu1, hT2, ftRoot_perm hp (by assumption), by dsimp only; rw [List.length_append]; simp; omega⟩ (by dsimp only; omega)) ⟨rfl, rfl, rfl, rfl, rfl, trivial⟩
      · refine Wp.skip ?_
        refine Ends.seq ?_
        refine Wp.seq ?_
        refine Wp.region ?_
        first | refine Ops.pv (pv_fieldAddr0 rfl rfl) rfl ?_ | refine Ops.pv (pv_fieldAddr rfl rfl) rfl ?_
        first | refine Ops.pv (pv_load rfl rfl rfl) rfl ?_ | refine Ops.pv (pv_load rfl rfl (by assumption)) rfl ?_
        refine Ops.pv (pv_eql rfl rfl) rfl ?_
        refine Ops.pv (pv_move rfl) rfl ?_
        first | refine Ops.split (t := 57) rfl (fun h5 => ?_) (fun h5 => ?_) | refine Ops.splitb (t := 57) rfl (fun h5 => ?_) (fun h5 => ?_)
        · exfalso; omega
        · refine Ops.skipg ⟨_, _, rfl, rfl, rfl⟩ rfl ?_
          refine Ops.skipg ⟨_, _, rfl, rfl, rfl⟩ rfl ?_
          refine Ops.skipg ⟨_, _, rfl, rfl, rfl⟩ rfl ?_
          refine Ops.skipg ⟨_, _, rfl, rfl, rfl⟩ rfl ?_
          refine Ops.skipg ⟨_, _, rfl, rfl, rfl⟩ rfl ?_
          refine Ops.skipg ⟨_, _, rfl, rfl, rfl⟩ rfl ?_
          refine Ops.skipg ⟨_, _, rfl, rfl, rfl⟩ rfl ?_
          refine Ops.pv (pv_pick_false rfl rfl) rfl ?_
          refine Ops.nil ?_
          refine Ends.seq ?_
          refine Wp.cond_false rfl ?_
          refine Wp.skip ?_
          refine Ends.block_normal ?_
          refine Ends.seq ?_
          refine Wp.region ?_
          refine Ops.pv (pv_move rfl) rfl ?_
          first | refine Ops.pv (pv_add rfl rfl (w64 (by omega) (by omega))) rfl ?_ | refine Ops.pv (pv_add rfl rfl rfl) rfl ?_
          refine Ops.pv (pv_assign rfl) rfl ?_
          refine Ops.nil ?_
          refine Ends.goes ?_
          refine Goes.back (hK (i + 1, u, K, (ftRoot F0 x.a).2, QR1, ins) ⟨by dsimp only; omega, by dsimp only; omega, hu, hT2, (by rw [ftRoot_no (by assumption)]; exact hp), by dsimp only; omega⟩ (by dsimp only; omega)) ⟨rfl, rfl, rfl, rfl, rfl, trivial⟩
    · refine Ops.skipg ⟨_, _, rfl, rfl, rfl⟩ rfl ?_
      refine Ops.skipg ⟨_, _, rfl, rfl, rfl⟩ rfl ?_
      refine Ops.skipg ⟨_, _, rfl, rfl, rfl⟩ rfl ?_
      refine Ops.skipg ⟨_, _, rfl, rfl, rfl⟩ rfl ?_
      refine Ops.skipg ⟨_, _, rfl, rfl, rfl⟩ rfl ?_
      refine Ops.pv (pv_pick_false rfl rfl) rfl ?_
      refine Ops.nil ?_
      refine Ends.seq ?_
      refine Wp.cond_false rfl ?_
      refine Wp.skip ?_
      refine Ends.seq ?_
      refine Wp.seq ?_
      refine Wp.region ?_
      first | refine Ops.pv (pv_fieldAddr0 rfl rfl) rfl ?_ | refine Ops.pv (pv_fieldAddr rfl rfl) rfl ?_
      first | refine Ops.pv (pv_load rfl rfl rfl) rfl ?_ | refine Ops.pv (pv_load rfl rfl (by assumption)) rfl ?_
      refine Ops.pv (pv_eql rfl rfl) rfl ?_
      refine Ops.pv (pv_move rfl) rfl ?_
      first | refine Ops.split (t := 57) rfl (fun h6 => ?_) (fun h6 => ?_) | refine Ops.splitb (t := 57) rfl (fun h6 => ?_) (fun h6 => ?_)
      · refine Ops.pvg ⟨_, _, rfl, rfl, rfl⟩ (pv_move rfl) rfl ?_
        first | refine Ops.pvg ⟨_, _, rfl, rfl, rfl⟩ (pv_fieldAddr0 rfl rfl) rfl ?_ | refine Ops.pvg ⟨_, _, rfl, rfl, rfl⟩ (pv_fieldAddr rfl rfl) rfl ?_
        refine Ops.pvg ⟨_, _, rfl, rfl, rfl⟩ (pv_loadK [_, _] rfl rfl rfl ⟨rfl, rfl, trivial⟩) rfl ?_
        first | refine Ops.pvg ⟨_, _, rfl, rfl, rfl⟩ (pv_fieldAddr0 rfl rfl) rfl ?_ | refine Ops.pvg ⟨_, _, rfl, rfl, rfl⟩ (pv_fieldAddr rfl rfl) rfl ?_
        refine Ops.pvg ⟨_, _, rfl, rfl, rfl⟩ (pv_loadK [_, _] rfl rfl rfl ⟨rfl, rfl, trivial⟩) rfl ?_
        refine Ops.efg ⟨_, _, rfl, rfl, rfl⟩ (ef_call (tr_fChild hT (by omega) x.a x.b) rfl rfl) ?_
        rintro _ _ ⟨_, QC1, ⟨rfl, hT3⟩, rfl, rfl⟩
        refine Ops.app ?_
        skip
        refine Ops.pvg ⟨_, _, rfl, rfl, rfl⟩ (pv_eql rfl rfl) rfl ?_
        refine Ops.pv (pv_pick_true rfl rfl) rfl ?_
        refine Ops.nil ?_
        refine Ends.seq ?_
        first | refine Wp.cond_dect rfl (fun h7 => ?_) (fun h7 => ?_) | refine Wp.cond_t rfl (fun h7 => ?_) (fun h7 => ?_)
        · refine Wp.region ?_
          refine Ops.pv (pv_move rfl) rfl ?_
          first | refine Ops.pv (pv_fieldAddr0 rfl rfl) rfl ?_ | refine Ops.pv (pv_fieldAddr rfl rfl) rfl ?_
          refine Ops.pv (pv_loadK [_, _] rfl rfl rfl ⟨rfl, rfl, trivial⟩) rfl ?_
          refine Ops.ef rfl (ef_buildSlice1 (k := 2) rfl rfl rfl rfl rfl) ?_
          rintro _ _ ⟨b3, rfl, rfl⟩
          refine Ops.ef rfl (ef_append (H := K) (xs := slotCells x.b) rfl hu rfl ⟨rfl, rfl, trivial⟩ rfl rfl rfl (by omega) (by omega) rfl rfl) ?_
          rintro _ _ ⟨u2, K2, hu2, rfl, rfl⟩
          refine Ops.app ?_
          refine Ops.pv (pv_assign rfl) rfl ?_
          refine Ops.nil ?_
          refine Ends.block_normal ?_
          refine Ends.seq ?_
          refine Wp.region ?_
          refine Ops.pv (pv_move rfl) rfl ?_
          first | refine Ops.pv (pv_add rfl rfl (w64 (by omega) (by omega))) rfl ?_ | refine Ops.pv (pv_add rfl rfl rfl) rfl ?_
          refine Ops.pv (pv_assign rfl) rfl ?_
          refine Ops.nil ?_
          refine Ends.goes ?_
          refine Goes.back (hK (i + 1, u2, K2, (ftChild F0 x.a x.b).2, QC1, ins ++ [x.b]) ⟨by dsimp only; omega, by dsimp only; omega, by dsimp only; rw [List.length_append, slotsCells_app]; exact hu2, hT3, ftChild_perm hT.nd hp (by assumption), by dsimp only; rw [List.length_append]; simp; omega⟩ (by dsimp only; omega)) ⟨rfl, rfl, rfl, rfl, rfl, trivial⟩
        · refine Wp.skip ?_
          refine Ends.block_normal ?_
          refine Ends.seq ?_
          refine Wp.region ?_
          refine Ops.pv (pv_move rfl) rfl ?_
          first | refine Ops.pv (pv_add rfl rfl (w64 (by omega) (by omega))) rfl ?_ | refine Ops.pv (pv_add rfl rfl rfl) rfl ?_
          refine Ops.pv (pv_assign rfl) rfl ?_
          refine Ops.nil ?_
          refine Ends.goes ?_
          refine Goes.back (hK (i + 1, u, K, (ftChild F0 x.a x.b).2, QC1, ins) ⟨by dsimp only; omega, by dsimp only; omega, hu, hT3, (by rw [ftChild_no (by assumption)]; exact hp), by dsimp only; omega⟩ (by dsimp only; omega)) ⟨rfl, rfl, rfl, rfl, rfl, trivial⟩
      · refine Ops.skipg ⟨_, _, rfl, rfl, rfl⟩ rfl ?_
        refine Ops.skipg ⟨_, _, rfl, rfl, rfl⟩ rfl ?_
        refine Ops.skipg ⟨_, _, rfl, rfl, rfl⟩ rfl ?_
        refine Ops.skipg ⟨_, _, rfl, rfl, rfl⟩ rfl ?_
        refine Ops.skipg ⟨_, _, rfl, rfl, rfl⟩ rfl ?_
        refine Ops.skipg ⟨_, _, rfl, rfl, rfl⟩ rfl ?_
        refine Ops.skipg ⟨_, _, rfl, rfl, rfl⟩ rfl ?_
        refine Ops.pv (pv_pick_false rfl rfl) rfl ?_
        refine Ops.nil ?_
        refine Ends.seq ?_
        refine Wp.cond_false rfl ?_
        refine Wp.skip ?_
        refine Ends.block_normal ?_
        refine Ends.seq ?_
        refine Wp.region ?_
        refine Ops.pv (pv_move rfl) rfl ?_
        first | refine Ops.pv (pv_add rfl rfl (w64 (by omega) (by omega))) rfl ?_ | refine Ops.pv (pv_add rfl rfl rfl) rfl ?_
        refine Ops.pv (pv_assign rfl) rfl ?_
        refine Ops.nil ?_
        refine Ends.goes ?_
        refine Goes.back (hK (i + 1, u, K, F0, Lt, ins) ⟨by dsimp only; omega, by dsimp only; omega, hu, hT.more (by omega), hp, by dsimp only; omega⟩ (by dsimp only; omega)) ⟨rfl, rfl, rfl, rfl, rfl, trivial⟩
  · have hpl := hp.length_eq
    obtain ⟨pp0, qq0, rfl⟩ := hu.form
    obtain ⟨i0, hi0⟩ : ∃ q, q = i := ⟨i, rfl⟩
    subst hi0
    refine Wp.exit ?_
    refine Ends.then_exit ?_
    refine Ends.then_exit ?_
    refine Ends.block_hit ?_
    refine Ends.seq ?_
    refine Wp.seq ?_
    refine Wp.seq ?_
    refine Wp.region ?_
    refine Ops.pv (pv_move rfl) rfl ?_
    refine Ops.pv (pv_len_slice (T := 39) rfl rfl) rfl ?_
    refine Ops.pv (pv_eql rfl rfl) rfl ?_
    refine Ops.nil ?_
    refine Ends.seq ?_
    first | refine Wp.cond_dect rfl (fun h8 => ?_) (fun h8 => ?_) | refine Wp.cond_t rfl (fun h8 => ?_) (fun h8 => ?_)
    · refine Wp.seq ?_
      refine Wp.region ?_
      refine Ops.pv (pv_assign rfl) rfl ?_
      refine Ops.nil ?_
      refine Ends.seq ?_
      refine Wp.ret ?_
      refine Ends.then_ret ?_
      exact Ends.ret (res1 rfl rfl) ⟨rfl, rfl⟩
    · obtain ⟨b, o, cap, cc, T0, f, hv1, hbv, hr⟩ := hu.view.open (by omega)
      cases hv1
      obtain ⟨q, hqq⟩ : ∃ q, q = uI at0 % ins.length := ⟨_, rfl⟩
      have hql : q < ins.length := by rw [hqq]; exact Nat.mod_lt _ (by omega)
      have hqI : (uI at0 : Int).tmod (ins.length : Int) = (q : Int) := by rw [hqq]; exact tmod_nat rfl
      obtain ⟨sl, hsl⟩ : ∃ s, ins[q]? = some s := ⟨_, List.getElem?_eq_getElem (by omega)⟩
      have hresl := hr.sub (i := q * 2) (l := 2)
      rw [slots_reads hsl] at hresl
      have hsa : sl ∈ F0.all := hp.mem_iff.1 (List.mem_of_getElem? hsl)
      have hd5 : ftDrop F0 sl = (0, F0.drop sl) := if_pos hsa
      have hdl := Fo.drop_len hT.nd hsa
      refine Wp.skip ?_
      refine Ends.seq ?_
      refine Wp.seq ?_
      refine Wp.region ?_
      refine Ops.pv (pv_move rfl) rfl ?_
      refine Ops.pv (pv_move rfl) rfl ?_
      refine Ops.pv (pv_conv rfl (uI_eq at0)) rfl ?_
      refine Ops.pv (pv_move rfl) rfl ?_
      refine Ops.pv (pv_len_slice (T := 39) rfl rfl) rfl ?_
      refine Ops.pv (pv_conv rfl (u64n (k := ins.length) rfl (by omega))) rfl ?_
      refine Ops.pv (pv_rem rfl rfl (by omega) hqI) rfl ?_
      refine Ops.pv (pv_conv rfl (w64n (k := q) rfl (by omega))) rfl ?_
      refine Ops.pv (pv_indexAddr (i := q) rfl rfl rfl (by omega)) rfl ?_
      refine Ops.pv (pv_loadK [.int .i64 sl.1, .int .i64 sl.2] rfl rfl rfl hresl) rfl ?_
      refine Ops.ef rfl (ef_allocK tyZ31 rfl) ?_
      rintro _ _ ⟨b4, rfl, rfl⟩
      refine Ops.ef rfl (ef_storeK rfl rfl rfl rfl) ?_
      rintro _ _ ⟨rfl, rfl⟩
      refine Ops.nil ?_
      refine Ends.seq ?_
      refine Wp.seq ?_
      refine Wp.region ?_
      refine Ops.pv (pv_move rfl) rfl ?_
      refine Ops.pv (pv_loadK [_, _] rfl rfl rfl ⟨rfl, rfl, trivial⟩) rfl ?_
      refine Ops.ef rfl (ef_callr (tr_fPar hT sl) rfl rfl) ?_
      rintro _ _ ⟨rfl, rfl⟩
      refine Ops.pv (pv_move rfl) rfl ?_
      refine Ops.pv (pv_extract rfl rfl) rfl ?_
      refine Ops.pv (pv_extract rfl rfl) rfl ?_
      refine Ops.ef rfl (ef_allocK tyZ31 rfl) ?_
      rintro _ _ ⟨b5, rfl, rfl⟩
      refine Ops.ef rfl (ef_storeK rfl rfl rfl rfl) ?_
      rintro _ _ ⟨rfl, rfl⟩
      refine Ops.pv (pv_assign rfl) rfl ?_
      refine Ops.nil ?_
      refine Ends.seq ?_
      refine Wp.seq ?_
      refine Wp.region ?_
      refine Ops.pv (pv_move rfl) rfl ?_
      refine Ops.pv (pv_loadK [_, _] rfl rfl rfl ⟨rfl, rfl, trivial⟩) rfl ?_
      refine Ops.ef rfl (ef_call (tr_fKids hT (by omega) sl) rfl rfl) ?_
      rintro _ _ ⟨_, _, ⟨C1, hc1, rfl⟩, rfl, rfl⟩
      refine Ops.app ?_
      obtain ⟨pp1, qq1, rfl⟩ := hc1.form
      refine Ops.pv (pv_assign rfl) rfl ?_
      refine Ops.nil ?_
      refine Ends.seq ?_
      refine Wp.seq ?_
      refine Wp.region ?_
      refine Ops.ef rfl (ef_makeMap rfl rfl) ?_
      rintro _ _ ⟨b6, rfl, rfl⟩
      rw [show Obj.map #[] 0 = mapO encS [] 0 from rfl]
      refine Ops.pv (pv_assign rfl) rfl ?_
      refine Ops.nil ?_
      refine Ends.seq ?_
      refine Wp.seq ?_
      refine Wp.seq ?_
      refine Wp.region ?_
      refine Ops.pv (pv_assign rfl) rfl ?_
      refine Ops.nil ?_
      refine Ends.seq ?_
      refine Wp.block ?_
      refine Wp.loopK (σ := Nat × List (SlotM × Value × Nat) × Nat × Hp) [(5, _), (6, _), (9, _), (10, _), (11, _), (12, _), (13, _)] (fun s => [(14, .int .i64 s.1)]) (fun s => (b6, mapO encS s.2.1 s.2.2.1) :: (s.2.2.2 ++ (C1 ++ ((b5, .cells [.int .i64 (ftPar F0 sl).1, .int .i64 (ftPar F0 sl).2].toArray 31) :: (b4, .cells [.int .i64 sl.1, .int .i64 sl.2].toArray 31) :: (K ++ (Lt ++ (G ++ F))))))) (fun s => s.1 ≤ ins.length ∧ KinMap F0 ins s.2.1 s.2.2.2 s.1) (fun s => ins.length - s.1) (0, [], 0, []) ⟨Nat.zero_le _, fun j z hj => absurd hj (Nat.not_lt_zero j)⟩ ⟨rfl, rfl, rfl, rfl, rfl, rfl, rfl, trivial⟩ ⟨rfl, trivial⟩ (by intro w ho; (try dsimp only [List.nil_append, List.cons_append]); exact Drop.own ho) ?_
      rintro ⟨i, M, clk, H⟩ KK ⟨hi9, hM⟩ hK
      dsimp only [List.cons_append, List.nil_append] at hK ⊢
      dsimp only at hi9 hM ⊢
      refine Wp.seq ?_
      refine Wp.seq ?_
      refine Wp.region ?_
      refine Ops.pv (pv_move rfl) rfl ?_
      refine Ops.pv (pv_move rfl) rfl ?_
      refine Ops.pv (pv_len_slice (T := 39) rfl rfl) rfl ?_
      refine Ops.pv (pv_lss rfl rfl) rfl ?_
      refine Ops.nil ?_
      refine Ends.seq ?_
      first | refine Wp.cond_dect rfl (fun h9 => ?_) (fun h9 => ?_) | refine Wp.cond_t rfl (fun h9 => ?_) (fun h9 => ?_)
      · obtain ⟨z, hz⟩ : ∃ s, ins[i]? = some s := ⟨_, List.getElem?_eq_getElem (by omega)⟩
        have hrez := hr.sub (i := i * 2) (l := 2)
        rw [slots_reads hz] at hrez
        refine Wp.skip ?_
        refine Ends.seq ?_
        refine Wp.seq ?_
        refine Wp.block ?_
        refine AnyH.start K 12 rfl ?_
        refine AnyH.take 0 rfl (by kernel_rfl) (by kernel_rfl) (by kernel_rfl) PF.pf rfl (pv_move rfl) rfl ?_
        refine AnyH.take 1 rfl (by kernel_rfl) (by kernel_rfl) (by kernel_rfl) PF.pf rfl (pv_move rfl) rfl ?_
        refine AnyH.take 2 rfl (by kernel_rfl) (by kernel_rfl) (by kernel_rfl) PF.pf rfl (pv_move rfl) rfl ?_
        refine AnyH.take 3 rfl (by kernel_rfl) (by kernel_rfl) (by kernel_rfl) PF.pf rfl (pv_indexAddr (i := i) rfl rfl rfl (by omega)) rfl ?_
        refine AnyH.take 4 rfl (by kernel_rfl) (by kernel_rfl) (by kernel_rfl) PF.pf rfl (pv_loadK [.int .i64 z.1, .int .i64 z.2] rfl rfl rfl hrez) rfl ?_
        refine AnyH.take 5 rfl (by kernel_rfl) (by kernel_rfl) (by kernel_rfl) PF.pf rfl (pv_move rfl) rfl ?_
        refine AnyH.take 6 rfl (by kernel_rfl) (by kernel_rfl) (by kernel_rfl) PF.pf rfl (pv_move rfl) rfl ?_
        refine AnyH.take 7 rfl (by kernel_rfl) (by kernel_rfl) (by kernel_rfl) PF.pf rfl (pv_move rfl) rfl ?_
        refine AnyH.take 8 rfl (by kernel_rfl) (by kernel_rfl) (by kernel_rfl) PF.pf rfl (pv_indexAddr (i := i) rfl rfl rfl (by omega)) rfl ?_
        refine AnyH.take 9 rfl (by kernel_rfl) (by kernel_rfl) (by kernel_rfl) PF.pf rfl (pv_loadK [.int .i64 z.1, .int .i64 z.2] rfl rfl rfl hrez) rfl ?_
        refine AnyH.one 10 (by kernel_rfl) ?_
        refine Turn.ef rfl rfl (ef_call (tr_fKin hT (by omega) z) rfl rfl) ?_ ?_
        · rintro _ _ ⟨_, _, ⟨C2, hc2, rfl⟩, rfl, rfl⟩; infer_instance
        rintro _ _ ⟨_, _, ⟨C2, hc2, rfl⟩, rfl, rfl⟩
        refine AnyH.app ?_
        obtain ⟨pp2, qq2, rfl⟩ := hc2.form
        refine AnyH.one 11 (by kernel_rfl) ?_
        refine Turn.ef rfl rfl (ef_mapUpdate_s _ rfl rfl rfl) ?_ ?_
        · rintro _ _ ⟨rfl, rfl⟩; infer_instance
        rintro _ _ ⟨rfl, rfl⟩
        refine AnyH.done (by kernel_rfl) ?_
        refine Ends.block_normal ?_
        refine Ends.seq ?_
        refine Wp.region ?_
        refine Ops.pv (pv_move rfl) rfl ?_
        first | refine Ops.pv (pv_add rfl rfl (w64 (by omega) (by omega))) rfl ?_ | refine Ops.pv (pv_add rfl rfl rfl) rfl ?_
        refine Ops.pv (pv_assign rfl) rfl ?_
        refine Ops.nil ?_
        refine Ends.goes ?_
        refine Goes.back (hK (i + 1, mput z (.slice pp2 (ftKin F0 z).length qq2) clk M, mclk z M clk, C2 ++ H) ⟨by dsimp only; omega, hM.step hz hc2.view⟩ (by dsimp only; omega)) ⟨rfl, rfl, rfl, rfl, rfl, rfl, rfl, rfl, trivial⟩
      · obtain rfl : i = ins.length := by omega
        refine Wp.exit ?_
        refine Ends.then_exit ?_
        refine Ends.then_exit ?_
        refine Ends.block_hit ?_
        refine Ends.seq ?_
        refine Wp.seq ?_
        refine Wp.seq ?_
        refine Wp.region ?_
        refine Ops.pv (pv_move rfl) rfl ?_
        refine Ops.pv (pv_loadK [_, _] rfl rfl rfl ⟨rfl, rfl, trivial⟩) rfl ?_
        refine Ops.ef rfl (ef_call ((tr_fDrop hT (by omega) sl).mono (R' := fun u L' => u = .int .i64 0 ∧ TrF i0 (F0.drop sl) tb1 L') (by intro u L' h; rw [hd5] at h; exact h)) rfl rfl) ?_
        rintro _ _ ⟨_, Q2, ⟨rfl, hT5⟩, rfl, rfl⟩
        refine Ops.app ?_
        skip
        refine Ops.pv ((pv_neq rfl rfl).fls (by first | exact fun h => h rfl | decide | omega | assumption)) rfl ?_
        refine Ops.pv (pv_move rfl) rfl ?_
        refine Ops.pvg ⟨_, _, rfl, rfl, rfl⟩ (pv_move rfl) rfl ?_
        refine Ops.pvg ⟨_, _, rfl, rfl, rfl⟩ (pv_loadK [_, _] rfl rfl rfl ⟨rfl, rfl, trivial⟩) rfl ?_
        refine Ops.efg ⟨_, _, rfl, rfl, rfl⟩ (ef_callr ((tr_fHas hT5 sl).eq (r' := .bool false) (by rw [decide_eq_false (fun h => ((Fo.all_drop hT.nd).1 h).2 rfl)])) rfl rfl) ?_
        rintro _ _ ⟨rfl, rfl⟩
        refine Ops.pv (pv_pick_false rfl rfl) rfl ?_
        refine Ops.pv (pv_move rfl) rfl ?_
        refine Ops.pvg ⟨_, _, rfl, rfl, rfl⟩ (pv_move rfl) rfl ?_
        refine Ops.efg ⟨_, _, rfl, rfl, rfl⟩ (ef_callr (tr_fLen hT5) rfl rfl) ?_
        rintro _ _ ⟨rfl, rfl⟩
        refine Ops.pvg ⟨_, _, rfl, rfl, rfl⟩ (pv_move rfl) rfl ?_
        refine Ops.pvg ⟨_, _, rfl, rfl, rfl⟩ (pv_len_slice (T := 39) rfl rfl) rfl ?_
        refine Ops.pvg ⟨_, _, rfl, rfl, rfl⟩ (pv_sub rfl rfl (w64 (by omega) (by omega))) rfl ?_
        refine Ops.pvg ⟨_, _, rfl, rfl, rfl⟩ ((pv_neq rfl rfl).fls (by first | exact fun h => h rfl | decide | omega | assumption)) rfl ?_
        refine Ops.pv (pv_pick_false rfl rfl) rfl ?_
        refine Ops.nil ?_
        refine Ends.seq ?_
        refine Wp.cond_false rfl ?_
        refine Wp.skip ?_
        refine Ends.seq ?_
        refine Wp.seq ?_
        refine Wp.seq ?_
        refine Wp.region ?_
        refine Ops.pv (pv_assign rfl) rfl ?_
        refine Ops.nil ?_
        refine Ends.seq ?_
        refine Wp.block ?_
        refine Wp.loopK (σ := Nat) [(5, _), (6, _), (9, _), (10, _), (11, _), (12, _), (13, _)] (fun s => [(15, .int .i64 s)]) (fun s => (b6, mapO encS M clk) :: (H ++ (C1 ++ ((b5, .cells [.int .i64 (ftPar F0 sl).1, .int .i64 (ftPar F0 sl).2].toArray 31) :: (b4, .cells [.int .i64 sl.1, .int .i64 sl.2].toArray 31) :: (K ++ (Q2 ++ (G ++ F))))))) (fun s => s ≤ (ftKids F0 sl).length) (fun s => (ftKids F0 sl).length - s) 0 (Nat.zero_le _) ⟨rfl, rfl, rfl, rfl, rfl, rfl, rfl, trivial⟩ ⟨rfl, trivial⟩ (by intro w ho; (try dsimp only [List.nil_append, List.cons_append]); exact Drop.own ho) ?_
        rintro k KK hk hK
        dsimp only [List.cons_append, List.nil_append] at hK ⊢
        refine Wp.seq ?_
        refine Wp.seq ?_
        refine Wp.region ?_
        refine Ops.pv (pv_move rfl) rfl ?_
        refine Ops.pv (pv_move rfl) rfl ?_
        refine Ops.pv (pv_len_slice (T := 39) rfl rfl) rfl ?_
        refine Ops.pv (pv_lss rfl rfl) rfl ?_
        refine Ops.nil ?_
        refine Ends.seq ?_
        first | refine Wp.cond_dect rfl (fun h10 => ?_) (fun h10 => ?_) | refine Wp.cond_t rfl (fun h10 => ?_) (fun h10 => ?_)
        · have hkl := ftKids_len F0 sl
          obtain ⟨bq5, o5, cap5, cc5, T5, f5, hv5, hbv5, hr5⟩ := hc1.view.open (by omega)
          cases hv5
          obtain ⟨y, hy⟩ : ∃ s, (ftKids F0 sl)[k]? = some s := ⟨_, List.getElem?_eq_getElem (by omega)⟩
          have hrey := hr5.sub (i := k * 2) (l := 2)
          rw [slots_reads hy] at hrey
          have hyk := List.mem_of_getElem? hy
          refine Wp.skip ?_
          refine Ends.seq ?_
          refine Wp.seq ?_
          refine Wp.block ?_
          refine Wp.seq ?_
          refine Wp.region ?_
          refine Ops.pv (pv_move rfl) rfl ?_
          refine Ops.pv (pv_move rfl) rfl ?_
          refine Ops.pv (pv_move rfl) rfl ?_
          refine Ops.pv (pv_indexAddr (i := k) rfl rfl rfl (by omega)) rfl ?_
          refine Ops.pv (pv_loadK [.int .i64 y.1, .int .i64 y.2] rfl rfl rfl hrey) rfl ?_
          refine Ops.ef rfl (ef_callr ((tr_fPar hT5 y).eq (r' := .tuple #[slotV (ftPar F0 sl), .bool (ftParB F0 sl)]) (by rw [(kid_par hT.nd hsa hyk).1, (kid_par hT.nd hsa hyk).2])) rfl rfl) ?_
          rintro _ _ ⟨rfl, rfl⟩
          refine Ops.pv (pv_move rfl) rfl ?_
          refine Ops.pv (pv_extract rfl rfl) rfl ?_
          refine Ops.pv (pv_extract rfl rfl) rfl ?_
          refine Ops.ef rfl (ef_allocK tyZ31 rfl) ?_
          rintro _ _ ⟨b7, rfl, rfl⟩
          refine Ops.ef rfl (ef_storeK rfl rfl rfl rfl) ?_
          rintro _ _ ⟨rfl, rfl⟩
          refine Ops.pv (pv_assign rfl) rfl ?_
          refine Ops.nil ?_
          refine Ends.seq ?_
          refine Wp.seq ?_
          refine Wp.region ?_
          refine Ops.pv (pv_move rfl) rfl ?_
          refine Ops.pv (pv_move rfl) rfl ?_
          refine Ops.pv ((pv_neq_bool rfl rfl).is (u := .bool false) (by first | rfl | (simp; done) | simp_all)) rfl ?_
          refine Ops.pv (pv_move rfl) rfl ?_
          refine Ops.pvg ⟨_, _, rfl, rfl, rfl⟩ (pv_loadK [_, _] rfl rfl rfl ⟨rfl, rfl, trivial⟩) rfl ?_
          refine Ops.pvg ⟨_, _, rfl, rfl, rfl⟩ (pv_loadK [_, _] rfl rfl rfl ⟨rfl, rfl, trivial⟩) rfl ?_
          refine Ops.pvg ⟨_, _, rfl, rfl, rfl⟩ ((pv_neq_slot rfl rfl).fls (by first | exact fun h => h rfl | decide | omega | assumption)) rfl ?_
          refine Ops.pv (pv_pick_false rfl rfl) rfl ?_
          refine Ops.nil ?_
          refine Ends.seq ?_
          refine Wp.cond_false rfl ?_
          refine Wp.skip ?_
          refine Ends.block_normal ?_
          refine Ends.seq ?_
          refine Wp.region ?_
          refine Ops.pv (pv_move rfl) rfl ?_
          first | refine Ops.pv (pv_add rfl rfl (w64 (by omega) (by omega))) rfl ?_ | refine Ops.pv (pv_add rfl rfl rfl) rfl ?_
          refine Ops.pv (pv_assign rfl) rfl ?_
          refine Ops.nil ?_
          refine Ends.goes ?_
          refine Goes.back (hK (k + 1) (by omega) (by omega)) ⟨rfl, rfl, rfl, rfl, rfl, rfl, rfl, rfl, trivial⟩
        · refine Wp.exit ?_
          refine Ends.then_exit ?_
          refine Ends.then_exit ?_
          refine Ends.block_hit ?_
          refine Ends.seq ?_
          refine Wp.seq ?_
          refine Wp.seq ?_
          refine Wp.region ?_
          refine Ops.pv (pv_assign rfl) rfl ?_
          refine Ops.nil ?_
          refine Ends.seq ?_
          refine Wp.block ?_
          refine Wp.loopK (σ := Nat) [(5, _), (6, _), (9, _), (13, _)] (fun s => [(18, .int .i64 s)]) (fun s => (b6, mapO encS M clk) :: (H ++ ((b4, .cells [.int .i64 sl.1, .int .i64 sl.2].toArray 31) :: (K ++ (Q2 ++ (G ++ F)))))) (fun s => s ≤ ins.length) (fun s => ins.length - s) 0 (Nat.zero_le _) ⟨rfl, rfl, rfl, rfl, trivial⟩ ⟨rfl, trivial⟩ (by intro w ho; (try dsimp only [List.nil_append, List.cons_append]); exact Drop.own ho) ?_
          rintro j KK hj hK
          dsimp only [List.cons_append, List.nil_append] at hK ⊢
          refine Wp.seq ?_
          refine Wp.seq ?_
          refine Wp.region ?_
          refine Ops.pv (pv_move rfl) rfl ?_
          refine Ops.pv (pv_move rfl) rfl ?_
          refine Ops.pv (pv_len_slice (T := 39) rfl rfl) rfl ?_
          refine Ops.pv (pv_lss rfl rfl) rfl ?_
          refine Ops.nil ?_
          refine Ends.seq ?_
          first | refine Wp.cond_dect rfl (fun h11 => ?_) (fun h11 => ?_) | refine Wp.cond_t rfl (fun h11 => ?_) (fun h11 => ?_)
          · obtain ⟨z, hz⟩ : ∃ s, ins[j]? = some s := ⟨_, List.getElem?_eq_getElem (by omega)⟩
            have hrez := hr.sub (i := j * 2) (l := 2)
            rw [slots_reads hz] at hrez
            have hza : z ∈ F0.all := hp.mem_iff.1 (List.mem_of_getElem? hz)
            refine Wp.skip ?_
            refine Ends.seq ?_
            refine Wp.seq ?_
            refine Wp.block ?_
            refine Wp.seq ?_
            refine Wp.seq ?_
            refine AnyH.start (K ++ ((b4, .cells [.int .i64 sl.1, .int .i64 sl.2].toArray 31) :: [])) 6 rfl ?_
            refine AnyH.take 0 rfl (by kernel_rfl) (by kernel_rfl) (by kernel_rfl) PF.pf rfl (pv_move rfl) rfl ?_
            refine AnyH.take 1 rfl (by kernel_rfl) (by kernel_rfl) (by kernel_rfl) PF.pf rfl (pv_move rfl) rfl ?_
            refine AnyH.take 2 rfl (by kernel_rfl) (by kernel_rfl) (by kernel_rfl) PF.pf rfl (pv_indexAddr (i := j) rfl rfl rfl (by omega)) rfl ?_
            refine AnyH.take 3 rfl (by kernel_rfl) (by kernel_rfl) (by kernel_rfl) PF.pf rfl (pv_loadK [.int .i64 z.1, .int .i64 z.2] rfl rfl rfl hrez) rfl ?_
            refine AnyH.take 4 rfl (by kernel_rfl) (by kernel_rfl) (by kernel_rfl) PF.pf rfl (pv_loadK [_, _] rfl rfl rfl ⟨rfl, rfl, trivial⟩) rfl ?_
            refine AnyH.take 5 rfl (by kernel_rfl) (by kernel_rfl) (by kernel_rfl) PF.pf rfl (pv_eql_slot (a := z) (b := sl) rfl rfl) rfl ?_
            refine AnyH.done (by kernel_rfl) ?_
            refine Ends.seq ?_
            first | refine Wp.cond_dect rfl (fun h12 => ?_) (fun h12 => ?_) | refine Wp.cond_t rfl (fun h12 => ?_) (fun h12 => ?_)
            · refine Wp.exit ?_
              refine Ends.then_exit ?_
              refine Ends.block_hit ?_
              refine Ends.seq ?_
              refine Wp.region ?_
              refine Ops.pv (pv_move rfl) rfl ?_
              first | refine Ops.pv (pv_add rfl rfl (w64 (by omega) (by omega))) rfl ?_ | refine Ops.pv (pv_add rfl rfl rfl) rfl ?_
              refine Ops.pv (pv_assign rfl) rfl ?_
              refine Ops.nil ?_
              refine Ends.goes ?_
              refine Goes.back (hK (j + 1) (by omega) (by omega)) ⟨rfl, rfl, rfl, rfl, rfl, trivial⟩
            · have hzs : z ≠ sl := by assumption
              obtain ⟨v, hmz, hvz⟩ := hM j z (by omega) hz
              have hm0 : (mget z M).getD (.slice none 0 0) = v := by rw [hmz]; rfl
              have hvz2 := hvz
              obtain ⟨_, vp, vq, rfl, _, _⟩ := hvz2
              have hkz := ftKin_len F0 z
              refine Wp.skip ?_
              refine Ends.seq ?_
              refine Wp.seq ?_
              refine Wp.region ?_
              refine Ops.pv (pv_assign rfl) rfl ?_
              refine Ops.nil ?_
              refine Ends.seq ?_
              refine Wp.seq ?_
              refine Wp.region ?_
              refine Ops.pv (pv_move rfl) rfl ?_
              refine Ops.pv (pv_move rfl) rfl ?_
              refine Ops.pv (pv_move rfl) rfl ?_
              refine Ops.pv (pv_indexAddr (i := j) rfl rfl rfl (by omega)) rfl ?_
              refine Ops.pv (pv_loadK [.int .i64 z.1, .int .i64 z.2] rfl rfl rfl hrez) rfl ?_
              refine Ops.pv (pv_lookup_s z rfl rfl hm0) rfl ?_
              refine Ops.pv (pv_assign rfl) rfl ?_
              refine Ops.nil ?_
              refine Ends.seq ?_
              refine Wp.seq ?_
              refine Wp.seq ?_
              refine Wp.region ?_
              refine Ops.pv (pv_assign rfl) rfl ?_
              refine Ops.nil ?_
              refine Ends.seq ?_
              refine Wp.block ?_
              refine Wp.loopK (σ := Nat × Value × Hp) [(5, _), (6, _), (9, _), (13, _), (18, _), (20, _)] (fun s => [(19, s.2.1), (21, .int .i64 s.1)]) (fun s => s.2.2 ++ ((b6, mapO encS M clk) :: (H ++ ((b4, .cells [.int .i64 sl.1, .int .i64 sl.2].toArray 31) :: (K ++ (Q2 ++ (G ++ F))))))) (fun s => s.1 ≤ (ftKin F0 z).length ∧ Slc 31 2 s.2.1 (((ftKin F0 z).take s.1).filter fun y => decide (y ≠ sl)).length (slotsCells (((ftKin F0 z).take s.1).filter fun y => decide (y ≠ sl))) s.2.2) (fun s => (ftKin F0 z).length - s.1) (0, .slice none 0 0, []) ⟨Nat.zero_le _, Slc.nil _ _⟩ ⟨rfl, rfl, rfl, rfl, rfl, rfl, trivial⟩ ⟨rfl, rfl, trivial⟩ (by intro w ho; (try dsimp only [List.nil_append, List.cons_append]); exact Drop.own ho) ?_
              rintro ⟨m, u2, K2⟩ KK ⟨hm, hu2⟩ hK1
              dsimp only [List.cons_append, List.nil_append] at hK1 ⊢
              dsimp only at hm hu2 ⊢
              refine Wp.seq ?_
              refine Wp.seq ?_
              refine Wp.region ?_
              refine Ops.pv (pv_move rfl) rfl ?_
              refine Ops.pv (pv_move rfl) rfl ?_
              refine Ops.pv (pv_len_slice (T := 39) rfl rfl) rfl ?_
              refine Ops.pv (pv_lss rfl rfl) rfl ?_
              refine Ops.nil ?_
              refine Ends.seq ?_
              first | refine Wp.cond_dect rfl (fun h13 => ?_) (fun h13 => ?_) | refine Wp.cond_t rfl (fun h13 => ?_) (fun h13 => ?_)
              · obtain ⟨bq6, o6, cap6, cc6, T6, f6, hv6, hbv6, hr6⟩ := hvz.open (by omega)
                cases hv6
                obtain ⟨y, hy⟩ : ∃ s, (ftKin F0 z)[m]? = some s := ⟨_, List.getElem?_eq_getElem (by omega)⟩
                have hrey := hr6.sub (i := m * 2) (l := 2)
                rw [slots_reads hy] at hrey
                have hfl : (((ftKin F0 z).take m).filter fun y => decide (y ≠ sl)).length ≤ m := Nat.le_trans (List.length_filter_le _ _) (List.length_take_le _ _)
                refine Wp.skip ?_
                refine Ends.seq ?_
                refine Wp.seq ?_
                refine Wp.block ?_
                refine Wp.seq ?_
                refine AnyH.start (H ++ ((b4, .cells [.int .i64 sl.1, .int .i64 sl.2].toArray 31) :: [])) 6 rfl ?_
                refine AnyH.take 0 rfl (by kernel_rfl) (by kernel_rfl) (by kernel_rfl) PF.pf rfl (pv_move rfl) rfl ?_
                refine AnyH.take 1 rfl (by kernel_rfl) (by kernel_rfl) (by kernel_rfl) PF.pf rfl (pv_move rfl) rfl ?_
                refine AnyH.take 2 rfl (by kernel_rfl) (by kernel_rfl) (by kernel_rfl) PF.pf rfl (pv_indexAddr (i := m) rfl rfl rfl (by omega)) rfl ?_
                refine AnyH.take 3 rfl (by kernel_rfl) (by kernel_rfl) (by kernel_rfl) PF.pf rfl (pv_loadK [.int .i64 y.1, .int .i64 y.2] rfl rfl rfl hrey) rfl ?_
                refine AnyH.take 4 rfl (by kernel_rfl) (by kernel_rfl) (by kernel_rfl) PF.pf rfl (pv_loadK [_, _] rfl rfl rfl ⟨rfl, rfl, trivial⟩) rfl ?_
                refine AnyH.take 5 rfl (by kernel_rfl) (by kernel_rfl) (by kernel_rfl) PF.pf rfl (pv_neq_slot (a := y) (b := sl) rfl rfl) rfl ?_
                refine AnyH.done (by kernel_rfl) ?_
                refine Ends.seq ?_
                first | refine Wp.cond_dect rfl (fun h14 => ?_) (fun h14 => ?_) | refine Wp.cond_t rfl (fun h14 => ?_) (fun h14 => ?_)
                · refine Wp.region ?_
                  refine Ops.pv (pv_move rfl) rfl ?_
                  refine Ops.pv (pv_move rfl) rfl ?_
                  refine Ops.pv (pv_move rfl) rfl ?_
                  refine Ops.pv (pv_indexAddr (i := m) rfl rfl rfl (by omega)) rfl ?_
                  refine Ops.pv (pv_loadK [.int .i64 y.1, .int .i64 y.2] rfl rfl rfl hrey) rfl ?_
                  refine Ops.ef rfl (ef_buildSlice1 (k := 2) rfl rfl rfl rfl rfl) ?_
                  rintro _ _ ⟨b8, rfl, rfl⟩
                  refine Ops.ef rfl (ef_append (H := K2) (xs := slotCells y) rfl hu2 rfl ⟨rfl, rfl, trivial⟩ rfl rfl rfl (by omega) (by omega) rfl rfl) ?_
                  rintro _ _ ⟨u3, K3, hu3, rfl, rfl⟩
                  refine Ops.app ?_
                  refine Ops.pv (pv_assign rfl) rfl ?_
                  refine Ops.nil ?_
                  refine Ends.block_normal ?_
                  refine Ends.seq ?_
                  refine Wp.region ?_
                  refine Ops.pv (pv_move rfl) rfl ?_
                  first | refine Ops.pv (pv_add rfl rfl (w64 (by omega) (by omega))) rfl ?_ | refine Ops.pv (pv_add rfl rfl rfl) rfl ?_
                  refine Ops.pv (pv_assign rfl) rfl ?_
                  refine Ops.nil ?_
                  refine Ends.goes ?_
                  have hyd : decide (y ≠ sl) = true := decide_eq_true (by assumption)
                  refine Goes.back (hK1 (m + 1, u3, K3) ⟨by dsimp only; omega, ?_⟩ (by dsimp only; omega)) ⟨rfl, rfl, rfl, rfl, rfl, rfl, rfl, rfl, trivial⟩
                  dsimp only; rw [List.take_add_one, hy, List.filter_append, List.length_append, slotsCells_app, show (some y).toList.filter (fun y => decide (y ≠ sl)) = [y] by simp [hyd]; simpa using hyd]; exact hu3
                · refine Wp.skip ?_
                  refine Ends.block_normal ?_
                  refine Ends.seq ?_
                  refine Wp.region ?_
                  refine Ops.pv (pv_move rfl) rfl ?_
                  first | refine Ops.pv (pv_add rfl rfl (w64 (by omega) (by omega))) rfl ?_ | refine Ops.pv (pv_add rfl rfl rfl) rfl ?_
                  refine Ops.pv (pv_assign rfl) rfl ?_
                  refine Ops.nil ?_
                  refine Ends.goes ?_
                  have hyd : decide (y ≠ sl) = false := decide_eq_false (by assumption)
                  refine Goes.back (hK1 (m + 1, u2, K2) ⟨by dsimp only; omega, ?_⟩ (by dsimp only; omega)) ⟨rfl, rfl, rfl, rfl, rfl, rfl, rfl, rfl, trivial⟩
                  dsimp only; rw [List.take_add_one, hy, List.filter_append, show (some y).toList.filter (fun y => decide (y ≠ sl)) = [] by simp; simpa using hyd, List.append_nil]; exact hu2
              · obtain rfl : m = (ftKin F0 z).length := by omega
                rw [List.take_length] at hu2
                refine Wp.exit ?_
                refine Ends.then_exit ?_
                refine Ends.then_exit ?_
                refine Ends.block_hit ?_
                refine Ends.seq ?_
                refine Wp.seq ?_
                refine Wp.region ?_
                refine Ops.pv (pv_move rfl) rfl ?_
                refine Ops.pv (pv_move rfl) rfl ?_
                refine Ops.pv (pv_move rfl) rfl ?_
                refine Ops.pv (pv_indexAddr (i := j) rfl rfl rfl (by omega)) rfl ?_
                refine Ops.pv (pv_loadK [.int .i64 z.1, .int .i64 z.2] rfl rfl rfl hrez) rfl ?_
                refine Ops.ef rfl (ef_call (tr_fKin hT5 (by omega) z) rfl rfl) ?_
                rintro _ _ ⟨_, _, ⟨C3, hc3, rfl⟩, rfl, rfl⟩
                refine Ops.app ?_
                obtain ⟨pp3, qq3, rfl⟩ := hc3.form
                obtain ⟨pp3, qq3, rfl⟩ := hu2.form
                refine Ops.pv (pv_move rfl) rfl ?_
                refine Ops.ef rfl (ef_callr ((tr_sameSlots (C3 ++ K2) _ _ _ _ (ftKin (F0.drop sl) z) ((ftKin F0 z).filter fun y => decide (y ≠ sl)) (hc3.view.mono (by intro p hp; simp [hp])) (hu2.view.mono (by intro p hp; simp [hp])) (by have := ftKin_len (F0.drop sl) z; omega)).eq (r' := .bool true) (congrArg Value.bool (decide_eq_true (Fo.kin_drop hT.nd hzs)))) rfl rfl) ?_
                rintro _ _ ⟨rfl, rfl⟩
                first | refine Ops.pv (pv_not_dec rfl) rfl ?_ | refine Ops.pv (pv_not rfl) rfl ?_
                refine Ops.nil ?_
                refine Ends.seq ?_
                refine Wp.cond_false rfl ?_
                refine Wp.skip ?_
                refine Ends.block_normal ?_
                refine Ends.seq ?_
                refine Wp.region ?_
                refine Ops.pv (pv_move rfl) rfl ?_
                first | refine Ops.pv (pv_add rfl rfl (w64 (by omega) (by omega))) rfl ?_ | refine Ops.pv (pv_add rfl rfl rfl) rfl ?_
                refine Ops.pv (pv_assign rfl) rfl ?_
                refine Ops.nil ?_
                refine Ends.goes ?_
                refine Goes.back (hK (j + 1) (by omega) (by omega)) ⟨rfl, rfl, rfl, rfl, rfl, trivial⟩
          · refine Wp.exit ?_
            refine Ends.then_exit ?_
            refine Ends.then_exit ?_
            refine Ends.block_hit ?_
            refine Ends.seq ?_
            refine Wp.seq ?_
            refine Wp.region ?_
            refine Ops.pv (pv_assign rfl) rfl ?_
            refine Ops.nil ?_
            refine Ends.seq ?_
            refine Wp.ret ?_
            exact Ends.ret (res1 rfl rfl) ⟨rfl, rfl⟩

end Go.Proofs.Ytpoamckpdpkpoaa
