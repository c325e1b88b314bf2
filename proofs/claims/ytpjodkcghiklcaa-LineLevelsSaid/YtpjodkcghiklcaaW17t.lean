/- Walks of LineOrder, LineQueue, LineLevels: each returns true, whatever the input. No condition. -/
import Derived.Test.YtpjodkcghiklcaaM17t
set_option linter.unusedVariables false
set_option linter.unusedSimpArgs false
namespace Go.Proofs.Ytpjodkcghiklcaa
open Go.SL

set_option maxHeartbeats 4000000 in
theorem tr_lineOrder (G : Hp) (a : Option Addr) (c : Nat) (ops : List OpL) (ha : ArgS G 3 a (ops.map OpL.cells)) (hol : ops.length ≤ maxLen) : TrR Try.prog 4 [.slice a ops.length c] (G) (.bool true) := by
  refine Tr.enter Try.func4 rfl Try.ntmps4 rfl (fun W F => ?_)
  refine Wp.app ?_
  refine Wp.seq ?_
  refine Wp.region ?_
  refine Ops.pv (pv_assign rfl) rfl ?_
  refine Ops.nil ?_
  refine Ends.seq ?_
  refine Wp.seq ?_
  refine Wp.seq ?_
  refine Wp.region ?_
  refine Ops.ef rfl (ef_callr (tr_works17) rfl rfl) ?_
  rintro _ _ ⟨rfl, rfl⟩
  first | refine Ops.pv (pv_not_dec rfl) rfl ?_ | refine Ops.pv (pv_not rfl) rfl ?_
  refine Ops.nil ?_
  refine Ends.seq ?_
  refine Wp.cond_false rfl ?_
  refine Wp.skip ?_
  refine Ends.seq ?_
  refine Wp.seq ?_
  refine Wp.region ?_
  refine Ops.ef rfl (ef_call (tr_newReady) rfl rfl) ?_
  rintro _ _ ⟨_, _, ⟨rb1, rfl, hA1⟩, rfl, rfl⟩
  refine Ops.app ?_
  refine Ops.pv (pv_assign rfl) rfl ?_
  refine Ops.nil ?_
  refine Ends.seq ?_
  refine Wp.seq ?_
  refine Wp.region ?_
  refine Ops.pv (pv_assign rfl) rfl ?_
  refine Ops.nil ?_
  refine Ends.seq ?_
  refine Wp.seq ?_
  refine Wp.seq ?_
  refine Wp.region ?_
  refine Ops.pv (pv_assign rfl) rfl ?_
  refine Ops.nil ?_
  refine Ends.seq ?_
  refine Wp.block ?_
  refine Wp.loopK (σ := Nat × Ones × Hp × Value × Hp) [(0, _), (3, _)] (fun s => [(4, s.2.2.2.1), (5, .int .i64 s.1)]) (fun s => s.2.2.1 ++ (s.2.2.2.2 ++ (G ++ F))) (fun s => s.2.1.length ≤ s.1 ∧ s.1 ≤ 60 ∧ RdyW s.2.1 ∧ RdyH s.2.1 rb1 s.2.2.1 ∧ Slc 45 2 s.2.2.2.1 s.2.1.length (cel oneC s.2.1) s.2.2.2.2) (fun s => ops.length - s.1) (0, [], _, .slice none 0 0, []) ⟨Nat.le_refl _, Nat.zero_le _, RdyW.nil, hA1, Slc.nil _ _⟩ ⟨rfl, rfl, trivial⟩ ⟨rfl, rfl, trivial⟩ (by intro w ho; (try dsimp only [List.nil_append, List.cons_append]); exact Drop.own ho) ?_
  rintro ⟨i, L, H, v, K⟩ KK ⟨hll, hi, hW, hA, hs⟩ hK
  dsimp only [List.cons_append, List.nil_append] at hK ⊢
  dsimp only at hll hi hW hA hs ⊢
  refine Wp.seq ?_
  refine Wp.seq ?_
  refine Wp.region ?_
  refine Ops.pv (pv_move rfl) rfl ?_
  refine Ops.pv (pv_move rfl) rfl ?_
  refine Ops.pv (pv_len_slice (T := 22) rfl rfl) rfl ?_
  refine Ops.pv (pv_lss rfl rfl) rfl ?_
  refine Ops.pv (pv_move rfl) rfl ?_
  refine Ops.pvc rfl rfl (fun hg => pv_move rfl) rfl ?_
  refine Ops.pvc rfl rfl (fun hg => Pv.setE (t := 20) rfl (cv_pos hg) (pv_lss rfl rfl)) rfl ?_
  refine Ops.pv (pv_pick_and rfl rfl) rfl ?_
  refine Ops.nil ?_
  refine Ends.seq ?_
  first | refine Wp.cond_dect rfl (fun h1 => ?_) (fun h1 => ?_) | refine Wp.cond_t rfl (fun h1 => ?_) (fun h1 => ?_)
  · obtain ⟨x, hq⟩ : ∃ x, ops[i]? = some x := ⟨_, List.getElem?_eq_getElem (by omega)⟩
    obtain ⟨_, b, o, cc, T, f, rfl, hm, hr⟩ := ha i x.cells (by rw [List.getElem?_map, hq]; rfl)
    have hbg : Blk G b (.cells cc.toArray T f) := ⟨hm⟩
    obtain ⟨r0, r1, r2, _⟩ := hr
    have hb1 := putR_len L x.id x.level
    refine Wp.skip ?_
    refine Ends.seq ?_
    refine Wp.seq ?_
    refine Wp.block ?_
    refine Wp.seq ?_
    refine AnyH.start G 13 rfl ?_
    refine AnyH.take 0 rfl (by kernel_rfl) (by kernel_rfl) (by kernel_rfl) PF.pf rfl (pv_move rfl) rfl ?_
    refine AnyH.take 1 rfl (by kernel_rfl) (by kernel_rfl) (by kernel_rfl) PF.pf rfl (pv_move rfl) rfl ?_
    refine AnyH.take 2 rfl (by kernel_rfl) (by kernel_rfl) (by kernel_rfl) PF.pf rfl (pv_move rfl) rfl ?_
    refine AnyH.take 3 rfl (by kernel_rfl) (by kernel_rfl) (by kernel_rfl) PF.pf rfl (pv_indexAddr rfl rfl rfl (by omega)) rfl ?_
    first | refine AnyH.take 4 rfl (by kernel_rfl) (by kernel_rfl) (by kernel_rfl) PF.pf rfl (pv_fieldAddr0 rfl rfl) rfl ?_ | refine AnyH.take 4 rfl (by kernel_rfl) (by kernel_rfl) (by kernel_rfl) PF.pf rfl (pv_fieldAddr rfl rfl) rfl ?_
    first | refine AnyH.take 5 rfl (by kernel_rfl) (by kernel_rfl) (by kernel_rfl) PF.pf rfl (pv_load rfl rfl rfl) rfl ?_ | refine AnyH.take 5 rfl (by kernel_rfl) (by kernel_rfl) (by kernel_rfl) PF.pf rfl (pv_load rfl rfl (by assumption)) rfl ?_
    refine AnyH.take 6 rfl (by kernel_rfl) (by kernel_rfl) (by kernel_rfl) PF.pf rfl (pv_move rfl) rfl ?_
    refine AnyH.take 7 rfl (by kernel_rfl) (by kernel_rfl) (by kernel_rfl) PF.pf rfl (pv_move rfl) rfl ?_
    refine AnyH.take 8 rfl (by kernel_rfl) (by kernel_rfl) (by kernel_rfl) PF.pf rfl (pv_indexAddr rfl rfl rfl (by omega)) rfl ?_
    first | refine AnyH.take 9 rfl (by kernel_rfl) (by kernel_rfl) (by kernel_rfl) PF.pf rfl (pv_fieldAddr0 rfl rfl) rfl ?_ | refine AnyH.take 9 rfl (by kernel_rfl) (by kernel_rfl) (by kernel_rfl) PF.pf rfl (pv_fieldAddr rfl rfl) rfl ?_
    first | refine AnyH.take 10 rfl (by kernel_rfl) (by kernel_rfl) (by kernel_rfl) PF.pf rfl (pv_load rfl rfl rfl) rfl ?_ | refine AnyH.take 10 rfl (by kernel_rfl) (by kernel_rfl) (by kernel_rfl) PF.pf rfl (pv_load rfl rfl (by assumption)) rfl ?_
    refine AnyH.one 11 (by kernel_rfl) ?_
    refine Turn.ef rfl rfl (ef_call (tr_rdyPut _ _ L hA hW (by omega) x.id x.level) rfl rfl) ?_ ?_
    · rintro _ _ ⟨_, _, ⟨rfl, hA2⟩, rfl, rfl⟩; infer_instance
    rintro _ _ ⟨_, _, ⟨rfl, hA2⟩, rfl, rfl⟩
    refine AnyH.app ?_
    refine AnyH.take 12 rfl (by kernel_rfl) (by kernel_rfl) (by kernel_rfl) PF.pf rfl (pv_eql rfl rfl) rfl ?_
    refine AnyH.done (by kernel_rfl) ?_
    refine Ends.seq ?_
    first | refine Wp.cond_dect rfl (fun h2 => ?_) (fun h2 => ?_) | refine Wp.cond_t rfl (fun h2 => ?_) (fun h2 => ?_)
    · refine AnyH.start G 15 rfl ?_
      refine AnyH.take 0 rfl (by kernel_rfl) (by kernel_rfl) (by kernel_rfl) PF.pf rfl (pv_move rfl) rfl ?_
      refine AnyH.take 1 rfl (by kernel_rfl) (by kernel_rfl) (by kernel_rfl) PF.pf rfl (pv_move rfl) rfl ?_
      refine AnyH.take 2 rfl (by kernel_rfl) (by kernel_rfl) (by kernel_rfl) PF.pf rfl (pv_move rfl) rfl ?_
      refine AnyH.take 3 rfl (by kernel_rfl) (by kernel_rfl) (by kernel_rfl) PF.pf rfl (pv_indexAddr rfl rfl rfl (by omega)) rfl ?_
      first | refine AnyH.take 4 rfl (by kernel_rfl) (by kernel_rfl) (by kernel_rfl) PF.pf rfl (pv_fieldAddr0 rfl rfl) rfl ?_ | refine AnyH.take 4 rfl (by kernel_rfl) (by kernel_rfl) (by kernel_rfl) PF.pf rfl (pv_fieldAddr rfl rfl) rfl ?_
      first | refine AnyH.take 5 rfl (by kernel_rfl) (by kernel_rfl) (by kernel_rfl) PF.pf rfl (pv_load rfl rfl rfl) rfl ?_ | refine AnyH.take 5 rfl (by kernel_rfl) (by kernel_rfl) (by kernel_rfl) PF.pf rfl (pv_load rfl rfl (by assumption)) rfl ?_
      refine AnyH.take 6 rfl (by kernel_rfl) (by kernel_rfl) (by kernel_rfl) PF.pf rfl (pv_move rfl) rfl ?_
      refine AnyH.take 7 rfl (by kernel_rfl) (by kernel_rfl) (by kernel_rfl) PF.pf rfl (pv_move rfl) rfl ?_
      refine AnyH.take 8 rfl (by kernel_rfl) (by kernel_rfl) (by kernel_rfl) PF.pf rfl (pv_indexAddr rfl rfl rfl (by omega)) rfl ?_
      first | refine AnyH.take 9 rfl (by kernel_rfl) (by kernel_rfl) (by kernel_rfl) PF.pf rfl (pv_fieldAddr0 rfl rfl) rfl ?_ | refine AnyH.take 9 rfl (by kernel_rfl) (by kernel_rfl) (by kernel_rfl) PF.pf rfl (pv_fieldAddr rfl rfl) rfl ?_
      first | refine AnyH.take 10 rfl (by kernel_rfl) (by kernel_rfl) (by kernel_rfl) PF.pf rfl (pv_load rfl rfl rfl) rfl ?_ | refine AnyH.take 10 rfl (by kernel_rfl) (by kernel_rfl) (by kernel_rfl) PF.pf rfl (pv_load rfl rfl (by assumption)) rfl ?_
      refine AnyH.take 11 rfl (by kernel_rfl) (by kernel_rfl) (by kernel_rfl) PF.pf rfl (pv_build rfl) rfl ?_
      refine AnyH.one 12 (by kernel_rfl) ?_
      refine Turn.ef rfl rfl (ef_buildSlice1 (k := 2) rfl rfl rfl rfl rfl) ?_ ?_
      · rintro _ _ ⟨b1, rfl, rfl⟩; infer_instance
      rintro _ _ ⟨b1, rfl, rfl⟩
      refine AnyH.one 13 (by kernel_rfl) ?_
      refine Turn.ef rfl rfl (ef_append (H := K) (xs := [.int .i64 x.id, .int .i64 x.level]) rfl hs rfl ⟨rfl, rfl, trivial⟩ rfl rfl rfl (by omega) (by omega) rfl rfl) ?_ ?_
      · rintro _ _ ⟨v1, H1, hs1, rfl, rfl⟩; infer_instance
      rintro _ _ ⟨v1, H1, hs1, rfl, rfl⟩
      refine AnyH.app ?_
      skip
      refine AnyH.take 14 rfl (by kernel_rfl) (by kernel_rfl) (by kernel_rfl) PF.pf rfl (pv_assign rfl) rfl ?_
      refine AnyH.done (by kernel_rfl) ?_
      refine Ends.block_normal ?_
      refine Ends.seq ?_
      refine Wp.region ?_
      refine Ops.pv (pv_move rfl) rfl ?_
      first | refine Ops.pv (pv_add rfl rfl (w64 (by omega) (by omega))) rfl ?_ | refine Ops.pv (pv_add rfl rfl rfl) rfl ?_
      refine Ops.pv (pv_assign rfl) rfl ?_
      refine Ops.nil ?_
      refine Ends.goes ?_
      refine Goes.back (hK (i + 1, putR L x.id x.level, _, v1, H1) ⟨by dsimp only; omega, by dsimp only; omega, hW.put _ _, hA2, ?_⟩ (by dsimp only; omega)) ⟨rfl, rfl, rfl, rfl, trivial⟩
      dsimp only; rw [putR_ok (by assumption), List.length_append, cel_app]; exact hs1
    · refine Wp.skip ?_
      refine Ends.block_normal ?_
      refine Ends.seq ?_
      refine Wp.region ?_
      refine Ops.pv (pv_move rfl) rfl ?_
      first | refine Ops.pv (pv_add rfl rfl (w64 (by omega) (by omega))) rfl ?_ | refine Ops.pv (pv_add rfl rfl rfl) rfl ?_
      refine Ops.pv (pv_assign rfl) rfl ?_
      refine Ops.nil ?_
      refine Ends.goes ?_
      have hpe : putR L x.id x.level = L := if_neg (by assumption)
      refine Goes.back (hK (i + 1, putR L x.id x.level, _, v, K) ⟨by dsimp only; omega, by dsimp only; omega, hW.put _ _, hA2, ?_⟩ (by dsimp only; omega)) ⟨rfl, rfl, rfl, rfl, trivial⟩
      dsimp only; rw [hpe]; exact hs
  · refine Wp.exit ?_
    refine Ends.then_exit ?_
    refine Ends.then_exit ?_
    refine Ends.block_hit ?_
    refine Ends.seq ?_
    refine Wp.seq ?_
    refine Wp.block ?_
    refine Wp.loopK (σ := Ones × Hp × Value × Hp) [(3, _)] (fun s => [(4, s.2.2.1)]) (fun s => s.2.1 ++ (s.2.2.2 ++ (G ++ F))) (fun s => s.1.length ≤ 60 ∧ RdyW s.1 ∧ RdyH s.1 rb1 s.2.1 ∧ Slc 45 2 s.2.2.1 s.1.length (cel oneC s.1) s.2.2.2) (fun s => s.1.length) (L, H, v, K) ⟨by dsimp only; omega, hW, hA, hs⟩ ⟨rfl, trivial⟩ ⟨rfl, trivial⟩ (by intro w ho; (try dsimp only [List.nil_append, List.cons_append]); exact Drop.own ho) ?_
    rintro ⟨L, H, v, K⟩ KK ⟨hl6, hW, hA, hs⟩ hK
    dsimp only [List.cons_append, List.nil_append] at hK ⊢
    dsimp only at hl6 hW hA hs ⊢
    obtain ⟨pa, pc, rfl⟩ := hs.form
    have hv := hs.view
    have hcp : L.length ≤ pc := by obtain ⟨_, _, _, e, h, _⟩ := hv; cases e; exact h
    refine Wp.seq ?_
    refine Wp.seq ?_
    refine Wp.region ?_
    refine Ops.pv (pv_move rfl) rfl ?_
    refine Ops.pv (pv_len_slice (T := 42) rfl rfl) rfl ?_
    refine Ops.pv (pv_gtr rfl rfl) rfl ?_
    refine Ops.nil ?_
    refine Ends.seq ?_
    first | refine Wp.cond_dect rfl (fun h3 => ?_) (fun h3 => ?_) | refine Wp.cond_t rfl (fun h3 => ?_) (fun h3 => ?_)
    · refine Wp.skip ?_
      refine Ends.seq ?_
      refine Wp.block ?_
      refine Wp.seq ?_
      refine Wp.region ?_
      refine Ops.pv (pv_assign rfl) rfl ?_
      refine Ops.nil ?_
      refine Ends.seq ?_
      refine Wp.seq ?_
      refine Wp.seq ?_
      refine Wp.region ?_
      refine Ops.pv (pv_assign rfl) rfl ?_
      refine Ops.nil ?_
      refine Ends.seq ?_
      refine Wp.block ?_
      refine Wp.loopK (σ := Nat × Nat) [(3, _), (4, _)] (fun s => [(6, .int .i64 s.1), (7, .int .i64 s.2)]) (fun s => H ++ (K ++ (G ++ F))) (fun s => s.1 < s.2 ∧ s.2 ≤ L.length ∧ (∀ j, j < s.2 → lv L j ≤ lv L s.1) ∧ ∀ j, j < s.1 → lv L j < lv L s.1) (fun s => L.length - s.2) (0, 1) ⟨Nat.zero_lt_one, by dsimp only; omega, fun j hj => by (dsimp only at hj ⊢; obtain rfl : j = 0 := (by omega); exact Int.le_refl _), fun j hj => absurd hj (Nat.not_lt_zero j)⟩ ⟨rfl, rfl, trivial⟩ ⟨rfl, rfl, trivial⟩ (by intro w ho; (try dsimp only [List.nil_append, List.cons_append]); exact Drop.own ho) ?_
      rintro ⟨k, i⟩ KK ⟨hki, hi, hm1, hm2⟩ hK1
      dsimp only [List.cons_append, List.nil_append] at hK1 ⊢
      dsimp only at hki hi hm1 hm2 ⊢
      refine Wp.seq ?_
      refine Wp.seq ?_
      refine Wp.region ?_
      refine Ops.pv (pv_move rfl) rfl ?_
      refine Ops.pv (pv_move rfl) rfl ?_
      refine Ops.pv (pv_len_slice (T := 42) rfl rfl) rfl ?_
      refine Ops.pv (pv_lss rfl rfl) rfl ?_
      refine Ops.nil ?_
      refine Ends.seq ?_
      first | refine Wp.cond_dect rfl (fun h4 => ?_) (fun h4 => ?_) | refine Wp.cond_t rfl (fun h4 => ?_) (fun h4 => ?_)
      · obtain ⟨b, o, cap, cc, T, f, hv1, hbv, hr⟩ := hv.open (by omega)
        cases hv1
        obtain ⟨e, he⟩ : ∃ e, L[i]? = some e := ⟨_, List.getElem?_eq_getElem (by omega)⟩
        obtain ⟨e0, e1⟩ := one_read hr he
        obtain ⟨d, hd⟩ : ∃ e, L[k]? = some e := ⟨_, List.getElem?_eq_getElem (by omega)⟩
        obtain ⟨d0, d1⟩ := one_read hr hd
        refine Wp.skip ?_
        refine Ends.seq ?_
        refine Wp.seq ?_
        refine Wp.block ?_
        refine Wp.seq ?_
        refine AnyH.start K 11 rfl ?_
        refine AnyH.take 0 rfl (by kernel_rfl) (by kernel_rfl) (by kernel_rfl) PF.pf rfl (pv_move rfl) rfl ?_
        refine AnyH.take 1 rfl (by kernel_rfl) (by kernel_rfl) (by kernel_rfl) PF.pf rfl (pv_move rfl) rfl ?_
        refine AnyH.take 2 rfl (by kernel_rfl) (by kernel_rfl) (by kernel_rfl) PF.pf rfl (pv_indexAddr (i := i) rfl rfl rfl (by omega)) rfl ?_
        first | refine AnyH.take 3 rfl (by kernel_rfl) (by kernel_rfl) (by kernel_rfl) PF.pf rfl (pv_fieldAddr0 rfl rfl) rfl ?_ | refine AnyH.take 3 rfl (by kernel_rfl) (by kernel_rfl) (by kernel_rfl) PF.pf rfl (pv_fieldAddr rfl rfl) rfl ?_
        refine AnyH.take 4 rfl (by kernel_rfl) (by kernel_rfl) (by kernel_rfl) PF.pf rfl (pv_load rfl rfl e1) rfl ?_
        refine AnyH.take 5 rfl (by kernel_rfl) (by kernel_rfl) (by kernel_rfl) PF.pf rfl (pv_move rfl) rfl ?_
        refine AnyH.take 6 rfl (by kernel_rfl) (by kernel_rfl) (by kernel_rfl) PF.pf rfl (pv_move rfl) rfl ?_
        refine AnyH.take 7 rfl (by kernel_rfl) (by kernel_rfl) (by kernel_rfl) PF.pf rfl (pv_indexAddr (i := k) rfl rfl rfl (by omega)) rfl ?_
        first | refine AnyH.take 8 rfl (by kernel_rfl) (by kernel_rfl) (by kernel_rfl) PF.pf rfl (pv_fieldAddr0 rfl rfl) rfl ?_ | refine AnyH.take 8 rfl (by kernel_rfl) (by kernel_rfl) (by kernel_rfl) PF.pf rfl (pv_fieldAddr rfl rfl) rfl ?_
        refine AnyH.take 9 rfl (by kernel_rfl) (by kernel_rfl) (by kernel_rfl) PF.pf rfl (pv_load rfl rfl d1) rfl ?_
        refine AnyH.take 10 rfl (by kernel_rfl) (by kernel_rfl) (by kernel_rfl) PF.pf rfl (pv_gtr rfl rfl) rfl ?_
        refine AnyH.done (by kernel_rfl) ?_
        refine Ends.seq ?_
        first | refine Wp.cond_dect rfl (fun h5 => ?_) (fun h5 => ?_) | refine Wp.cond_t rfl (fun h5 => ?_) (fun h5 => ?_)
        · refine Wp.region ?_
          refine Ops.pv (pv_move rfl) rfl ?_
          refine Ops.pv (pv_assign rfl) rfl ?_
          refine Ops.nil ?_
          refine Ends.block_normal ?_
          refine Ends.seq ?_
          refine Wp.region ?_
          refine Ops.pv (pv_move rfl) rfl ?_
          first | refine Ops.pv (pv_add rfl rfl (w64 (by omega) (by omega))) rfl ?_ | refine Ops.pv (pv_add rfl rfl rfl) rfl ?_
          refine Ops.pv (pv_assign rfl) rfl ?_
          refine Ops.nil ?_
          refine Ends.goes ?_
          have g1 := lv_some he
          have g2 := lv_some hd
          refine Goes.back (hK1 (i, i + 1) ⟨by dsimp only; omega, by dsimp only; omega, fun j hj => ?_, fun j hj => ?_⟩ (by dsimp only; omega)) ⟨rfl, rfl, rfl, rfl, trivial⟩
          · dsimp only at hj ⊢; by_cases e : j = i
            · subst e; exact Int.le_refl _
            · have := hm1 j (by omega); omega
          · dsimp only at hj ⊢; have := hm1 j (by omega); omega
        · refine Wp.skip ?_
          refine Ends.block_normal ?_
          refine Ends.seq ?_
          refine Wp.region ?_
          refine Ops.pv (pv_move rfl) rfl ?_
          first | refine Ops.pv (pv_add rfl rfl (w64 (by omega) (by omega))) rfl ?_ | refine Ops.pv (pv_add rfl rfl rfl) rfl ?_
          refine Ops.pv (pv_assign rfl) rfl ?_
          refine Ops.nil ?_
          refine Ends.goes ?_
          have g1 := lv_some he
          have g2 := lv_some hd
          refine Goes.back (hK1 (k, i + 1) ⟨by dsimp only; omega, by dsimp only; omega, fun j hj => ?_, hm2⟩ (by dsimp only; omega)) ⟨rfl, rfl, rfl, rfl, trivial⟩
          dsimp only at hj ⊢; by_cases e : j = i
          · subst e; omega
          · exact hm1 j (by omega)
      · refine Wp.exit ?_
        refine Ends.then_exit ?_
        refine Ends.then_exit ?_
        refine Ends.block_hit ?_
        refine Ends.seq ?_
        refine Wp.seq ?_
        refine Wp.region ?_
        have hil : i = L.length := by omega
        obtain ⟨b, o, cap, cc, T, f, hv1, hbv, hr⟩ := hv.open (by omega)
        cases hv1
        obtain ⟨⟨x, lev⟩, hd⟩ : ∃ e, L[k]? = some e := ⟨_, List.getElem?_eq_getElem (by omega)⟩
        have hlev := hW.lev _ (List.mem_of_getElem? hd)
        obtain ⟨q, rfl⟩ : ∃ n : Nat, lev = n := ⟨lev.toNat, by simp only at hlev; omega⟩
        obtain ⟨d0, d1⟩ := one_read hr hd
        subst hil
        obtain ⟨f1, f2, f3, f4, f5, f6, f7⟩ := first_max hW hd hm1 hm2
        have hA2 := hv.part (f := oneC) (i := 0) (j := k) (Nat.zero_le _) (by omega)
        have hB2 := hv.part (f := oneC) (i := k + 1) (j := L.length) (by omega) (Nat.le_refl _)
        have eA : (L.drop 0).take (k - 0) = L.take k := by simp
        have eB : (L.drop (k + 1)).take (L.length - (k + 1)) = L.drop (k + 1) := List.take_of_length_le (by simp)
        have lA := plen (l := L) (i := 0) (j := k) (Nat.zero_le _) (by omega)
        have lB := plen (l := L) (i := k + 1) (j := L.length) (by omega) (Nat.le_refl _)
        rw [eA] at hA2 lA
        rw [eB] at hB2 lB
        refine Ops.pv (pv_move rfl) rfl ?_
        refine Ops.ef rfl (ef_callr ((tr_rdyNext _ _ L hA hW (by omega)).eq (by rw [f2, f3])) rfl rfl) ?_
        rintro _ _ ⟨rfl, rfl⟩
        refine Ops.pv (pv_move rfl) rfl ?_
        refine Ops.pv (pv_extract rfl rfl) rfl ?_
        refine Ops.pv (pv_extract rfl rfl) rfl ?_
        refine Ops.pv (pv_assign rfl) rfl ?_
        refine Ops.pv (pv_assign rfl) rfl ?_
        refine Ops.nil ?_
        refine Ends.seq ?_
        refine Wp.seq ?_
        refine Wp.seq ?_
        refine AnyH.start K 28 rfl ?_
        refine AnyH.take 0 rfl (by kernel_rfl) (by kernel_rfl) (by kernel_rfl) PF.pf rfl (pv_move rfl) rfl ?_
        first | refine AnyH.take 1 rfl (by kernel_rfl) (by kernel_rfl) (by kernel_rfl) PF.pf rfl (pv_not_dec rfl) rfl ?_ | refine AnyH.take 1 rfl (by kernel_rfl) (by kernel_rfl) (by kernel_rfl) PF.pf rfl (pv_not rfl) rfl ?_
        refine AnyH.take 2 rfl (by kernel_rfl) (by kernel_rfl) (by kernel_rfl) PF.pf rfl (pv_move rfl) rfl ?_
        refine AnyH.take 3 rfl (by kernel_rfl) (by kernel_rfl) (by kernel_rfl) PF.pf ⟨_, _, rfl, rfl, rfl⟩ (pv_move rfl) rfl ?_
        refine AnyH.take 4 rfl (by kernel_rfl) (by kernel_rfl) (by kernel_rfl) PF.pf ⟨_, _, rfl, rfl, rfl⟩ (pv_move rfl) rfl ?_
        refine AnyH.take 5 rfl (by kernel_rfl) (by kernel_rfl) (by kernel_rfl) PF.pf ⟨_, _, rfl, rfl, rfl⟩ (pv_move rfl) rfl ?_
        refine AnyH.take 6 rfl (by kernel_rfl) (by kernel_rfl) (by kernel_rfl) PF.pf ⟨_, _, rfl, rfl, rfl⟩ (pv_indexAddr (i := k) rfl rfl rfl (by omega)) rfl ?_
        first | refine AnyH.take 7 rfl (by kernel_rfl) (by kernel_rfl) (by kernel_rfl) PF.pf ⟨_, _, rfl, rfl, rfl⟩ (pv_fieldAddr0 rfl rfl) rfl ?_ | refine AnyH.take 7 rfl (by kernel_rfl) (by kernel_rfl) (by kernel_rfl) PF.pf ⟨_, _, rfl, rfl, rfl⟩ (pv_fieldAddr rfl rfl) rfl ?_
        refine AnyH.take 8 rfl (by kernel_rfl) (by kernel_rfl) (by kernel_rfl) PF.pf ⟨_, _, rfl, rfl, rfl⟩ (pv_load rfl rfl d0) rfl ?_
        refine AnyH.take 9 rfl (by kernel_rfl) (by kernel_rfl) (by kernel_rfl) PF.pf ⟨_, _, rfl, rfl, rfl⟩ ((pv_neq rfl rfl).fls (by first | exact fun h => h rfl | decide | omega | assumption)) rfl ?_
        refine AnyH.take 10 rfl (by kernel_rfl) (by kernel_rfl) (by kernel_rfl) PF.pf rfl (pv_pick_false rfl rfl) rfl ?_
        refine AnyH.take 11 rfl (by kernel_rfl) (by kernel_rfl) (by kernel_rfl) PF.pf rfl (pv_move rfl) rfl ?_
        refine AnyH.take 12 rfl (by kernel_rfl) (by kernel_rfl) (by kernel_rfl) PF.pf ⟨_, _, rfl, rfl, rfl⟩ (pv_move rfl) rfl ?_
        refine AnyH.take 14 rfl (by kernel_rfl) (by kernel_rfl) (by kernel_rfl) PF.pf ⟨_, _, rfl, rfl, rfl⟩ (pv_move rfl) rfl ?_
        refine AnyH.take 15 rfl (by kernel_rfl) (by kernel_rfl) (by kernel_rfl) PF.pf ⟨_, _, rfl, rfl, rfl⟩ (pv_move rfl) rfl ?_
        refine AnyH.take 16 rfl (by kernel_rfl) (by kernel_rfl) (by kernel_rfl) PF.pf ⟨_, _, rfl, rfl, rfl⟩ (pv_indexAddr (i := k) rfl rfl rfl (by omega)) rfl ?_
        first | refine AnyH.take 17 rfl (by kernel_rfl) (by kernel_rfl) (by kernel_rfl) PF.pf ⟨_, _, rfl, rfl, rfl⟩ (pv_fieldAddr0 rfl rfl) rfl ?_ | refine AnyH.take 17 rfl (by kernel_rfl) (by kernel_rfl) (by kernel_rfl) PF.pf ⟨_, _, rfl, rfl, rfl⟩ (pv_fieldAddr rfl rfl) rfl ?_
        refine AnyH.take 18 rfl (by kernel_rfl) (by kernel_rfl) (by kernel_rfl) PF.pf ⟨_, _, rfl, rfl, rfl⟩ (pv_load rfl rfl d1) rfl ?_
        refine AnyH.one 13 (by kernel_rfl) ?_
        refine Turn.ef rfl ⟨_, _, rfl, rfl, rfl⟩ (ef_callr (tr_rdyLevels _ _ L hA hW (by omega)) rfl rfl) ?_ ?_
        · rintro _ _ ⟨rfl, rfl⟩; infer_instance
        rintro _ _ ⟨rfl, rfl⟩
        refine AnyH.take 19 rfl (by kernel_rfl) (by kernel_rfl) (by kernel_rfl) PF.pf ⟨_, _, rfl, rfl, rfl⟩ ((pv_shr rfl rfl (by omega) (shrn (by omega))).is (u := .int .u64 1) (by rw [f4]; rfl)) rfl ?_
        refine AnyH.take 20 rfl (by kernel_rfl) (by kernel_rfl) (by kernel_rfl) PF.pf ⟨_, _, rfl, rfl, rfl⟩ ((pv_neq rfl rfl).fls (by first | exact fun h => h rfl | decide | omega | assumption)) rfl ?_
        refine AnyH.take 21 rfl (by kernel_rfl) (by kernel_rfl) (by kernel_rfl) PF.pf rfl (pv_pick_false rfl rfl) rfl ?_
        refine AnyH.take 22 rfl (by kernel_rfl) (by kernel_rfl) (by kernel_rfl) PF.pf rfl (pv_move rfl) rfl ?_
        refine AnyH.take 23 rfl (by kernel_rfl) (by kernel_rfl) (by kernel_rfl) PF.pf ⟨_, _, rfl, rfl, rfl⟩ (pv_move rfl) rfl ?_
        refine AnyH.take 24 rfl (by kernel_rfl) (by kernel_rfl) (by kernel_rfl) PF.pf ⟨_, _, rfl, rfl, rfl⟩ (pv_move rfl) rfl ?_
        refine AnyH.one 25 (by kernel_rfl) ?_
        refine Turn.ef rfl ⟨_, _, rfl, rfl, rfl⟩ (ef_call (tr_rdyDrop _ _ L hA hW (by omega) x) rfl rfl) ?_ ?_
        · rintro _ _ ⟨_, _, ⟨rfl, hA3⟩, rfl, rfl⟩; infer_instance
        rintro _ _ ⟨_, _, ⟨rfl, hA3⟩, rfl, rfl⟩
        refine AnyH.app ?_
        rw [f6]
        first | refine AnyH.take 26 rfl (by kernel_rfl) (by kernel_rfl) (by kernel_rfl) PF.pf ⟨_, _, rfl, rfl, rfl⟩ (pv_not_dec rfl) rfl ?_ | refine AnyH.take 26 rfl (by kernel_rfl) (by kernel_rfl) (by kernel_rfl) PF.pf ⟨_, _, rfl, rfl, rfl⟩ (pv_not rfl) rfl ?_
        refine AnyH.take 27 rfl (by kernel_rfl) (by kernel_rfl) (by kernel_rfl) PF.pf rfl (pv_pick_false rfl rfl) rfl ?_
        refine AnyH.done (by kernel_rfl) ?_
        refine Ends.seq ?_
        refine Wp.cond_false rfl ?_
        refine Wp.skip ?_
        refine Ends.seq ?_
        refine AnyH.start K 11 rfl ?_
        refine AnyH.take 1 rfl (by kernel_rfl) (by kernel_rfl) (by kernel_rfl) PF.pf rfl (pv_move rfl) rfl ?_
        refine AnyH.take 2 rfl (by kernel_rfl) (by kernel_rfl) (by kernel_rfl) PF.pf rfl (pv_move rfl) rfl ?_
        refine AnyH.take 3 rfl (by kernel_rfl) (by kernel_rfl) (by kernel_rfl) PF.pf rfl (pv_sliceL (i := 0) (j := k) rfl rfl ⟨_, rfl⟩ (Nat.zero_le _) (by omega) lA.symm) rfl ?_
        refine AnyH.take 5 rfl (by kernel_rfl) (by kernel_rfl) (by kernel_rfl) PF.pf rfl (pv_move rfl) rfl ?_
        refine AnyH.take 6 rfl (by kernel_rfl) (by kernel_rfl) (by kernel_rfl) PF.pf rfl (pv_move rfl) rfl ?_
        refine AnyH.take 7 rfl (by kernel_rfl) (by kernel_rfl) (by kernel_rfl) PF.pf rfl (pv_add rfl rfl (w64n (k := k + 1) (by omega) (by omega))) rfl ?_
        refine AnyH.take 8 rfl (by kernel_rfl) (by kernel_rfl) (by kernel_rfl) PF.pf rfl (pv_sliceL (i := k + 1) (j := L.length) rfl ⟨_, rfl⟩ rfl (by omega) hcp lB.symm) rfl ?_
        refine AnyH.one 0 (by kernel_rfl) ?_
        refine Turn.ef rfl rfl (ef_buildSlice0 rfl) ?_ ?_
        · rintro _ _ ⟨b2, rfl, rfl⟩; infer_instance
        rintro _ _ ⟨b2, rfl, rfl⟩
        refine AnyH.one 4 (by kernel_rfl) ?_
        refine Turn.ef rfl rfl (ef_appendV (H := [(b2, .cells ([] : List Value).toArray 45)]) rfl (slc_empty' 45 2 b2) rfl (hA2.mono (by intro p hp; simp [hp])) (cel_one _) (by omega) (by omega) rfl rfl) ?_ ?_
        · rintro _ _ ⟨v2, H2, hs2, rfl, rfl⟩; infer_instance
        rintro _ _ ⟨v2, H2, hs2, rfl, rfl⟩
        refine AnyH.app ?_
        skip
        refine AnyH.one 9 (by kernel_rfl) ?_
        refine Turn.ef rfl rfl (ef_appendV (H := H2) rfl hs2 rfl (hB2.mono (by intro p hp; simp [hp])) (cel_one _) (by omega) (by omega) rfl rfl) ?_ ?_
        · rintro _ _ ⟨v3, H3, hs3, rfl, rfl⟩; infer_instance
        rintro _ _ ⟨v3, H3, hs3, rfl, rfl⟩
        refine AnyH.app ?_
        skip
        refine AnyH.take 10 rfl (by kernel_rfl) (by kernel_rfl) (by kernel_rfl) PF.pf rfl (pv_assign rfl) rfl ?_
        refine AnyH.done (by kernel_rfl) ?_
        refine Ends.block_normal ?_
        refine Ends.goes ?_
        have hlen : (dropR L x).length < L.length := by rw [← f7]; simp; omega
        refine Goes.back (hK (dropR L x, _, v3, H3) ⟨by dsimp only; omega, hW.drop _, hA3, ?_⟩ (by dsimp only; omega)) ⟨rfl, rfl, trivial⟩
        dsimp only; rw [Nat.zero_add, List.nil_append, ← cel_app, ← List.length_append, f7] at hs3; exact hs3
    · refine Wp.exit ?_
      refine Ends.then_exit ?_
      refine Ends.then_exit ?_
      refine Ends.block_hit ?_
      refine Ends.seq ?_
      refine Wp.seq ?_
      refine Wp.region ?_
      obtain rfl : L = [] := List.eq_nil_of_length_eq_zero (by omega)
      refine Ops.pv (pv_move rfl) rfl ?_
      refine Ops.ef rfl (ef_callr ((tr_rdyNext _ _ [] hA hW (by decide)).eq (by rw [next_nil.1, next_nil.2.1])) rfl rfl) ?_
      rintro _ _ ⟨rfl, rfl⟩
      refine Ops.pv (pv_move rfl) rfl ?_
      refine Ops.pv (pv_extract rfl rfl) rfl ?_
      refine Ops.pv (pv_extract rfl rfl) rfl ?_
      refine Ops.pv (pv_assign rfl) rfl ?_
      refine Ops.pv (pv_assign rfl) rfl ?_
      refine Ops.nil ?_
      refine Ends.seq ?_
      refine Wp.seq ?_
      refine Wp.region ?_
      refine Ops.pv (pv_move rfl) rfl ?_
      first | refine Ops.pv (pv_not_dec rfl) rfl ?_ | refine Ops.pv (pv_not rfl) rfl ?_
      refine Ops.pv (pv_move rfl) rfl ?_
      refine Ops.pvg ⟨_, _, rfl, rfl, rfl⟩ (pv_move rfl) rfl ?_
      refine Ops.efg ⟨_, _, rfl, rfl, rfl⟩ (ef_callr ((tr_rdyLevels _ _ [] hA hW (by decide)).eq (by rw [next_nil.2.2])) rfl rfl) ?_
      rintro _ _ ⟨rfl, rfl⟩
      refine Ops.pvg ⟨_, _, rfl, rfl, rfl⟩ ((pv_eql rfl rfl).tru (by first | rfl | decide | omega | assumption)) rfl ?_
      refine Ops.pv (pv_pick_true rfl rfl) rfl ?_
      refine Ops.pv (pv_assign rfl) rfl ?_
      refine Ops.nil ?_
      refine Ends.seq ?_
      refine Wp.ret ?_
      exact Ends.ret (res1 rfl rfl) ⟨rfl, rfl⟩

set_option maxHeartbeats 4000000 in
theorem tr_lineQueue (G : Hp) (a : Option Addr) (c : Nat) (l : List Int) (ha : ArgS G 1 a (l.map fun x => [.int .i64 x])) (hol : l.length ≤ maxLen) (out : Int) : TrR Try.prog 6 [.slice a l.length c, .int .i64 out] (G) (.bool true) := by
  refine Tr.enter Try.func6 rfl Try.ntmps6 rfl (fun W F => ?_)
  refine Wp.app ?_
  refine Wp.seq ?_
  refine Wp.region ?_
  refine Ops.pv (pv_assign rfl) rfl ?_
  refine Ops.nil ?_
  refine Ends.seq ?_
  refine Wp.seq ?_
  refine Wp.seq ?_
  refine Wp.region ?_
  refine Ops.ef rfl (ef_callr (tr_works17) rfl rfl) ?_
  rintro _ _ ⟨rfl, rfl⟩
  first | refine Ops.pv (pv_not_dec rfl) rfl ?_ | refine Ops.pv (pv_not rfl) rfl ?_
  refine Ops.nil ?_
  refine Ends.seq ?_
  refine Wp.cond_false rfl ?_
  refine Wp.skip ?_
  refine Ends.seq ?_
  refine Wp.seq ?_
  refine Wp.region ?_
  refine Ops.ef rfl (ef_call (tr_lnew) rfl rfl) ?_
  rintro _ _ ⟨_, _, ⟨lb1, rfl, rfl⟩, rfl, rfl⟩
  refine Ops.app ?_
  refine Ops.pv (pv_assign rfl) rfl ?_
  refine Ops.nil ?_
  refine Ends.seq ?_
  refine Wp.seq ?_
  refine Wp.region ?_
  refine Ops.pv (pv_assign rfl) rfl ?_
  refine Ops.nil ?_
  refine Ends.seq ?_
  refine Wp.seq ?_
  refine Wp.seq ?_
  refine Wp.region ?_
  refine Ops.pv (pv_assign rfl) rfl ?_
  refine Ops.nil ?_
  refine Ends.seq ?_
  refine Wp.block ?_
  refine Wp.loopK (σ := Nat × List Int × Value × Hp × Value × Hp) [(0, _), (1, _), (5, _)] (fun s => [(6, s.2.2.2.2.1), (7, .int .i64 s.1)]) (fun s => (lb1, .cells [s.2.2.1].toArray 87) :: (s.2.2.2.1 ++ (s.2.2.2.2.2 ++ (G ++ F)))) (fun s => s.2.1.length ≤ s.1 ∧ s.1 ≤ 64 ∧ s.2.1.Nodup ∧ Slc 3 1 s.2.2.1 s.2.1.length (intsC s.2.1) s.2.2.2.1 ∧ Slc 3 1 s.2.2.2.2.1 s.2.1.length (intsC s.2.1) s.2.2.2.2.2) (fun s => l.length - s.1) (0, [], .slice none 0 0, [], .slice none 0 0, []) ⟨Nat.le_refl _, Nat.zero_le _, List.nodup_nil, Slc.nil _ _, Slc.nil _ _⟩ ⟨rfl, rfl, rfl, trivial⟩ ⟨rfl, rfl, trivial⟩ (by intro w ho; (try dsimp only [List.nil_append, List.cons_append]); exact Drop.own ho) ?_
  rintro ⟨i, L, v, H, w, K⟩ KK ⟨hll, hi, hnd, hs, ht⟩ hK
  dsimp only [List.cons_append, List.nil_append] at hK ⊢
  dsimp only at hll hi hnd hs ht ⊢
  refine Wp.seq ?_
  refine Wp.seq ?_
  refine Wp.region ?_
  refine Ops.pv (pv_move rfl) rfl ?_
  refine Ops.pv (pv_move rfl) rfl ?_
  refine Ops.pv (pv_len_slice (T := 26) rfl rfl) rfl ?_
  refine Ops.pv (pv_lss rfl rfl) rfl ?_
  refine Ops.pv (pv_move rfl) rfl ?_
  refine Ops.pvc rfl rfl (fun hg => pv_move rfl) rfl ?_
  refine Ops.pvc rfl rfl (fun hg => Pv.setE (t := 24) rfl (cv_pos hg) (pv_lss rfl rfl)) rfl ?_
  refine Ops.pv (pv_pick_and rfl rfl) rfl ?_
  refine Ops.nil ?_
  refine Ends.seq ?_
  first | refine Wp.cond_dect rfl (fun h1 => ?_) (fun h1 => ?_) | refine Wp.cond_t rfl (fun h1 => ?_) (fun h1 => ?_)
  · obtain ⟨x, hq⟩ : ∃ x, l[i]? = some x := ⟨_, List.getElem?_eq_getElem (by omega)⟩
    obtain ⟨_, b, o, cc, T, f, rfl, hm, hr⟩ := ha i [.int .i64 x] (by rw [List.getElem?_map, hq]; rfl)
    have hbg : Blk G b (.cells cc.toArray T f) := ⟨hm⟩
    obtain ⟨r0, _⟩ := hr
    refine Wp.skip ?_
    refine Ends.seq ?_
    refine Wp.seq ?_
    refine Wp.block ?_
    refine Wp.seq ?_
    refine Wp.region ?_
    refine Ops.pv (pv_move rfl) rfl ?_
    refine Ops.pv (pv_move rfl) rfl ?_
    refine Ops.pv (pv_indexAddr rfl rfl rfl (by omega)) rfl ?_
    refine Ops.pv (pv_load rfl rfl r0) rfl ?_
    refine Ops.pv (pv_conv rfl (uI_eq _)) rfl ?_
    refine Ops.pv (pv_rem rfl rfl (by omega) (tmod_nat (b := 64) rfl)) rfl ?_
    refine Ops.pv (pv_conv rfl (w64n rfl (by omega))) rfl ?_
    refine Ops.pv (pv_assign rfl) rfl ?_
    refine Ops.nil ?_
    refine Ends.seq ?_
    refine Wp.seq ?_
    refine Wp.region ?_
    refine Ops.pv (pv_move rfl) rfl ?_
    refine Ops.pv (pv_move rfl) rfl ?_
    refine Ops.ef rfl (ef_call (tr_lpush _ _ H L ((uI x % 64 : Nat) : Int) hs (by omega)) rfl rfl) ?_
    rintro _ _ ⟨_, _, ⟨rfl, v1, H1, hs1, rfl⟩, rfl, rfl⟩
    refine Ops.app ?_
    have hb9 := pushL_len L ((uI x % 64 : Nat) : Int)
    refine Ops.pv (pv_eql rfl rfl) rfl ?_
    refine Ops.nil ?_
    refine Ends.seq ?_
    first | refine Wp.cond_dect rfl (fun h2 => ?_) (fun h2 => ?_) | refine Wp.cond_t rfl (fun h2 => ?_) (fun h2 => ?_)
    · obtain ⟨hp1, hp2⟩ := push_ok0 (by assumption)
      refine Wp.region ?_
      refine Ops.pv (pv_move rfl) rfl ?_
      refine Ops.pv (pv_move rfl) rfl ?_
      refine Ops.ef rfl (ef_buildSlice1 (k := 1) rfl rfl rfl rfl rfl) ?_
      rintro _ _ ⟨b1, rfl, rfl⟩
      refine Ops.ef rfl (ef_append (H := K) (xs := [.int .i64 ((uI x % 64 : Nat) : Int)]) rfl ht rfl ⟨rfl, trivial⟩ rfl rfl rfl (by omega) (by omega) rfl rfl) ?_
      rintro _ _ ⟨v2, H2, hs2, rfl, rfl⟩
      refine Ops.app ?_
      skip
      refine Ops.pv (pv_assign rfl) rfl ?_
      refine Ops.nil ?_
      refine Ends.block_normal ?_
      refine Ends.seq ?_
      refine Wp.region ?_
      refine Ops.pv (pv_move rfl) rfl ?_
      first | refine Ops.pv (pv_add rfl rfl (w64 (by omega) (by omega))) rfl ?_ | refine Ops.pv (pv_add rfl rfl rfl) rfl ?_
      refine Ops.pv (pv_assign rfl) rfl ?_
      refine Ops.nil ?_
      refine Ends.goes ?_
      refine Goes.back (hK (i + 1, L ++ [((uI x % 64 : Nat) : Int)], v1, H1, v2, H2) ⟨by dsimp only; rw [List.length_append]; simp; omega, by dsimp only; omega, by dsimp only; exact nodup_snoc hnd hp2, by dsimp only; rw [← hp1]; exact hs1, by dsimp only; rw [List.length_append, intsC_app]; exact hs2⟩ (by dsimp only; omega)) ⟨rfl, rfl, rfl, rfl, rfl, trivial⟩
    · have hp1 := push_no (by assumption)
      refine Wp.skip ?_
      refine Ends.block_normal ?_
      refine Ends.seq ?_
      refine Wp.region ?_
      refine Ops.pv (pv_move rfl) rfl ?_
      first | refine Ops.pv (pv_add rfl rfl (w64 (by omega) (by omega))) rfl ?_ | refine Ops.pv (pv_add rfl rfl rfl) rfl ?_
      refine Ops.pv (pv_assign rfl) rfl ?_
      refine Ops.nil ?_
      refine Ends.goes ?_
      refine Goes.back (hK (i + 1, L, v1, H1, w, K) ⟨by dsimp only; omega, by dsimp only; omega, hnd, by dsimp only; rw [hp1] at hs1; exact hs1, ht⟩ (by dsimp only; omega)) ⟨rfl, rfl, rfl, rfl, rfl, trivial⟩
  · refine Wp.exit ?_
    refine Ends.then_exit ?_
    refine Ends.then_exit ?_
    refine Ends.block_hit ?_
    refine Ends.seq ?_
    refine Wp.seq ?_
    refine Wp.region ?_
    refine Ops.pv (pv_move rfl) rfl ?_
    refine Ops.pv (pv_conv rfl (uI_eq _)) rfl ?_
    refine Ops.pv (pv_rem rfl rfl (by omega) (tmod_nat (b := 64) rfl)) rfl ?_
    refine Ops.pv (pv_conv rfl (w64n rfl (by omega))) rfl ?_
    refine Ops.pv (pv_assign rfl) rfl ?_
    obtain ⟨y0, hy0⟩ : ∃ y0 : Int, ((uI out % 64 : Nat) : Int) = y0 := ⟨_, rfl⟩
    rw [hy0]
    refine Ops.nil ?_
    refine Ends.seq ?_
    refine Wp.seq ?_
    refine Wp.region ?_
    refine Ops.pv (pv_assign rfl) rfl ?_
    refine Ops.nil ?_
    refine Ends.seq ?_
    refine Wp.seq ?_
    refine Wp.region ?_
    refine Ops.pv (pv_assign rfl) rfl ?_
    refine Ops.nil ?_
    refine Ends.seq ?_
    refine Wp.seq ?_
    refine Wp.seq ?_
    refine Wp.region ?_
    refine Ops.pv (pv_assign rfl) rfl ?_
    refine Ops.nil ?_
    refine Ends.seq ?_
    refine Wp.block ?_
    obtain ⟨wp, wc, rfl⟩ := ht.form
    have hv := ht.view
    refine Wp.loopK (σ := Nat × Value × Hp) [(1, _), (5, _), (6, _)] (fun s => [(9, .bool (decide (y0 ∈ L.take s.1))), (10, s.2.1), (11, .int .i64 s.1)]) (fun s => (lb1, .cells [v].toArray 87) :: (H ++ (K ++ (s.2.2 ++ (G ++ F))))) (fun s => s.1 ≤ L.length ∧ Slc 3 1 s.2.1 (wantM L y0 s.1).length (intsC (wantM L y0 s.1)) s.2.2) (fun s => L.length - s.1) (0, .slice none 0 0, []) ⟨Nat.zero_le _, Slc.nil _ _⟩ ⟨rfl, rfl, rfl, trivial⟩ ⟨rfl, rfl, rfl, trivial⟩ (by intro w ho; (try dsimp only [List.nil_append, List.cons_append]); exact Drop.own ho) ?_
    rintro ⟨i, w2, Kw⟩ KK ⟨hi2, hw⟩ hK
    dsimp only [List.cons_append, List.nil_append] at hK ⊢
    dsimp only at hi2 hw ⊢
    refine Wp.seq ?_
    refine Wp.seq ?_
    refine Wp.region ?_
    refine Ops.pv (pv_move rfl) rfl ?_
    refine Ops.pv (pv_move rfl) rfl ?_
    refine Ops.pv (pv_len_slice (T := 26) rfl rfl) rfl ?_
    refine Ops.pv (pv_lss rfl rfl) rfl ?_
    refine Ops.nil ?_
    refine Ends.seq ?_
    first | refine Wp.cond_dect rfl (fun h3 => ?_) (fun h3 => ?_) | refine Wp.cond_t rfl (fun h3 => ?_) (fun h3 => ?_)
    · obtain ⟨b, o, cap, cc, T, f, hv1, hbv, hr⟩ := hv.open (by omega)
      cases hv1
      obtain ⟨z, hz⟩ : ∃ z, L[i]? = some z := ⟨_, List.getElem?_eq_getElem (by omega)⟩
      have hny := ints_nth hr hz
      have hft := filter_take hz y0
      have hmt := mem_take hz y0
      have hwl := want_len L y0 i
      refine Wp.skip ?_
      refine Ends.seq ?_
      refine Wp.seq ?_
      refine Wp.block ?_
      refine Wp.seq ?_
      refine Wp.region ?_
      refine Ops.pv (pv_move rfl) rfl ?_
      refine Ops.pv (pv_move rfl) rfl ?_
      refine Ops.pv (pv_indexAddr rfl rfl rfl (by omega)) rfl ?_
      first | refine Ops.pv (pv_load rfl rfl rfl) rfl ?_ | refine Ops.pv (pv_load rfl rfl (by assumption)) rfl ?_
      refine Ops.pv (pv_move rfl) rfl ?_
      refine Ops.pv (pv_eql rfl rfl) rfl ?_
      refine Ops.nil ?_
      refine Ends.seq ?_
      first | refine Wp.cond_dect rfl (fun h4 => ?_) (fun h4 => ?_) | refine Wp.cond_t rfl (fun h4 => ?_) (fun h4 => ?_)
      · refine Wp.region ?_
        refine Ops.pv (pv_assign rfl) rfl ?_
        refine Ops.setE (t := 9) (v := .bool (decide (y0 ∈ L.take (i + 1)))) rfl (by rw [hmt, decide_eq_true (show z = y0 by assumption), Bool.or_true]) ?_
        refine Ops.nil ?_
        refine Ends.block_normal ?_
        refine Ends.seq ?_
        refine Wp.region ?_
        refine Ops.pv (pv_move rfl) rfl ?_
        first | refine Ops.pv (pv_add rfl rfl (w64 (by omega) (by omega))) rfl ?_ | refine Ops.pv (pv_add rfl rfl rfl) rfl ?_
        refine Ops.pv (pv_assign rfl) rfl ?_
        refine Ops.nil ?_
        refine Ends.goes ?_
        refine Goes.back (hK (i + 1, w2, Kw) ⟨by dsimp only; omega, by dsimp only; rw [wantM, hft, if_pos (by assumption), List.append_nil]; exact hw⟩ (by dsimp only; omega)) ⟨rfl, rfl, rfl, rfl, rfl, rfl, trivial⟩
      · refine Wp.region ?_
        refine Ops.pv (pv_move rfl) rfl ?_
        refine Ops.pv (pv_move rfl) rfl ?_
        refine Ops.pv (pv_move rfl) rfl ?_
        refine Ops.pv (pv_indexAddr rfl rfl rfl (by omega)) rfl ?_
        first | refine Ops.pv (pv_load rfl rfl rfl) rfl ?_ | refine Ops.pv (pv_load rfl rfl (by assumption)) rfl ?_
        refine Ops.ef rfl (ef_buildSlice1 (k := 1) rfl rfl rfl rfl rfl) ?_
        rintro _ _ ⟨b2, rfl, rfl⟩
        refine Ops.ef rfl (ef_append (H := Kw) (xs := [.int .i64 z]) rfl hw rfl ⟨rfl, trivial⟩ rfl rfl rfl (by omega) (by omega) rfl rfl) ?_
        rintro _ _ ⟨v3, H3, hs3, rfl, rfl⟩
        refine Ops.app ?_
        skip
        refine Ops.pv (pv_assign rfl) rfl ?_
        refine Ops.setE (t := 9) (v := .bool (decide (y0 ∈ L.take (i + 1)))) rfl (by rw [hmt, decide_eq_false (show ¬ z = y0 by assumption), Bool.or_false]) ?_
        refine Ops.nil ?_
        refine Ends.block_normal ?_
        refine Ends.seq ?_
        refine Wp.region ?_
        refine Ops.pv (pv_move rfl) rfl ?_
        first | refine Ops.pv (pv_add rfl rfl (w64 (by omega) (by omega))) rfl ?_ | refine Ops.pv (pv_add rfl rfl rfl) rfl ?_
        refine Ops.pv (pv_assign rfl) rfl ?_
        refine Ops.nil ?_
        refine Ends.goes ?_
        refine Goes.back (hK (i + 1, v3, H3) ⟨by dsimp only; omega, by dsimp only; rw [wantM, hft, if_neg (by assumption), List.length_append, intsC_app]; exact hs3⟩ (by dsimp only; omega)) ⟨rfl, rfl, rfl, rfl, rfl, rfl, trivial⟩
    · refine Wp.exit ?_
      refine Ends.then_exit ?_
      refine Ends.then_exit ?_
      refine Ends.block_hit ?_
      refine Ends.seq ?_
      refine Wp.seq ?_
      refine Wp.seq ?_
      refine Wp.region ?_
      have hi2 : i = L.length := by omega
      subst hi2
      rw [List.take_length]
      refine Ops.pv (pv_move rfl) rfl ?_
      refine Ops.pv (pv_move rfl) rfl ?_
      refine Ops.ef rfl (ef_call (tr_lremove _ _ H L y0 hs (by omega)) rfl rfl) ?_
      rintro _ _ ⟨_, _, ⟨rfl, v4, H4, hs4, rfl⟩, rfl, rfl⟩
      refine Ops.app ?_
      rw [rem_mem]
      rw [rem_filter hnd, show L.filter (fun z => decide (z ≠ y0)) = (wantM L y0 L.length) by rw [wantM, List.take_length]] at hs4
      refine Ops.pv (pv_move rfl) rfl ?_
      refine Ops.pv ((pv_neq_bool rfl rfl).is (u := .bool false) (by first | rfl | (simp; done) | simp_all)) rfl ?_
      refine Ops.nil ?_
      refine Ends.seq ?_
      refine Wp.cond_false rfl ?_
      refine Wp.skip ?_
      refine Ends.seq ?_
      refine Wp.seq ?_
      refine Wp.region ?_
      refine Ops.pv (pv_assign rfl) rfl ?_
      refine Ops.nil ?_
      refine Ends.seq ?_
      refine Wp.seq ?_
      refine Wp.seq ?_
      refine Wp.region ?_
      refine Ops.pv (pv_assign rfl) rfl ?_
      refine Ops.nil ?_
      refine Ends.seq ?_
      refine Wp.block ?_
      obtain ⟨wp2, wc2, rfl⟩ := hw.form
      have hwv := hw.view
      have hML := want_len L y0 L.length
      refine Wp.loopK (σ := Nat × Value × Hp × Value × Hp) [(5, _), (10, _)] (fun s => [(12, s.2.2.2.1), (13, .int .i64 s.1)]) (fun s => (lb1, .cells [s.2.1].toArray 87) :: (s.2.2.1 ++ (s.2.2.2.2 ++ (Kw ++ (G ++ F))))) (fun s => s.1 ≤ (wantM L y0 L.length).length ∧ Slc 3 1 s.2.1 ((wantM L y0 L.length).drop s.1).length (intsC ((wantM L y0 L.length).drop s.1)) s.2.2.1 ∧ Slc 3 1 s.2.2.2.1 ((wantM L y0 L.length).take s.1).length (intsC ((wantM L y0 L.length).take s.1)) s.2.2.2.2) (fun s => (wantM L y0 L.length).length - s.1) (0, v4, H4, .slice none 0 0, []) ⟨Nat.zero_le _, hs4, Slc.nil _ _⟩ ⟨rfl, rfl, trivial⟩ ⟨rfl, rfl, trivial⟩ (by intro w ho; (try dsimp only [List.nil_append, List.cons_append]); exact Drop.own ho) ?_
      rintro ⟨i, v, H, g, K⟩ KK ⟨hi3, hq, hg⟩ hK
      dsimp only [List.cons_append, List.nil_append] at hK ⊢
      dsimp only at hi3 hq hg ⊢
      refine Wp.seq ?_
      refine Wp.seq ?_
      refine Wp.region ?_
      refine Ops.pv (pv_move rfl) rfl ?_
      refine Ops.pv (pv_lss rfl rfl) rfl ?_
      refine Ops.nil ?_
      refine Ends.seq ?_
      refine Wp.cond_dect rfl (fun h5 => ?_) (fun h5 => (by exfalso; omega))
      refine Wp.skip ?_
      refine Ends.seq ?_
      refine Wp.seq ?_
      refine Wp.block ?_
      refine Wp.seq ?_
      refine Wp.region ?_
      refine Ops.pv (pv_move rfl) rfl ?_
      refine Ops.ef rfl (ef_call (tr_lpop _ _ H ((wantM L y0 L.length).drop i) hq (by rw [List.length_drop]; omega)) rfl rfl) ?_
      rintro _ _ ⟨_, _, ⟨rfl, v5, H5, hs5, rfl⟩, rfl, rfl⟩
      refine Ops.app ?_
      refine Ops.pv (pv_move rfl) rfl ?_
      refine Ops.pv (pv_extract rfl rfl) rfl ?_
      refine Ops.pv (pv_extract rfl rfl) rfl ?_
      refine Ops.pv (pv_assign rfl) rfl ?_
      refine Ops.pv (pv_assign rfl) rfl ?_
      refine Ops.nil ?_
      refine Ends.seq ?_
      refine Wp.seq ?_
      refine Wp.seq ?_
      refine Wp.region ?_
      refine Ops.pv (pv_move rfl) rfl ?_
      first | refine Ops.pv (pv_not_dec rfl) rfl ?_ | refine Ops.pv (pv_not rfl) rfl ?_
      refine Ops.nil ?_
      refine Ends.seq ?_
      first | refine Wp.cond_dect rfl (fun hpop => ?_) (fun hpop => ?_) | refine Wp.cond_t rfl (fun hpop => ?_) (fun hpop => ?_)
      · obtain ⟨g1, g2⟩ := pop_none (by simpa using hpop)
        rw [g2] at hs5
        dsimp only [List.tail_nil] at hs5
        rw [List.take_of_length_le g1] at hg
        obtain ⟨gp, gc, rfl⟩ := hg.form
        refine Wp.exit ?_
        refine Ends.then_exit ?_
        refine Ends.block_miss rfl ?_
        refine Ends.then_exit ?_
        refine Ends.then_exit ?_
        refine Ends.block_hit ?_
        refine Ends.seq ?_
        refine Wp.seq ?_
        refine Wp.region ?_
        refine Ops.pv (pv_move rfl) rfl ?_
        refine Ops.pv (pv_move rfl) rfl ?_
        refine Ops.ef rfl (ef_callr (tr_same K Kw _ _ _ _ (wantM L y0 L.length) hg.view hwv (by omega)) rfl rfl) ?_
        rintro _ _ ⟨rfl, rfl⟩
        refine Ops.pv (pv_move rfl) rfl ?_
        refine Ops.pvg ⟨_, _, rfl, rfl, rfl⟩ (pv_move rfl) rfl ?_
        refine Ops.efg ⟨_, _, rfl, rfl, rfl⟩ (ef_call (tr_list _ _ H5 [] hs5 (by decide)) rfl rfl) ?_
        rintro _ _ ⟨_, _, ⟨C1, hc1, rfl⟩, rfl, rfl⟩
        refine Ops.app ?_
        obtain ⟨p1, q1, rfl⟩ := hc1.form
        refine Ops.pvg ⟨_, _, rfl, rfl, rfl⟩ (pv_len_slice (T := 26) rfl rfl) rfl ?_
        refine Ops.pvg ⟨_, _, rfl, rfl, rfl⟩ ((pv_eql rfl rfl).tru (by first | rfl | decide | omega | assumption)) rfl ?_
        refine Ops.pv (pv_pick_true rfl rfl) rfl ?_
        refine Ops.pv (pv_assign rfl) rfl ?_
        refine Ops.nil ?_
        refine Ends.seq ?_
        refine Wp.ret ?_
        exact Ends.ret (res1 rfl rfl) ⟨rfl, rfl⟩
      · have hpb : popB ((wantM L y0 L.length).drop i) = true := by simpa using hpop
        have hil : i < (wantM L y0 L.length).length := by rcases Nat.lt_or_ge i (wantM L y0 L.length).length with h | h; exact h; rw [List.drop_eq_nil_of_le h] at hpb; simp [popB] at hpb
        obtain ⟨y2, hy2, e1, e2, e3, e4⟩ := pop_drop hil
        rw [e1]
        refine Wp.skip ?_
        refine Ends.seq ?_
        refine Wp.region ?_
        refine Ops.pv (pv_move rfl) rfl ?_
        refine Ops.pv (pv_move rfl) rfl ?_
        refine Ops.ef rfl (ef_buildSlice1 (k := 1) rfl rfl rfl rfl rfl) ?_
        rintro _ _ ⟨b3, rfl, rfl⟩
        refine Ops.ef rfl (ef_append (H := K) (xs := [.int .i64 y2]) rfl hg rfl ⟨rfl, trivial⟩ rfl rfl rfl (by rw [List.length_take]; omega) (by rw [List.length_take]; omega) rfl rfl) ?_
        rintro _ _ ⟨v6, H6, hs6, rfl, rfl⟩
        refine Ops.app ?_
        skip
        refine Ops.pv (pv_assign rfl) rfl ?_
        refine Ops.nil ?_
        refine Ends.block_normal ?_
        refine Ends.seq ?_
        refine Wp.region ?_
        refine Ops.pv (pv_move rfl) rfl ?_
        first | refine Ops.pv (pv_add rfl rfl (w64 (by omega) (by omega))) rfl ?_ | refine Ops.pv (pv_add rfl rfl rfl) rfl ?_
        refine Ops.pv (pv_assign rfl) rfl ?_
        refine Ops.nil ?_
        refine Ends.goes ?_
        refine Goes.back (hK (i + 1, v5, H5, v6, H6) ⟨by dsimp only; omega, by dsimp only; rw [← e3]; exact hs5, by dsimp only; rw [e4, List.length_append, intsC_app]; exact hs6⟩ (by dsimp only; omega)) ⟨rfl, rfl, rfl, rfl, trivial⟩

set_option maxHeartbeats 4000000 in
theorem tr_lineLevels (G : Hp) (a : Option Addr) (c : Nat) (ops : List OpL) (ha : ArgS G 3 a (ops.map OpL.cells)) (hol : ops.length ≤ maxLen) (n : Int) : TrR Try.prog 7 [.slice a ops.length c, .int .i64 n] (G) (.bool true) := by
  refine Tr.enter Try.func7 rfl Try.ntmps7 rfl (fun W F => ?_)
  refine Wp.app ?_
  refine Wp.seq ?_
  refine Wp.region ?_
  refine Ops.pv (pv_assign rfl) rfl ?_
  refine Ops.nil ?_
  refine Ends.seq ?_
  refine Wp.seq ?_
  refine Wp.seq ?_
  refine Wp.region ?_
  refine Ops.ef rfl (ef_callr (tr_works17) rfl rfl) ?_
  rintro _ _ ⟨rfl, rfl⟩
  first | refine Ops.pv (pv_not_dec rfl) rfl ?_ | refine Ops.pv (pv_not rfl) rfl ?_
  refine Ops.nil ?_
  refine Ends.seq ?_
  refine Wp.cond_false rfl ?_
  refine Wp.skip ?_
  refine Ends.seq ?_
  refine Wp.seq ?_
  refine Wp.region ?_
  refine Ops.ef rfl (ef_call (tr_newReady) rfl rfl) ?_
  rintro _ _ ⟨_, _, ⟨rb1, rfl, hA1⟩, rfl, rfl⟩
  refine Ops.app ?_
  refine Ops.pv (pv_assign rfl) rfl ?_
  refine Ops.nil ?_
  refine Ends.seq ?_
  refine Wp.seq ?_
  refine Wp.region ?_
  refine Ops.pv (pv_assign rfl) rfl ?_
  refine Ops.nil ?_
  refine Ends.seq ?_
  refine Wp.seq ?_
  refine Wp.seq ?_
  refine Wp.region ?_
  refine Ops.pv (pv_assign rfl) rfl ?_
  refine Ops.nil ?_
  refine Ends.seq ?_
  refine Wp.block ?_
  refine Wp.loopK (σ := Nat × List OpL × Hp × Value × Hp) [(0, _), (1, _), (5, _)] (fun s => [(6, s.2.2.2.1), (7, .int .i64 s.1)]) (fun s => s.2.2.1 ++ (s.2.2.2.2 ++ (G ++ F))) (fun s => s.2.1.length ≤ s.1 ∧ s.1 ≤ 60 ∧ RdyW (s.2.1.map keyO) ∧ RdyH (s.2.1.map keyO) rb1 s.2.2.1 ∧ (∀ o, o ∈ s.2.1 → rightM o.id = true) ∧ Slc 30 3 s.2.2.2.1 s.2.1.length (cel OpL.cells s.2.1) s.2.2.2.2) (fun s => ops.length - s.1) (0, [], _, .slice none 0 0, []) ⟨Nat.le_refl _, Nat.zero_le _, RdyW.nil, hA1, fun o ho => (List.not_mem_nil ho).elim, Slc.nil _ _⟩ ⟨rfl, rfl, rfl, trivial⟩ ⟨rfl, rfl, trivial⟩ (by intro w ho; (try dsimp only [List.nil_append, List.cons_append]); exact Drop.own ho) ?_
  rintro ⟨i, A, H, v, K⟩ KK ⟨hll, hi, hW, hA, hR, hs⟩ hK
  dsimp only [List.cons_append, List.nil_append] at hK ⊢
  dsimp only at hll hi hW hA hR hs ⊢
  refine Wp.seq ?_
  refine Wp.seq ?_
  refine Wp.region ?_
  refine Ops.pv (pv_move rfl) rfl ?_
  refine Ops.pv (pv_move rfl) rfl ?_
  refine Ops.pv (pv_len_slice (T := 22) rfl rfl) rfl ?_
  refine Ops.pv (pv_lss rfl rfl) rfl ?_
  refine Ops.pv (pv_move rfl) rfl ?_
  refine Ops.pvc rfl rfl (fun hg => pv_move rfl) rfl ?_
  refine Ops.pvc rfl rfl (fun hg => Pv.setE (t := 20) rfl (cv_pos hg) (pv_lss rfl rfl)) rfl ?_
  refine Ops.pv (pv_pick_and rfl rfl) rfl ?_
  refine Ops.nil ?_
  refine Ends.seq ?_
  first | refine Wp.cond_dect rfl (fun h1 => ?_) (fun h1 => ?_) | refine Wp.cond_t rfl (fun h1 => ?_) (fun h1 => ?_)
  · obtain ⟨x, hq⟩ : ∃ x, ops[i]? = some x := ⟨_, List.getElem?_eq_getElem (by omega)⟩
    obtain ⟨_, b, o, cc, T, f, rfl, hm, hr⟩ := ha i x.cells (by rw [List.getElem?_map, hq]; rfl)
    have hr0 := hr
    have hbg : Blk G b (.cells cc.toArray T f) := ⟨hm⟩
    obtain ⟨r0, r1, r2, _⟩ := hr
    refine Wp.skip ?_
    refine Ends.seq ?_
    refine Wp.seq ?_
    refine Wp.block ?_
    refine Wp.seq ?_
    refine AnyH.start G 13 rfl ?_
    refine AnyH.take 0 rfl (by kernel_rfl) (by kernel_rfl) (by kernel_rfl) PF.pf rfl (pv_move rfl) rfl ?_
    refine AnyH.take 1 rfl (by kernel_rfl) (by kernel_rfl) (by kernel_rfl) PF.pf rfl (pv_move rfl) rfl ?_
    refine AnyH.take 2 rfl (by kernel_rfl) (by kernel_rfl) (by kernel_rfl) PF.pf rfl (pv_move rfl) rfl ?_
    refine AnyH.take 3 rfl (by kernel_rfl) (by kernel_rfl) (by kernel_rfl) PF.pf rfl (pv_indexAddr rfl rfl rfl (by omega)) rfl ?_
    first | refine AnyH.take 4 rfl (by kernel_rfl) (by kernel_rfl) (by kernel_rfl) PF.pf rfl (pv_fieldAddr0 rfl rfl) rfl ?_ | refine AnyH.take 4 rfl (by kernel_rfl) (by kernel_rfl) (by kernel_rfl) PF.pf rfl (pv_fieldAddr rfl rfl) rfl ?_
    first | refine AnyH.take 5 rfl (by kernel_rfl) (by kernel_rfl) (by kernel_rfl) PF.pf rfl (pv_load rfl rfl rfl) rfl ?_ | refine AnyH.take 5 rfl (by kernel_rfl) (by kernel_rfl) (by kernel_rfl) PF.pf rfl (pv_load rfl rfl (by assumption)) rfl ?_
    refine AnyH.take 6 rfl (by kernel_rfl) (by kernel_rfl) (by kernel_rfl) PF.pf rfl (pv_move rfl) rfl ?_
    refine AnyH.take 7 rfl (by kernel_rfl) (by kernel_rfl) (by kernel_rfl) PF.pf rfl (pv_move rfl) rfl ?_
    refine AnyH.take 8 rfl (by kernel_rfl) (by kernel_rfl) (by kernel_rfl) PF.pf rfl (pv_indexAddr rfl rfl rfl (by omega)) rfl ?_
    first | refine AnyH.take 9 rfl (by kernel_rfl) (by kernel_rfl) (by kernel_rfl) PF.pf rfl (pv_fieldAddr0 rfl rfl) rfl ?_ | refine AnyH.take 9 rfl (by kernel_rfl) (by kernel_rfl) (by kernel_rfl) PF.pf rfl (pv_fieldAddr rfl rfl) rfl ?_
    first | refine AnyH.take 10 rfl (by kernel_rfl) (by kernel_rfl) (by kernel_rfl) PF.pf rfl (pv_load rfl rfl rfl) rfl ?_ | refine AnyH.take 10 rfl (by kernel_rfl) (by kernel_rfl) (by kernel_rfl) PF.pf rfl (pv_load rfl rfl (by assumption)) rfl ?_
    refine AnyH.one 11 (by kernel_rfl) ?_
    refine Turn.ef rfl rfl (ef_call (tr_rdyPut _ _ (A.map keyO) hA hW (by rw [List.length_map]; omega) x.id x.level) rfl rfl) ?_ ?_
    · rintro _ _ ⟨_, _, ⟨rfl, hA2⟩, rfl, rfl⟩; infer_instance
    rintro _ _ ⟨_, _, ⟨rfl, hA2⟩, rfl, rfl⟩
    refine AnyH.app ?_
    refine AnyH.take 12 rfl (by kernel_rfl) (by kernel_rfl) (by kernel_rfl) PF.pf rfl (pv_eql rfl rfl) rfl ?_
    refine AnyH.done (by kernel_rfl) ?_
    refine Ends.seq ?_
    first | refine Wp.cond_dect rfl (fun h2 => ?_) (fun h2 => ?_) | refine Wp.cond_t rfl (fun h2 => ?_) (fun h2 => ?_)
    · refine Wp.region ?_
      refine Ops.pv (pv_move rfl) rfl ?_
      refine Ops.pv (pv_move rfl) rfl ?_
      refine Ops.pv (pv_move rfl) rfl ?_
      refine Ops.pv (pv_indexAddr rfl rfl rfl (by omega)) rfl ?_
      refine Ops.pv (pv_loadK x.cells rfl rfl rfl hr0) rfl ?_
      refine Ops.ef rfl (ef_buildSlice1 (k := 3) rfl rfl rfl rfl rfl) ?_
      rintro _ _ ⟨b1, rfl, rfl⟩
      refine Ops.ef rfl (ef_append (H := K) (xs := x.cells) rfl hs rfl ⟨rfl, rfl, rfl, trivial⟩ rfl rfl rfl (by omega) (by omega) rfl rfl) ?_
      rintro _ _ ⟨v1, H1, hs1, rfl, rfl⟩
      refine Ops.app ?_
      skip
      refine Ops.pv (pv_assign rfl) rfl ?_
      refine Ops.nil ?_
      refine Ends.block_normal ?_
      refine Ends.seq ?_
      refine Wp.region ?_
      refine Ops.pv (pv_move rfl) rfl ?_
      first | refine Ops.pv (pv_add rfl rfl (w64 (by omega) (by omega))) rfl ?_ | refine Ops.pv (pv_add rfl rfl rfl) rfl ?_
      refine Ops.pv (pv_assign rfl) rfl ?_
      refine Ops.nil ?_
      refine Ends.goes ?_
      have hpe : putR (A.map keyO) x.id x.level = (A ++ [x]).map keyO := by rw [putR_ok (by assumption), List.map_append]; rfl
      refine Goes.back (hK (i + 1, A ++ [x], _, v1, H1) ⟨by dsimp only; rw [List.length_append]; simp; omega, by dsimp only; omega, by dsimp only; rw [← hpe]; exact hW.put _ _, by dsimp only; rw [← hpe]; exact hA2, ?_, by dsimp only; rw [List.length_append, cel_app, cel_one1]; exact hs1⟩ (by dsimp only; omega)) ⟨rfl, rfl, rfl, rfl, rfl, trivial⟩
      intro o ho
      rcases List.mem_append.1 ho with ho | ho
      · exact hR o ho
      · rw [List.mem_singleton.1 ho]; exact (putE_zero (by assumption)).1
    · refine Wp.skip ?_
      refine Ends.block_normal ?_
      refine Ends.seq ?_
      refine Wp.region ?_
      refine Ops.pv (pv_move rfl) rfl ?_
      first | refine Ops.pv (pv_add rfl rfl (w64 (by omega) (by omega))) rfl ?_ | refine Ops.pv (pv_add rfl rfl rfl) rfl ?_
      refine Ops.pv (pv_assign rfl) rfl ?_
      refine Ops.nil ?_
      refine Ends.goes ?_
      have hpe : putR (A.map keyO) x.id x.level = A.map keyO := if_neg (by assumption)
      refine Goes.back (hK (i + 1, A, _, v, K) ⟨by dsimp only; omega, by dsimp only; omega, hW, by dsimp only; rw [← hpe]; exact hA2, hR, hs⟩ (by dsimp only; omega)) ⟨rfl, rfl, rfl, rfl, rfl, trivial⟩
  · refine Wp.exit ?_
    refine Ends.then_exit ?_
    refine Ends.then_exit ?_
    refine Ends.block_hit ?_
    refine Ends.seq ?_
    refine Wp.seq ?_
    refine Wp.region ?_
    refine Ops.pv (pv_move rfl) rfl ?_
    refine Ops.ef rfl (ef_callr (tr_rdyLevels _ _ (A.map keyO) hA hW (by rw [List.length_map]; omega)) rfl rfl) ?_
    rintro _ _ ⟨rfl, rfl⟩
    refine Ops.pv (pv_assign rfl) rfl ?_
    refine Ops.nil ?_
    refine Ends.seq ?_
    refine Wp.seq ?_
    refine Wp.seq ?_
    refine Wp.region ?_
    refine Ops.pv (pv_assign rfl) rfl ?_
    refine Ops.nil ?_
    refine Ends.seq ?_
    refine Wp.block ?_
    obtain ⟨vp, vc, rfl⟩ := hs.form
    have hv := hs.view
    refine Wp.loopK (σ := Nat) [(1, _), (5, _), (6, _), (8, _)] (fun s => [(9, .int .i64 s)]) (fun s => H ++ (K ++ (G ++ F))) (fun s => s ≤ 8) (fun s => 8 - s) 0 (Nat.zero_le _) ⟨rfl, rfl, rfl, rfl, trivial⟩ ⟨rfl, trivial⟩ (by intro w ho; (try dsimp only [List.nil_append, List.cons_append]); exact Drop.own ho) ?_
    rintro i KK hi2 hK
    dsimp only [List.cons_append, List.nil_append] at hK ⊢
    refine Wp.seq ?_
    refine Wp.seq ?_
    refine Wp.region ?_
    refine Ops.pv (pv_move rfl) rfl ?_
    refine Ops.pv (pv_lss rfl rfl) rfl ?_
    refine Ops.nil ?_
    refine Ends.seq ?_
    first | refine Wp.cond_dect rfl (fun h3 => ?_) (fun h3 => ?_) | refine Wp.cond_t rfl (fun h3 => ?_) (fun h3 => ?_)
    · have hi8 : i < 8 := by omega
      refine Wp.skip ?_
      refine Ends.seq ?_
      refine Wp.seq ?_
      refine Wp.block ?_
      refine Wp.seq ?_
      refine AnyH.start ([] : Hp) 11 rfl ?_
      refine AnyH.take 0 rfl (by kernel_rfl) (by kernel_rfl) (by kernel_rfl) PF.pf rfl (pv_move rfl) rfl ?_
      refine AnyH.take 1 rfl (by kernel_rfl) (by kernel_rfl) (by kernel_rfl) PF.pf rfl (pv_move rfl) rfl ?_
      refine AnyH.take 5 rfl (by kernel_rfl) (by kernel_rfl) (by kernel_rfl) PF.pf rfl (pv_move rfl) rfl ?_
      refine AnyH.take 6 rfl (by kernel_rfl) (by kernel_rfl) (by kernel_rfl) PF.pf rfl (pv_move rfl) rfl ?_
      refine AnyH.take 7 rfl (by kernel_rfl) (by kernel_rfl) (by kernel_rfl) PF.pf rfl (pv_shr rfl rfl (by omega) (shrn (by omega))) rfl ?_
      refine AnyH.take 8 rfl (by kernel_rfl) (by kernel_rfl) (by kernel_rfl) PF.pf rfl (pv_rem rfl rfl (by omega) (tmod_nat (b := 2) rfl)) rfl ?_
      refine AnyH.take 9 rfl (by kernel_rfl) (by kernel_rfl) (by kernel_rfl) PF.pf rfl (pv_eql rfl rfl) rfl ?_
      refine AnyH.one 2 (by kernel_rfl) ?_
      refine Turn.ef rfl rfl (ef_call (tr_rdyList _ _ (A.map keyO) hA hW (by rw [List.length_map]; omega) i) rfl rfl) ?_ ?_
      · rintro _ _ ⟨_, _, ⟨C1, hc1, rfl⟩, rfl, rfl⟩; infer_instance
      rintro _ _ ⟨_, _, ⟨C1, hc1, rfl⟩, rfl, rfl⟩
      refine AnyH.app ?_
      obtain ⟨p1, q1, rfl⟩ := hc1.form
      refine AnyH.take 3 rfl (by kernel_rfl) (by kernel_rfl) (by kernel_rfl) PF.pf rfl (pv_len_slice (T := 26) rfl rfl) rfl ?_
      refine AnyH.take 4 rfl (by kernel_rfl) (by kernel_rfl) (by kernel_rfl) PF.pf rfl (pv_gtr rfl rfl) rfl ?_
      refine AnyH.take 10 rfl (by kernel_rfl) (by kernel_rfl) (by kernel_rfl) PF.pf rfl ((pv_neq_bool rfl rfl).is (u := .bool false) (by rw [lev_same _ hi8]; rfl)) rfl ?_
      refine AnyH.done (by kernel_rfl) ?_
      refine Ends.seq ?_
      refine Wp.cond_false rfl ?_
      refine Wp.skip ?_
      refine Ends.block_normal ?_
      refine Ends.seq ?_
      refine Wp.region ?_
      refine Ops.pv (pv_move rfl) rfl ?_
      first | refine Ops.pv (pv_add rfl rfl (w64 (by omega) (by omega))) rfl ?_ | refine Ops.pv (pv_add rfl rfl rfl) rfl ?_
      refine Ops.pv (pv_assign rfl) rfl ?_
      refine Ops.nil ?_
      refine Ends.goes ?_
      refine Goes.back (hK (i + 1) (by omega) (by omega)) ⟨rfl, rfl, rfl, rfl, rfl, trivial⟩
    · refine Wp.exit ?_
      refine Ends.then_exit ?_
      refine Ends.then_exit ?_
      refine Ends.block_hit ?_
      refine Ends.seq ?_
      refine Wp.seq ?_
      refine Wp.seq ?_
      refine Wp.region ?_
      refine Ops.pv (pv_move rfl) rfl ?_
      refine Ops.pv (pv_len_slice (T := 22) rfl rfl) rfl ?_
      refine Ops.pv (pv_eql rfl rfl) rfl ?_
      refine Ops.nil ?_
      refine Ends.seq ?_
      first | refine Wp.cond_dect rfl (fun h4 => ?_) (fun h4 => ?_) | refine Wp.cond_t rfl (fun h4 => ?_) (fun h4 => ?_)
      · refine Wp.seq ?_
        refine Wp.region ?_
        obtain rfl : A = [] := List.eq_nil_of_length_eq_zero (by omega)
        refine Ops.pv (pv_move rfl) rfl ?_
        refine Ops.pv ((pv_eql rfl rfl).tru (by first | rfl | decide | omega | assumption)) rfl ?_
        refine Ops.pv (pv_assign rfl) rfl ?_
        refine Ops.nil ?_
        refine Ends.seq ?_
        refine Wp.ret ?_
        refine Ends.then_ret ?_
        exact Ends.ret (res1 rfl rfl) ⟨rfl, rfl⟩
      · refine Wp.skip ?_
        refine Ends.seq ?_
        refine Wp.seq ?_
        refine Wp.region ?_
        have hAl : 0 < A.length := by omega
        have hj := Nat.mod_lt (uI n) hAl
        obtain ⟨y, hy⟩ : ∃ y, A[uI n % A.length]? = some y := ⟨_, List.getElem?_eq_getElem hj⟩
        obtain ⟨b, o, cap, cc, T, f, hv1, hbv, hr⟩ := hv.open hAl
        cases hv1
        have hry := cel_reads hr hy
        have hym := List.mem_of_getElem? hy
        obtain ⟨f1, f2, f3, f4, f5⟩ := come_again hW (hR y hym) (show (y.id, y.level) ∈ (A.map keyO) from List.mem_map.2 ⟨y, hym, rfl⟩)
        have hW2 := (hW.drop y.id).put y.id y.level
        rw [f3] at hW2
        have hdl := dropR_len (A.map keyO) y.id
        have hmk : (A.map keyO).length = A.length := List.length_map _
        have hdl2 := lvl_len (dropR (A.map keyO) y.id) y.level
        refine Ops.pv (pv_move rfl) rfl ?_
        refine Ops.pv (pv_move rfl) rfl ?_
        refine Ops.pv (pv_conv rfl (uI_eq _)) rfl ?_
        refine Ops.pv (pv_move rfl) rfl ?_
        refine Ops.pv (pv_len_slice (T := 22) rfl rfl) rfl ?_
        first | refine Ops.pv (pv_conv rfl (u64 (by omega) (by omega))) rfl ?_ | refine Ops.pv (pv_conv rfl rfl) rfl ?_
        refine Ops.pv (pv_rem rfl rfl (by omega) (tmod_nat rfl)) rfl ?_
        refine Ops.pv (pv_conv rfl (w64n rfl (by omega))) rfl ?_
        refine Ops.pv (pv_indexAddr rfl rfl rfl hj) rfl ?_
        refine Ops.pv (pv_loadK y.cells rfl rfl rfl hry) rfl ?_
        refine Ops.ef rfl (ef_allocK tyZ30 rfl) ?_
        rintro _ _ ⟨b2, rfl, rfl⟩
        refine Ops.ef rfl (ef_storeK rfl rfl rfl rfl) ?_
        rintro _ _ ⟨rfl, rfl⟩
        refine Ops.nil ?_
        refine Ends.seq ?_
        refine Wp.seq ?_
        refine Wp.seq ?_
        refine Wp.region ?_
        refine Ops.pv (pv_move rfl) rfl ?_
        first | refine Ops.pv (pv_fieldAddr0 rfl rfl) rfl ?_ | refine Ops.pv (pv_fieldAddr rfl rfl) rfl ?_
        first | refine Ops.pv (pv_load rfl rfl rfl) rfl ?_ | refine Ops.pv (pv_load rfl rfl (by assumption)) rfl ?_
        refine Ops.ef rfl (ef_call (tr_rdyDrop _ _ (A.map keyO) hA hW (by rw [List.length_map]; omega) y.id) rfl rfl) ?_
        rintro _ _ ⟨_, _, ⟨rfl, hA3⟩, rfl, rfl⟩
        refine Ops.app ?_
        rw [f1]
        first | refine Ops.pv (pv_not_dec rfl) rfl ?_ | refine Ops.pv (pv_not rfl) rfl ?_
        refine Ops.pv (pv_move rfl) rfl ?_
        refine Ops.pvg ⟨_, _, rfl, rfl, rfl⟩ (pv_move rfl) rfl ?_
        first | refine Ops.pvg ⟨_, _, rfl, rfl, rfl⟩ (pv_fieldAddr0 rfl rfl) rfl ?_ | refine Ops.pvg ⟨_, _, rfl, rfl, rfl⟩ (pv_fieldAddr rfl rfl) rfl ?_
        first | refine Ops.pvg ⟨_, _, rfl, rfl, rfl⟩ (pv_load rfl rfl rfl) rfl ?_ | refine Ops.pvg ⟨_, _, rfl, rfl, rfl⟩ (pv_load rfl rfl (by assumption)) rfl ?_
        first | refine Ops.pvg ⟨_, _, rfl, rfl, rfl⟩ (pv_fieldAddr0 rfl rfl) rfl ?_ | refine Ops.pvg ⟨_, _, rfl, rfl, rfl⟩ (pv_fieldAddr rfl rfl) rfl ?_
        first | refine Ops.pvg ⟨_, _, rfl, rfl, rfl⟩ (pv_load rfl rfl rfl) rfl ?_ | refine Ops.pvg ⟨_, _, rfl, rfl, rfl⟩ (pv_load rfl rfl (by assumption)) rfl ?_
        refine Ops.efg ⟨_, _, rfl, rfl, rfl⟩ (ef_call (tr_rdyPut _ _ (dropR (A.map keyO) y.id) hA3 (hW.drop _) (by omega) y.id y.level) rfl rfl) ?_
        rintro _ _ ⟨_, _, ⟨rfl, hA4⟩, rfl, rfl⟩
        refine Ops.app ?_
        rw [f2]
        rw [f3] at hA4
        refine Ops.pvg ⟨_, _, rfl, rfl, rfl⟩ ((pv_neq rfl rfl).fls (by first | exact fun h => h rfl | decide | omega | assumption)) rfl ?_
        refine Ops.pv (pv_pick_false rfl rfl) rfl ?_
        refine Ops.nil ?_
        refine Ends.seq ?_
        refine Wp.cond_false rfl ?_
        refine Wp.skip ?_
        refine Ends.seq ?_
        refine Wp.seq ?_
        refine Wp.region ?_
        refine Ops.pv (pv_move rfl) rfl ?_
        first | refine Ops.pv (pv_fieldAddr0 rfl rfl) rfl ?_ | refine Ops.pv (pv_fieldAddr rfl rfl) rfl ?_
        first | refine Ops.pv (pv_load rfl rfl rfl) rfl ?_ | refine Ops.pv (pv_load rfl rfl (by assumption)) rfl ?_
        refine Ops.ef rfl (ef_call (tr_rdyList _ _ (dropR (A.map keyO) y.id ++ [(y.id, y.level)]) hA4 hW2 (by rw [List.length_append]; simp; omega) y.level) rfl rfl) ?_
        rintro _ _ ⟨_, _, ⟨C2, hc2, rfl⟩, rfl, rfl⟩
        refine Ops.app ?_
        obtain ⟨p2, q2, rfl⟩ := hc2.form
        rw [f5] at hc2 ⊢
        obtain ⟨b5, o5, cap5, cc5, T5, f5', hv5, hbv5, hr5⟩ := hc2.view.open (by simp)
        have hny := ints_nth hr5 (last_get (lvl (dropR (A.map keyO) y.id) y.level) y.id)
        cases hv5
        refine Ops.pv (pv_assign rfl) rfl ?_
        refine Ops.nil ?_
        refine Ends.seq ?_
        refine Wp.seq ?_
        refine AnyH.start ((b2, .cells y.cells.toArray 30) :: C2) 21 rfl ?_
        refine AnyH.take 0 rfl (by kernel_rfl) (by kernel_rfl) (by kernel_rfl) PF.pf rfl (pv_move rfl) rfl ?_
        refine AnyH.take 1 rfl (by kernel_rfl) (by kernel_rfl) (by kernel_rfl) PF.pf rfl (pv_move rfl) rfl ?_
        refine AnyH.one 2 (by kernel_rfl) ?_
        refine Turn.ef rfl rfl (ef_callr ((tr_rdyLevels _ _ (dropR (A.map keyO) y.id ++ [(y.id, y.level)]) hA4 hW2 (by rw [List.length_append]; simp; omega)).eq (by rw [f4])) rfl rfl) ?_ ?_
        · rintro _ _ ⟨rfl, rfl⟩; infer_instance
        rintro _ _ ⟨rfl, rfl⟩
        refine AnyH.take 3 rfl (by kernel_rfl) (by kernel_rfl) (by kernel_rfl) PF.pf rfl ((pv_eql rfl rfl).tru (by first | rfl | decide | omega | assumption)) rfl ?_
        refine AnyH.take 4 rfl (by kernel_rfl) (by kernel_rfl) (by kernel_rfl) PF.pf rfl (pv_move rfl) rfl ?_
        refine AnyH.take 5 rfl (by kernel_rfl) (by kernel_rfl) (by kernel_rfl) PF.pf ⟨_, _, rfl, rfl, rfl⟩ (pv_move rfl) rfl ?_
        refine AnyH.take 6 rfl (by kernel_rfl) (by kernel_rfl) (by kernel_rfl) PF.pf ⟨_, _, rfl, rfl, rfl⟩ (pv_len_slice (T := 26) rfl rfl) rfl ?_
        refine AnyH.take 7 rfl (by kernel_rfl) (by kernel_rfl) (by kernel_rfl) PF.pf ⟨_, _, rfl, rfl, rfl⟩ ((pv_gtr rfl rfl).tru (by first | (simp; done) | (simp; omega))) rfl ?_
        refine AnyH.take 8 rfl (by kernel_rfl) (by kernel_rfl) (by kernel_rfl) PF.pf rfl (pv_pick_true rfl rfl) rfl ?_
        refine AnyH.take 9 rfl (by kernel_rfl) (by kernel_rfl) (by kernel_rfl) PF.pf rfl (pv_move rfl) rfl ?_
        refine AnyH.take 10 rfl (by kernel_rfl) (by kernel_rfl) (by kernel_rfl) PF.pf ⟨_, _, rfl, rfl, rfl⟩ (pv_move rfl) rfl ?_
        refine AnyH.take 11 rfl (by kernel_rfl) (by kernel_rfl) (by kernel_rfl) PF.pf ⟨_, _, rfl, rfl, rfl⟩ (pv_move rfl) rfl ?_
        refine AnyH.take 12 rfl (by kernel_rfl) (by kernel_rfl) (by kernel_rfl) PF.pf ⟨_, _, rfl, rfl, rfl⟩ (pv_len_slice (T := 26) rfl rfl) rfl ?_
        refine AnyH.take 13 rfl (by kernel_rfl) (by kernel_rfl) (by kernel_rfl) PF.pf ⟨_, _, rfl, rfl, rfl⟩ (pv_sub rfl rfl (w64n (k := (lvl (dropR (A.map keyO) y.id) y.level).length) (by simp) (by omega))) rfl ?_
        refine AnyH.take 14 rfl (by kernel_rfl) (by kernel_rfl) (by kernel_rfl) PF.pf ⟨_, _, rfl, rfl, rfl⟩ (pv_indexAddr (i := (lvl (dropR (A.map keyO) y.id) y.level).length) rfl rfl rfl (by simp)) rfl ?_
        refine AnyH.take 15 rfl (by kernel_rfl) (by kernel_rfl) (by kernel_rfl) PF.pf ⟨_, _, rfl, rfl, rfl⟩ (pv_load rfl rfl hny) rfl ?_
        first | refine AnyH.take 16 rfl (by kernel_rfl) (by kernel_rfl) (by kernel_rfl) PF.pf ⟨_, _, rfl, rfl, rfl⟩ (pv_fieldAddr0 rfl rfl) rfl ?_ | refine AnyH.take 16 rfl (by kernel_rfl) (by kernel_rfl) (by kernel_rfl) PF.pf ⟨_, _, rfl, rfl, rfl⟩ (pv_fieldAddr rfl rfl) rfl ?_
        first | refine AnyH.take 17 rfl (by kernel_rfl) (by kernel_rfl) (by kernel_rfl) PF.pf ⟨_, _, rfl, rfl, rfl⟩ (pv_load rfl rfl rfl) rfl ?_ | refine AnyH.take 17 rfl (by kernel_rfl) (by kernel_rfl) (by kernel_rfl) PF.pf ⟨_, _, rfl, rfl, rfl⟩ (pv_load rfl rfl (by assumption)) rfl ?_
        refine AnyH.take 18 rfl (by kernel_rfl) (by kernel_rfl) (by kernel_rfl) PF.pf ⟨_, _, rfl, rfl, rfl⟩ ((pv_eql rfl rfl).tru (by first | rfl | decide | omega | assumption)) rfl ?_
        refine AnyH.take 19 rfl (by kernel_rfl) (by kernel_rfl) (by kernel_rfl) PF.pf rfl (pv_pick_true rfl rfl) rfl ?_
        refine AnyH.take 20 rfl (by kernel_rfl) (by kernel_rfl) (by kernel_rfl) PF.pf rfl (pv_assign rfl) rfl ?_
        refine AnyH.done (by kernel_rfl) ?_
        refine Ends.seq ?_
        refine Wp.ret ?_
        exact Ends.ret (res1 rfl rfl) ⟨rfl, rfl⟩

end Go.Proofs.Ytpjodkcghiklcaa
