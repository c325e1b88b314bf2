/- Walks of layer 7: the document's store answers as the plain functions say, third part. No condition. -/
import Derived.Test.YtpoamckpdpkpoaaW07t
set_option linter.unusedVariables false
set_option linter.unusedSimpArgs false
namespace Go.Proofs.Ytpoamckpdpkpoaa
open Go.SL

theorem tr_sameSlots (G : Hp) (a1 a2 : Option Addr) (c1 c2 : Nat) (l1 l2 : List SlotM) (hv1 : View G 2 (.slice a1 l1.length c1) l1.length (slotsCells l1)) (hv2 : View G 2 (.slice a2 l2.length c2) l2.length (slotsCells l2)) (hl : l1.length ≤ 2 ^ 40) : TrR Try.prog 35 [.slice a1 l1.length c1, .slice a2 l2.length c2] (G) (.bool (decide (l1 = l2))) := by
  refine Tr.enter Try.func35 rfl Try.ntmps35 rfl (fun W F => ?_)
  refine Wp.app ?_
  refine Wp.seq ?_
  refine Wp.region ?_
  refine Ops.pv (pv_assign rfl) rfl ?_
  refine Ops.nil ?_
  refine Ends.seq ?_
  refine Wp.seq ?_
  refine Wp.seq ?_
  refine Wp.region ?_
  refine Ops.pv (pv_move rfl) rfl ?_
  refine Ops.pv (pv_len_slice (T := 39) rfl rfl) rfl ?_
  refine Ops.pv (pv_move rfl) rfl ?_
  refine Ops.pv (pv_len_slice (T := 39) rfl rfl) rfl ?_
  refine Ops.pv (pv_neq rfl rfl) rfl ?_
  refine Ops.nil ?_
  refine Ends.seq ?_
  first | refine Wp.cond_dect rfl (fun h1 => ?_) (fun h1 => ?_) | refine Wp.cond_t rfl (fun h1 => ?_) (fun h1 => ?_)
  · refine Wp.seq ?_
    refine Wp.region ?_
    refine Ops.pv (pv_assign rfl) rfl ?_
    refine Ops.nil ?_
    refine Ends.seq ?_
    refine Wp.ret ?_
    refine Ends.then_ret ?_
    exact Ends.ret (res1 rfl rfl) ⟨by rw [decide_eq_false (fun e => by subst e; omega)], rfl⟩
  · refine Wp.skip ?_
    refine Ends.seq ?_
    refine Wp.seq ?_
    refine Wp.seq ?_
    refine Wp.region ?_
    refine Ops.pv (pv_assign rfl) rfl ?_
    refine Ops.nil ?_
    refine Ends.seq ?_
    refine Wp.block ?_
    refine Wp.loopK (σ := Nat) [(0, _), (1, _)] (fun s => [(5, .int .i64 s)]) (fun s => G ++ F) (fun s => s ≤ l1.length ∧ ∀ j, j < s → l1[j]? = l2[j]?) (fun s => l1.length - s) 0 ⟨Nat.zero_le _, fun j hj => absurd hj (Nat.not_lt_zero j)⟩ ⟨rfl, rfl, trivial⟩ ⟨rfl, trivial⟩ (by intro w ho; (try dsimp only [List.nil_append, List.cons_append]); exact Drop.own ho) ?_
    rintro i KK ⟨hi, hn⟩ hK
    dsimp only [List.cons_append, List.nil_append] at hK ⊢
    refine Wp.seq ?_
    refine Wp.seq ?_
    refine Wp.region ?_
    refine Ops.pv (pv_move rfl) rfl ?_
    refine Ops.pv (pv_move rfl) rfl ?_
    refine Ops.pv (pv_len_slice (T := 39) rfl rfl) rfl ?_
    refine Ops.pv (pv_lss rfl rfl) rfl ?_
    refine Ops.nil ?_
    refine Ends.seq ?_
    first | refine Wp.cond_dect rfl (fun h2 => ?_) (fun h2 => ?_) | refine Wp.cond_t rfl (fun h2 => ?_) (fun h2 => ?_)
    · obtain ⟨b6, o6, cap6, cc6, T6, f6, hw6, hbv6, hr6⟩ := hv1.open (by omega)
      cases hw6
      obtain ⟨s1, hs1⟩ : ∃ s, l1[i]? = some s := ⟨_, List.getElem?_eq_getElem (by omega)⟩
      have hre1 := hr6.sub (i := i * 2) (l := 2)
      rw [slots_reads hs1] at hre1
      obtain ⟨b7, o7, cap7, cc7, T7, f7, hw7, hbv7, hr7⟩ := hv2.open (by omega)
      cases hw7
      obtain ⟨s2, hs2⟩ : ∃ s, l2[i]? = some s := ⟨_, List.getElem?_eq_getElem (by omega)⟩
      have hre2 := hr7.sub (i := i * 2) (l := 2)
      rw [slots_reads hs2] at hre2
      refine Wp.skip ?_
      refine Ends.seq ?_
      refine Wp.seq ?_
      refine Wp.block ?_
      refine Wp.seq ?_
      refine AnyH.start G 9 rfl ?_
      refine AnyH.take 0 rfl (by kernel_rfl) (by kernel_rfl) (by kernel_rfl) PF.pf rfl (pv_move rfl) rfl ?_
      refine AnyH.take 1 rfl (by kernel_rfl) (by kernel_rfl) (by kernel_rfl) PF.pf rfl (pv_move rfl) rfl ?_
      refine AnyH.take 2 rfl (by kernel_rfl) (by kernel_rfl) (by kernel_rfl) PF.pf rfl (pv_indexAddr (i := i) rfl rfl rfl (by omega)) rfl ?_
      refine AnyH.take 3 rfl (by kernel_rfl) (by kernel_rfl) (by kernel_rfl) PF.pf rfl (pv_loadK [.int .i64 s1.1, .int .i64 s1.2] rfl rfl rfl hre1) rfl ?_
      refine AnyH.take 4 rfl (by kernel_rfl) (by kernel_rfl) (by kernel_rfl) PF.pf rfl (pv_move rfl) rfl ?_
      refine AnyH.take 5 rfl (by kernel_rfl) (by kernel_rfl) (by kernel_rfl) PF.pf rfl (pv_move rfl) rfl ?_
      refine AnyH.take 6 rfl (by kernel_rfl) (by kernel_rfl) (by kernel_rfl) PF.pf rfl (pv_indexAddr (i := i) rfl rfl rfl (by omega)) rfl ?_
      refine AnyH.take 7 rfl (by kernel_rfl) (by kernel_rfl) (by kernel_rfl) PF.pf rfl (pv_loadK [.int .i64 s2.1, .int .i64 s2.2] rfl rfl rfl hre2) rfl ?_
      refine AnyH.take 8 rfl (by kernel_rfl) (by kernel_rfl) (by kernel_rfl) PF.pf rfl (pv_neq_slot (a := s1) (b := s2) rfl rfl) rfl ?_
      refine AnyH.done (by kernel_rfl) ?_
      refine Ends.seq ?_
      first | refine Wp.cond_dect rfl (fun h3 => ?_) (fun h3 => ?_) | refine Wp.cond_t rfl (fun h3 => ?_) (fun h3 => ?_)
      · refine Wp.seq ?_
        refine Wp.region ?_
        refine Ops.pv (pv_assign rfl) rfl ?_
        refine Ops.nil ?_
        refine Ends.seq ?_
        refine Wp.ret ?_
        refine Ends.block_ret ?_
        refine Ends.then_ret ?_
        refine Ends.then_ret ?_
        refine Ends.block_ret ?_
        refine Ends.then_ret ?_
        exact Ends.ret (res1 rfl rfl) ⟨by rw [decide_eq_false (slots_neq hs1 hs2 (by assumption))], rfl⟩
      · refine Wp.skip ?_
        refine Ends.block_normal ?_
        refine Ends.seq ?_
        refine Wp.region ?_
        refine Ops.pv (pv_move rfl) rfl ?_
        first | refine Ops.pv (pv_add rfl rfl (w64 (by omega) (by omega))) rfl ?_ | refine Ops.pv (pv_add rfl rfl rfl) rfl ?_
        refine Ops.pv (pv_assign rfl) rfl ?_
        refine Ops.nil ?_
        refine Ends.goes ?_
        refine Goes.back (hK (i + 1) ⟨by omega, fun j hj => ?_⟩ (by omega)) ⟨rfl, rfl, rfl, trivial⟩
        rcases Nat.lt_succ_iff_lt_or_eq.1 hj with hj | rfl
        · exact hn j hj
        · rw [hs1, hs2, show s1 = s2 by simp_all]
    · refine Wp.exit ?_
      refine Ends.then_exit ?_
      refine Ends.then_exit ?_
      refine Ends.block_hit ?_
      refine Ends.seq ?_
      refine Wp.seq ?_
      refine Wp.region ?_
      refine Ops.pv (pv_assign rfl) rfl ?_
      refine Ops.nil ?_
      refine Ends.seq ?_
      refine Wp.ret ?_
      exact Ends.ret (res1 rfl rfl) ⟨by rw [decide_eq_true (slots_same (by omega) (fun j hj => hn j (by omega)))], rfl⟩

theorem tr_dadd_twice (qb : Nat) (L : Hp) (l : List DN) (hH : DstH l qb L) (hl : l.length ≤ 2 ^ 20) (id r : Int) (d : DN) (h : dfind l id = some d) : Tr Try.prog 37 [.pointer (some ⟨qb, 0, none⟩), .int .i64 id, .int .i64 r] (L) (fun u L' => DAdd l id r qb u L') := by
  obtain ⟨v, H, hs, rfl⟩ := hH
  obtain ⟨a, c0, rfl⟩ := hs.form
  have hv := hs.view
  obtain ⟨i, hi, hd, hid⟩ := dfind_some h
  refine Tr.enter Try.func37 rfl Try.ntmps37 rfl (fun W F => ?_)
  refine Wp.app ?_
  refine Wp.seq ?_
  refine Wp.region ?_
  refine Ops.pv (pv_assign rfl) rfl ?_
  refine Ops.nil ?_
  refine Ends.seq ?_
  refine Wp.seq ?_
  refine Wp.block ?_
  refine Wp.seq ?_
  refine Wp.region ?_
  refine Ops.pv (pv_move rfl) rfl ?_
  refine Ops.pv (pv_lss rfl rfl) rfl ?_
  refine Ops.pv (pv_move rfl) rfl ?_
  first | refine Ops.split (t := 12) rfl (fun h1 => ?_) (fun h1 => ?_) | refine Ops.splitb (t := 12) rfl (fun h1 => ?_) (fun h1 => ?_)
  · refine Ops.skipg ⟨_, _, rfl, rfl, rfl⟩ rfl ?_
    refine Ops.skipg ⟨_, _, rfl, rfl, rfl⟩ rfl ?_
    refine Ops.pv (pv_pick_true rfl rfl) rfl ?_
    refine Ops.pv (pv_move rfl) rfl ?_
    refine Ops.skipg ⟨_, _, rfl, rfl, rfl⟩ rfl ?_
    refine Ops.skipg ⟨_, _, rfl, rfl, rfl⟩ rfl ?_
    refine Ops.pv (pv_pick_true rfl rfl) rfl ?_
    refine Ops.pv (pv_move rfl) rfl ?_
    refine Ops.skipg ⟨_, _, rfl, rfl, rfl⟩ rfl ?_
    refine Ops.skipg ⟨_, _, rfl, rfl, rfl⟩ rfl ?_
    refine Ops.pv (pv_pick_true rfl rfl) rfl ?_
    refine Ops.pv (pv_assign rfl) rfl ?_
    refine Ops.nil ?_
    refine Ends.seq ?_
    refine Wp.cond_true rfl ?_
    refine Wp.seq ?_
    refine Wp.region ?_
    refine Ops.pv (pv_assign rfl) rfl ?_
    refine Ops.nil ?_
    refine Ends.seq ?_
    refine Wp.ret ?_
    refine Ends.block_ret ?_
    refine Ends.then_ret ?_
    have he : daddErr l id r = 1 := by unfold daddErr; rw [if_pos (by omega)]
    exact Ends.ret (L' := dBlk qb (.slice a l.length c0) :: (H ++ dCaps l)) (res1 rfl rfl) ⟨by rw [he], .inl ⟨by omega, _, H, hs, rfl⟩⟩
  · refine Ops.pvg ⟨_, _, rfl, rfl, rfl⟩ (pv_move rfl) rfl ?_
    refine Ops.pvg ⟨_, _, rfl, rfl, rfl⟩ (pv_gtr rfl rfl) rfl ?_
    refine Ops.pv (pv_pick_false rfl rfl) rfl ?_
    refine Ops.pv (pv_move rfl) rfl ?_
    first | refine Ops.split (t := 16) rfl (fun h2 => ?_) (fun h2 => ?_) | refine Ops.splitb (t := 16) rfl (fun h2 => ?_) (fun h2 => ?_)
    · refine Ops.skipg ⟨_, _, rfl, rfl, rfl⟩ rfl ?_
      refine Ops.skipg ⟨_, _, rfl, rfl, rfl⟩ rfl ?_
      refine Ops.pv (pv_pick_true rfl rfl) rfl ?_
      refine Ops.pv (pv_move rfl) rfl ?_
      refine Ops.skipg ⟨_, _, rfl, rfl, rfl⟩ rfl ?_
      refine Ops.skipg ⟨_, _, rfl, rfl, rfl⟩ rfl ?_
      refine Ops.pv (pv_pick_true rfl rfl) rfl ?_
      refine Ops.pv (pv_assign rfl) rfl ?_
      refine Ops.nil ?_
      refine Ends.seq ?_
      refine Wp.cond_true rfl ?_
      refine Wp.seq ?_
      refine Wp.region ?_
      refine Ops.pv (pv_assign rfl) rfl ?_
      refine Ops.nil ?_
      refine Ends.seq ?_
      refine Wp.ret ?_
      refine Ends.block_ret ?_
      refine Ends.then_ret ?_
      have he : daddErr l id r = 1 := by unfold daddErr; rw [if_pos (by omega)]
      exact Ends.ret (L' := dBlk qb (.slice a l.length c0) :: (H ++ dCaps l)) (res1 rfl rfl) ⟨by rw [he], .inl ⟨by omega, _, H, hs, rfl⟩⟩
    · refine Ops.pvg ⟨_, _, rfl, rfl, rfl⟩ (pv_move rfl) rfl ?_
      refine Ops.pvg ⟨_, _, rfl, rfl, rfl⟩ (pv_lss rfl rfl) rfl ?_
      refine Ops.pv (pv_pick_false rfl rfl) rfl ?_
      refine Ops.pv (pv_move rfl) rfl ?_
      first | refine Ops.split (t := 20) rfl (fun h3 => ?_) (fun h3 => ?_) | refine Ops.splitb (t := 20) rfl (fun h3 => ?_) (fun h3 => ?_)
      · refine Ops.skipg ⟨_, _, rfl, rfl, rfl⟩ rfl ?_
        refine Ops.skipg ⟨_, _, rfl, rfl, rfl⟩ rfl ?_
        refine Ops.pv (pv_pick_true rfl rfl) rfl ?_
        refine Ops.pv (pv_assign rfl) rfl ?_
        refine Ops.nil ?_
        refine Ends.seq ?_
        refine Wp.cond_true rfl ?_
        refine Wp.seq ?_
        refine Wp.region ?_
        refine Ops.pv (pv_assign rfl) rfl ?_
        refine Ops.nil ?_
        refine Ends.seq ?_
        refine Wp.ret ?_
        refine Ends.block_ret ?_
        refine Ends.then_ret ?_
        have he : daddErr l id r = 1 := by unfold daddErr; rw [if_pos (by omega)]
        exact Ends.ret (L' := dBlk qb (.slice a l.length c0) :: (H ++ dCaps l)) (res1 rfl rfl) ⟨by rw [he], .inl ⟨by omega, _, H, hs, rfl⟩⟩
      · refine Ops.pvg ⟨_, _, rfl, rfl, rfl⟩ (pv_move rfl) rfl ?_
        refine Ops.pvg ⟨_, _, rfl, rfl, rfl⟩ (pv_gtr rfl rfl) rfl ?_
        refine Ops.pv (pv_pick_false rfl rfl) rfl ?_
        refine Ops.pv (pv_assign rfl) rfl ?_
        refine Ops.nil ?_
        refine Ends.seq ?_
        first | refine Wp.cond_dect rfl (fun h4 => ?_) (fun h4 => ?_) | refine Wp.cond_t rfl (fun h4 => ?_) (fun h4 => ?_)
        · refine Wp.seq ?_
          refine Wp.region ?_
          refine Ops.pv (pv_assign rfl) rfl ?_
          refine Ops.nil ?_
          refine Ends.seq ?_
          refine Wp.ret ?_
          refine Ends.block_ret ?_
          refine Ends.then_ret ?_
          have he : daddErr l id r = 1 := by unfold daddErr; rw [if_pos (by omega)]
          exact Ends.ret (L' := dBlk qb (.slice a l.length c0) :: (H ++ dCaps l)) (res1 rfl rfl) ⟨by rw [he], .inl ⟨by omega, _, H, hs, rfl⟩⟩
        · refine Wp.seq ?_
          refine Wp.region ?_
          refine Ops.pv (pv_move rfl) rfl ?_
          refine Ops.pv (pv_move rfl) rfl ?_
          refine Ops.ef rfl (ef_callr ((tr_dat qb _ l ⟨_, H, hs, rfl⟩ hl id).eq (by rw [hi])) rfl rfl) ?_
          rintro _ _ ⟨rfl, rfl⟩
          refine Ops.pv (pv_geq rfl rfl) rfl ?_
          refine Ops.pv (pv_assign rfl) rfl ?_
          refine Ops.nil ?_
          refine Ends.seq ?_
          refine Wp.cond_true rfl ?_
          refine Wp.seq ?_
          refine Wp.region ?_
          refine Ops.pv (pv_assign rfl) rfl ?_
          refine Ops.nil ?_
          refine Ends.seq ?_
          refine Wp.ret ?_
          refine Ends.block_ret ?_
          refine Ends.then_ret ?_
          have he : daddErr l id r = 4 := by unfold daddErr; rw [if_neg (by omega), h]; rfl
          exact Ends.ret (L' := dBlk qb (.slice a l.length c0) :: (H ++ dCaps l)) (res1 rfl rfl) ⟨by rw [he], .inl ⟨by omega, _, H, hs, rfl⟩⟩

set_option maxHeartbeats 4000000 in
theorem tr_dadd_new (qb : Nat) (L : Hp) (l : List DN) (hH : DstH l qb L) (hl : l.length ≤ 2 ^ 20) (id r : Int) (h : dfind l id = none) : Tr Try.prog 37 [.pointer (some ⟨qb, 0, none⟩), .int .i64 id, .int .i64 r] (L) (fun u L' => DAdd l id r qb u L') := by
  obtain ⟨v, H, hs, rfl⟩ := hH
  obtain ⟨a, c0, rfl⟩ := hs.form
  have hv := hs.view
  have hlc : l.length ≤ c0 := by obtain ⟨_, _, _, e, h, _⟩ := hv; cases e; exact h
  refine Tr.enter Try.func37 rfl Try.ntmps37 rfl (fun W F => ?_)
  refine Wp.app ?_
  refine Wp.seq ?_
  refine Wp.region ?_
  refine Ops.pv (pv_assign rfl) rfl ?_
  refine Ops.nil ?_
  refine Ends.seq ?_
  refine Wp.seq ?_
  refine Wp.block ?_
  refine Wp.seq ?_
  refine Wp.region ?_
  refine Ops.pv (pv_move rfl) rfl ?_
  refine Ops.pv (pv_lss rfl rfl) rfl ?_
  refine Ops.pv (pv_move rfl) rfl ?_
  first | refine Ops.split (t := 12) rfl (fun h1 => ?_) (fun h1 => ?_) | refine Ops.splitb (t := 12) rfl (fun h1 => ?_) (fun h1 => ?_)
  · refine Ops.skipg ⟨_, _, rfl, rfl, rfl⟩ rfl ?_
    refine Ops.skipg ⟨_, _, rfl, rfl, rfl⟩ rfl ?_
    refine Ops.pv (pv_pick_true rfl rfl) rfl ?_
    refine Ops.pv (pv_move rfl) rfl ?_
    refine Ops.skipg ⟨_, _, rfl, rfl, rfl⟩ rfl ?_
    refine Ops.skipg ⟨_, _, rfl, rfl, rfl⟩ rfl ?_
    refine Ops.pv (pv_pick_true rfl rfl) rfl ?_
    refine Ops.pv (pv_move rfl) rfl ?_
    refine Ops.skipg ⟨_, _, rfl, rfl, rfl⟩ rfl ?_
    refine Ops.skipg ⟨_, _, rfl, rfl, rfl⟩ rfl ?_
    refine Ops.pv (pv_pick_true rfl rfl) rfl ?_
    refine Ops.pv (pv_assign rfl) rfl ?_
    refine Ops.nil ?_
    refine Ends.seq ?_
    refine Wp.cond_true rfl ?_
    refine Wp.seq ?_
    refine Wp.region ?_
    refine Ops.pv (pv_assign rfl) rfl ?_
    refine Ops.nil ?_
    refine Ends.seq ?_
    refine Wp.ret ?_
    refine Ends.block_ret ?_
    refine Ends.then_ret ?_
    have he : daddErr l id r = 1 := by unfold daddErr; rw [if_pos (by omega)]
    exact Ends.ret (L' := dBlk qb (.slice a l.length c0) :: (H ++ dCaps l)) (res1 rfl rfl) ⟨by rw [he], .inl ⟨by omega, _, H, hs, rfl⟩⟩
  · refine Ops.pvg ⟨_, _, rfl, rfl, rfl⟩ (pv_move rfl) rfl ?_
    refine Ops.pvg ⟨_, _, rfl, rfl, rfl⟩ (pv_gtr rfl rfl) rfl ?_
    refine Ops.pv (pv_pick_false rfl rfl) rfl ?_
    refine Ops.pv (pv_move rfl) rfl ?_
    first | refine Ops.split (t := 16) rfl (fun h2 => ?_) (fun h2 => ?_) | refine Ops.splitb (t := 16) rfl (fun h2 => ?_) (fun h2 => ?_)
    · refine Ops.skipg ⟨_, _, rfl, rfl, rfl⟩ rfl ?_
      refine Ops.skipg ⟨_, _, rfl, rfl, rfl⟩ rfl ?_
      refine Ops.pv (pv_pick_true rfl rfl) rfl ?_
      refine Ops.pv (pv_move rfl) rfl ?_
      refine Ops.skipg ⟨_, _, rfl, rfl, rfl⟩ rfl ?_
      refine Ops.skipg ⟨_, _, rfl, rfl, rfl⟩ rfl ?_
      refine Ops.pv (pv_pick_true rfl rfl) rfl ?_
      refine Ops.pv (pv_assign rfl) rfl ?_
      refine Ops.nil ?_
      refine Ends.seq ?_
      refine Wp.cond_true rfl ?_
      refine Wp.seq ?_
      refine Wp.region ?_
      refine Ops.pv (pv_assign rfl) rfl ?_
      refine Ops.nil ?_
      refine Ends.seq ?_
      refine Wp.ret ?_
      refine Ends.block_ret ?_
      refine Ends.then_ret ?_
      have he : daddErr l id r = 1 := by unfold daddErr; rw [if_pos (by omega)]
      exact Ends.ret (L' := dBlk qb (.slice a l.length c0) :: (H ++ dCaps l)) (res1 rfl rfl) ⟨by rw [he], .inl ⟨by omega, _, H, hs, rfl⟩⟩
    · refine Ops.pvg ⟨_, _, rfl, rfl, rfl⟩ (pv_move rfl) rfl ?_
      refine Ops.pvg ⟨_, _, rfl, rfl, rfl⟩ (pv_lss rfl rfl) rfl ?_
      refine Ops.pv (pv_pick_false rfl rfl) rfl ?_
      refine Ops.pv (pv_move rfl) rfl ?_
      first | refine Ops.split (t := 20) rfl (fun h3 => ?_) (fun h3 => ?_) | refine Ops.splitb (t := 20) rfl (fun h3 => ?_) (fun h3 => ?_)
      · refine Ops.skipg ⟨_, _, rfl, rfl, rfl⟩ rfl ?_
        refine Ops.skipg ⟨_, _, rfl, rfl, rfl⟩ rfl ?_
        refine Ops.pv (pv_pick_true rfl rfl) rfl ?_
        refine Ops.pv (pv_assign rfl) rfl ?_
        refine Ops.nil ?_
        refine Ends.seq ?_
        refine Wp.cond_true rfl ?_
        refine Wp.seq ?_
        refine Wp.region ?_
        refine Ops.pv (pv_assign rfl) rfl ?_
        refine Ops.nil ?_
        refine Ends.seq ?_
        refine Wp.ret ?_
        refine Ends.block_ret ?_
        refine Ends.then_ret ?_
        have he : daddErr l id r = 1 := by unfold daddErr; rw [if_pos (by omega)]
        exact Ends.ret (L' := dBlk qb (.slice a l.length c0) :: (H ++ dCaps l)) (res1 rfl rfl) ⟨by rw [he], .inl ⟨by omega, _, H, hs, rfl⟩⟩
      · refine Ops.pvg ⟨_, _, rfl, rfl, rfl⟩ (pv_move rfl) rfl ?_
        refine Ops.pvg ⟨_, _, rfl, rfl, rfl⟩ (pv_gtr rfl rfl) rfl ?_
        refine Ops.pv (pv_pick_false rfl rfl) rfl ?_
        refine Ops.pv (pv_assign rfl) rfl ?_
        refine Ops.nil ?_
        refine Ends.seq ?_
        first | refine Wp.cond_dect rfl (fun h4 => ?_) (fun h4 => ?_) | refine Wp.cond_t rfl (fun h4 => ?_) (fun h4 => ?_)
        · refine Wp.seq ?_
          refine Wp.region ?_
          refine Ops.pv (pv_assign rfl) rfl ?_
          refine Ops.nil ?_
          refine Ends.seq ?_
          refine Wp.ret ?_
          refine Ends.block_ret ?_
          refine Ends.then_ret ?_
          have he : daddErr l id r = 1 := by unfold daddErr; rw [if_pos (by omega)]
          exact Ends.ret (L' := dBlk qb (.slice a l.length c0) :: (H ++ dCaps l)) (res1 rfl rfl) ⟨by rw [he], .inl ⟨by omega, _, H, hs, rfl⟩⟩
        · refine Wp.seq ?_
          refine Wp.region ?_
          refine Ops.pv (pv_move rfl) rfl ?_
          refine Ops.pv (pv_move rfl) rfl ?_
          refine Ops.ef rfl (ef_callr ((tr_dat qb _ l ⟨_, H, hs, rfl⟩ hl id).eq (by rw [dfind_none h])) rfl rfl) ?_
          rintro _ _ ⟨rfl, rfl⟩
          refine Ops.pv (pv_geq rfl rfl) rfl ?_
          refine Ops.pv (pv_assign rfl) rfl ?_
          refine Ops.nil ?_
          refine Ends.seq ?_
          refine Wp.cond_false rfl ?_
          refine Wp.skip ?_
          refine Ends.block_normal ?_
          refine Ends.seq ?_
          refine Wp.seq ?_
          refine Wp.region ?_
          refine Ops.pv (pv_assign rfl) rfl ?_
          refine Ops.nil ?_
          refine Ends.seq ?_
          refine Wp.seq ?_
          refine Wp.block ?_
          refine Wp.loopK (σ := Nat) [(0, _), (1, _), (2, _)] (fun s => [(7, .int .i64 s)]) (fun s => dBlk qb (.slice a l.length c0) :: (H ++ (dCaps l ++ F))) (fun s => s ≤ l.length ∧ ∀ j d, j < s → l[j]? = some d → (d.id : Int) < id) (fun s => l.length - s) 0 ⟨Nat.zero_le _, fun j d hj => absurd hj (Nat.not_lt_zero j)⟩ ⟨rfl, rfl, rfl, trivial⟩ ⟨rfl, trivial⟩ (by intro w ho; (try dsimp only [List.nil_append, List.cons_append]); exact Drop.own ho) ?_
          rintro n KK ⟨hn, hb⟩ hK
          dsimp only [List.cons_append, List.nil_append] at hK ⊢
          refine Wp.seq ?_
          refine Wp.seq ?_
          refine Wp.region ?_
          refine Ops.pv (pv_move rfl) rfl ?_
          refine Ops.pv (pv_move rfl) rfl ?_
          first | refine Ops.pv (pv_nilCheck rfl) rfl ?_ | refine Ops.pv (pv_nilCheck_func rfl rfl) rfl ?_
          first | refine Ops.pv (pv_fieldAddr0 rfl rfl) rfl ?_ | refine Ops.pv (pv_fieldAddr rfl rfl) rfl ?_
          first | refine Ops.pv (pv_load rfl rfl rfl) rfl ?_ | refine Ops.pv (pv_load rfl rfl (by assumption)) rfl ?_
          refine Ops.pv (pv_len_slice (T := 69) rfl rfl) rfl ?_
          refine Ops.pv (pv_lss rfl rfl) rfl ?_
          refine Ops.pv (pv_move rfl) rfl ?_
          first | refine Ops.split (t := 36) rfl (fun h5 => ?_) (fun h5 => ?_) | refine Ops.splitb (t := 36) rfl (fun h5 => ?_) (fun h5 => ?_)
          · obtain ⟨b, o, cap, cc, T, f, hv1, hbv, hr⟩ := hv.open (by omega)
            cases hv1
            obtain ⟨d, hd⟩ : ∃ d, l[n]? = some d := ⟨_, List.getElem?_eq_getElem (by omega)⟩
            obtain ⟨q0, q1, q2, _⟩ := cel_reads (f := dnC) hr hd
            refine Ops.pvg ⟨_, _, rfl, rfl, rfl⟩ (pv_move rfl) rfl ?_
            first | refine Ops.pvg ⟨_, _, rfl, rfl, rfl⟩ (pv_nilCheck rfl) rfl ?_ | refine Ops.pvg ⟨_, _, rfl, rfl, rfl⟩ (pv_nilCheck_func rfl rfl) rfl ?_
            first | refine Ops.pvg ⟨_, _, rfl, rfl, rfl⟩ (pv_fieldAddr0 rfl rfl) rfl ?_ | refine Ops.pvg ⟨_, _, rfl, rfl, rfl⟩ (pv_fieldAddr rfl rfl) rfl ?_
            first | refine Ops.pvg ⟨_, _, rfl, rfl, rfl⟩ (pv_load rfl rfl rfl) rfl ?_ | refine Ops.pvg ⟨_, _, rfl, rfl, rfl⟩ (pv_load rfl rfl (by assumption)) rfl ?_
            refine Ops.pvg ⟨_, _, rfl, rfl, rfl⟩ (pv_move rfl) rfl ?_
            refine Ops.pvg ⟨_, _, rfl, rfl, rfl⟩ (pv_indexAddr (i := n) rfl rfl rfl (by omega)) rfl ?_
            first | refine Ops.pvg ⟨_, _, rfl, rfl, rfl⟩ (pv_fieldAddr0 rfl rfl) rfl ?_ | refine Ops.pvg ⟨_, _, rfl, rfl, rfl⟩ (pv_fieldAddr rfl rfl) rfl ?_
            refine Ops.pvg ⟨_, _, rfl, rfl, rfl⟩ (pv_load rfl rfl q0) rfl ?_
            refine Ops.pvg ⟨_, _, rfl, rfl, rfl⟩ (pv_move rfl) rfl ?_
            refine Ops.pvg ⟨_, _, rfl, rfl, rfl⟩ (pv_lss rfl rfl) rfl ?_
            refine Ops.pv (pv_pick_true rfl rfl) rfl ?_
            refine Ops.nil ?_
            refine Ends.seq ?_
            first | refine Wp.cond_dect rfl (fun h6 => ?_) (fun h6 => ?_) | refine Wp.cond_t rfl (fun h6 => ?_) (fun h6 => ?_)
            · refine Wp.skip ?_
              refine Ends.seq ?_
              refine Wp.block ?_
              refine Wp.region ?_
              refine Ops.pv (pv_move rfl) rfl ?_
              first | refine Ops.pv (pv_add rfl rfl (w64 (by omega) (by omega))) rfl ?_ | refine Ops.pv (pv_add rfl rfl rfl) rfl ?_
              refine Ops.pv (pv_assign rfl) rfl ?_
              refine Ops.nil ?_
              refine Ends.block_normal ?_
              refine Ends.goes ?_
              refine Goes.back (hK (n + 1) ⟨by omega, fun j d0 hj hd0 => ?_⟩ (by omega)) ⟨rfl, rfl, rfl, rfl, trivial⟩
              rcases Nat.lt_succ_iff_lt_or_eq.1 hj with hj | rfl
              · exact hb j d0 hj hd0
              · rw [hd] at hd0; cases hd0; assumption
            · refine Wp.exit ?_
              refine Ends.then_exit ?_
              refine Ends.then_exit ?_
              refine Ends.block_hit ?_
              refine Ends.seq ?_
              refine Wp.seq ?_
              refine Wp.region ?_
              obtain ⟨m, rfl⟩ : ∃ m : Nat, id = m := ⟨id.toNat, by omega⟩
              obtain ⟨k, rfl⟩ : ∃ k : Nat, r = k := ⟨r.toNat, by omega⟩
              obtain ⟨hp1, hp2⟩ := pow4 (k := k) (by omega)
              have hA := hv.part (i := 0) (j := n) (Nat.zero_le _) (by omega)
              have hB := hv.part (i := n) (j := l.length) (by omega) (Nat.le_refl _)
              have eA : (l.drop 0).take (n - 0) = l.take n := by simp
              have eB : (l.drop n).take (l.length - n) = l.drop n := List.take_of_length_le (by simp)
              rw [eA] at hA
              rw [eB] at hB
              have lA : (l.take n).length = n := by rw [List.length_take]; omega
              have lB : (l.drop n).length = l.length - n := by simp
              refine Ops.ef rfl (ef_buildSlice0 rfl) ?_
              rintro _ _ ⟨b1, rfl, rfl⟩
              refine Ops.pv (pv_move rfl) rfl ?_
              first | refine Ops.pv (pv_nilCheck rfl) rfl ?_ | refine Ops.pv (pv_nilCheck_func rfl rfl) rfl ?_
              first | refine Ops.pv (pv_fieldAddr0 rfl rfl) rfl ?_ | refine Ops.pv (pv_fieldAddr rfl rfl) rfl ?_
              first | refine Ops.pv (pv_load rfl rfl rfl) rfl ?_ | refine Ops.pv (pv_load rfl rfl (by assumption)) rfl ?_
              refine Ops.pv (pv_move rfl) rfl ?_
              refine Ops.pv (pv_sliceL (i := 0) (j := n) (r := (l.take n).length) rfl rfl ⟨_, rfl⟩ (Nat.zero_le _) (by omega) (by omega)) rfl ?_
              refine Ops.ef rfl (ef_appendV (H := [(b1, .cells ([] : List Value).toArray 118)]) rfl (slc_empty' 118 3 b1) rfl (hA.mono (by intro p hp; simp [hp])) (cel_one _) (by omega) (by omega) rfl rfl) ?_
              rintro _ _ ⟨u1, K1, hu1, rfl, rfl⟩
              refine Ops.app ?_
              rw [Nat.zero_add, List.nil_append] at hu1
              refine Ops.pv (pv_assign rfl) rfl ?_
              refine Ops.nil ?_
              refine Ends.seq ?_
              refine Wp.seq ?_
              refine Wp.region ?_
              refine Ops.pv (pv_move rfl) rfl ?_
              refine Ops.pv (pv_move rfl) rfl ?_
              refine Ops.pv (pv_move rfl) rfl ?_
              refine Ops.pv (pv_move rfl) rfl ?_
              refine Ops.pv (pv_shl rfl rfl (by omega) (sh1N (by omega))) rfl ?_
              refine Ops.ef rfl (ef_makeSlice (r := 2 ^ k) CapM.zero.cells rfl rfl rfl rfl (by decide) hp1 hp2 (by decide) rfl) ?_
              rintro _ _ ⟨cb1, rfl, rfl⟩
              rw [replicate_caps]
              refine Ops.pv (pv_build rfl) rfl ?_
              refine Ops.ef rfl (ef_buildSlice1 (k := 3) rfl rfl rfl rfl rfl) ?_
              rintro _ _ ⟨b2, rfl, rfl⟩
              refine Ops.ef rfl (ef_append (H := K1) (xs := [.int .i64 (m : Int), .int .i64 (k : Int), .slice (some ⟨cb1, 0, none⟩) (2 ^ k) (2 ^ k)]) rfl hu1 rfl ⟨rfl, rfl, rfl, trivial⟩ rfl rfl rfl (by omega) (by omega) rfl rfl) ?_
              rintro _ _ ⟨u2, K2, hu2, rfl, rfl⟩
              refine Ops.app ?_
              refine Ops.pv (pv_assign rfl) rfl ?_
              refine Ops.nil ?_
              refine Ends.seq ?_
              refine Wp.seq ?_
              refine Wp.region ?_
              refine Ops.pv (pv_move rfl) rfl ?_
              refine Ops.pv (pv_move rfl) rfl ?_
              refine Ops.pv (pv_move rfl) rfl ?_
              first | refine Ops.pv (pv_nilCheck rfl) rfl ?_ | refine Ops.pv (pv_nilCheck_func rfl rfl) rfl ?_
              first | refine Ops.pv (pv_fieldAddr0 rfl rfl) rfl ?_ | refine Ops.pv (pv_fieldAddr rfl rfl) rfl ?_
              first | refine Ops.pv (pv_load rfl rfl rfl) rfl ?_ | refine Ops.pv (pv_load rfl rfl (by assumption)) rfl ?_
              refine Ops.pv (pv_move rfl) rfl ?_
              refine Ops.pv (pv_sliceL (i := n) (j := l.length) (r := (l.drop n).length) rfl ⟨_, rfl⟩ rfl (by omega) (by omega) lB.symm) rfl ?_
              refine Ops.ef rfl (ef_appendV (H := K2) rfl hu2 rfl (hB.mono (by intro p hp; simp [hp])) (cel_one _) (by omega) (by omega) rfl rfl) ?_
              rintro _ _ ⟨u3, K3, hu3, rfl, rfl⟩
              refine Ops.app ?_
              have ho1 := hu3.one
              have ho2 := hu3.cells1
              first | refine Ops.pv (pv_nilCheck rfl) rfl ?_ | refine Ops.pv (pv_nilCheck_func rfl rfl) rfl ?_
              first | refine Ops.pv (pv_fieldAddr0 rfl rfl) rfl ?_ | refine Ops.pv (pv_fieldAddr rfl rfl) rfl ?_
              refine Ops.ef rfl (ef_store1 rfl rfl (by first | rfl | assumption) (by first | rfl | assumption)) ?_
              rintro _ _ ⟨rfl, rfl⟩
              refine Ops.nil ?_
              refine Ends.seq ?_
              refine Wp.seq ?_
              refine Wp.region ?_
              refine Ops.pv (pv_assign rfl) rfl ?_
              refine Ops.nil ?_
              refine Ends.seq ?_
              refine Wp.ret ?_
              have he : daddErr l (m : Int) (k : Int) = 0 := by unfold daddErr; rw [if_neg (by omega), h]; rfl
              have hpl : dPlace l (m : Int) n := ⟨by omega, hb, fun d0 hd0 => by first | (rw [List.getElem?_eq_none (by omega)] at hd0; cases hd0) | (rw [hd] at hd0; cases hd0; assumption)⟩
              rw [← newN_c m k cb1, cel_ins, len_ins (newN m k cb1) (by omega)] at hu3
              refine Ends.heap (L' := dBlk qb u3 :: (K3 ++ (dCaps (l.take n ++ newN m k cb1 :: l.drop n) ++ F))) (fun w ho => ?_) ?_
              · have h2 : Own W w ((cb1, .cells (capsCells (List.replicate (2 ^ k) CapM.zero)).toArray 29) :: (K3 ++ (dCaps l ++ (dBlk qb u3 :: F)))) := Drop.own ho
                have h3 := h2.perm (dadd_perm (d := newN m k cb1) (n := n))
                exact (Drop.own h3 : Own W w (dBlk qb u3 :: (K3 ++ (dCaps (l.take n ++ newN m k cb1 :: l.drop n) ++ F))))
              exact Ends.ret (L' := dBlk qb u3 :: (K3 ++ dCaps (l.take n ++ newN m k cb1 :: l.drop n))) (res1 rfl rfl) ⟨by rw [he], .inr ⟨he, n, cb1, hpl, _, _, hu3, rfl⟩⟩
          · refine Ops.skipg ⟨_, _, rfl, rfl, rfl⟩ rfl ?_
            refine Ops.skipg ⟨_, _, rfl, rfl, rfl⟩ rfl ?_
            refine Ops.skipg ⟨_, _, rfl, rfl, rfl⟩ rfl ?_
            refine Ops.skipg ⟨_, _, rfl, rfl, rfl⟩ rfl ?_
            refine Ops.skipg ⟨_, _, rfl, rfl, rfl⟩ rfl ?_
            refine Ops.skipg ⟨_, _, rfl, rfl, rfl⟩ rfl ?_
            refine Ops.skipg ⟨_, _, rfl, rfl, rfl⟩ rfl ?_
            refine Ops.skipg ⟨_, _, rfl, rfl, rfl⟩ rfl ?_
            refine Ops.skipg ⟨_, _, rfl, rfl, rfl⟩ rfl ?_
            refine Ops.skipg ⟨_, _, rfl, rfl, rfl⟩ rfl ?_
            refine Ops.pv (pv_pick_false rfl rfl) rfl ?_
            refine Ops.nil ?_
            refine Ends.seq ?_
            refine Wp.cond_false rfl ?_
            refine Wp.exit ?_
            refine Ends.then_exit ?_
            refine Ends.then_exit ?_
            refine Ends.block_hit ?_
            refine Ends.seq ?_
            refine Wp.seq ?_
            refine Wp.region ?_
            obtain ⟨m, rfl⟩ : ∃ m : Nat, id = m := ⟨id.toNat, by omega⟩
            obtain ⟨k, rfl⟩ : ∃ k : Nat, r = k := ⟨r.toNat, by omega⟩
            obtain ⟨hp1, hp2⟩ := pow4 (k := k) (by omega)
            have hA := hv.part (i := 0) (j := n) (Nat.zero_le _) (by omega)
            have hB := hv.part (i := n) (j := l.length) (by omega) (Nat.le_refl _)
            have eA : (l.drop 0).take (n - 0) = l.take n := by simp
            have eB : (l.drop n).take (l.length - n) = l.drop n := List.take_of_length_le (by simp)
            rw [eA] at hA
            rw [eB] at hB
            have lA : (l.take n).length = n := by rw [List.length_take]; omega
            have lB : (l.drop n).length = l.length - n := by simp
            refine Ops.ef rfl (ef_buildSlice0 rfl) ?_
            rintro _ _ ⟨b3, rfl, rfl⟩
            refine Ops.pv (pv_move rfl) rfl ?_
            first | refine Ops.pv (pv_nilCheck rfl) rfl ?_ | refine Ops.pv (pv_nilCheck_func rfl rfl) rfl ?_
            first | refine Ops.pv (pv_fieldAddr0 rfl rfl) rfl ?_ | refine Ops.pv (pv_fieldAddr rfl rfl) rfl ?_
            first | refine Ops.pv (pv_load rfl rfl rfl) rfl ?_ | refine Ops.pv (pv_load rfl rfl (by assumption)) rfl ?_
            refine Ops.pv (pv_move rfl) rfl ?_
            refine Ops.pv (pv_sliceL (i := 0) (j := n) (r := (l.take n).length) rfl rfl ⟨_, rfl⟩ (Nat.zero_le _) (by omega) (by omega)) rfl ?_
            refine Ops.ef rfl (ef_appendV (H := [(b3, .cells ([] : List Value).toArray 118)]) rfl (slc_empty' 118 3 b3) rfl (hA.mono (by intro p hp; simp [hp])) (cel_one _) (by omega) (by omega) rfl rfl) ?_
            rintro _ _ ⟨u4, K4, hu4, rfl, rfl⟩
            refine Ops.app ?_
            rw [Nat.zero_add, List.nil_append] at hu4
            refine Ops.pv (pv_assign rfl) rfl ?_
            refine Ops.nil ?_
            refine Ends.seq ?_
            refine Wp.seq ?_
            refine Wp.region ?_
            refine Ops.pv (pv_move rfl) rfl ?_
            refine Ops.pv (pv_move rfl) rfl ?_
            refine Ops.pv (pv_move rfl) rfl ?_
            refine Ops.pv (pv_move rfl) rfl ?_
            refine Ops.pv (pv_shl rfl rfl (by omega) (sh1N (by omega))) rfl ?_
            refine Ops.ef rfl (ef_makeSlice (r := 2 ^ k) CapM.zero.cells rfl rfl rfl rfl (by decide) hp1 hp2 (by decide) rfl) ?_
            rintro _ _ ⟨cb2, rfl, rfl⟩
            rw [replicate_caps]
            refine Ops.pv (pv_build rfl) rfl ?_
            refine Ops.ef rfl (ef_buildSlice1 (k := 3) rfl rfl rfl rfl rfl) ?_
            rintro _ _ ⟨b4, rfl, rfl⟩
            refine Ops.ef rfl (ef_append (H := K4) (xs := [.int .i64 (m : Int), .int .i64 (k : Int), .slice (some ⟨cb2, 0, none⟩) (2 ^ k) (2 ^ k)]) rfl hu4 rfl ⟨rfl, rfl, rfl, trivial⟩ rfl rfl rfl (by omega) (by omega) rfl rfl) ?_
            rintro _ _ ⟨u5, K5, hu5, rfl, rfl⟩
            refine Ops.app ?_
            refine Ops.pv (pv_assign rfl) rfl ?_
            refine Ops.nil ?_
            refine Ends.seq ?_
            refine Wp.seq ?_
            refine Wp.region ?_
            refine Ops.pv (pv_move rfl) rfl ?_
            refine Ops.pv (pv_move rfl) rfl ?_
            refine Ops.pv (pv_move rfl) rfl ?_
            first | refine Ops.pv (pv_nilCheck rfl) rfl ?_ | refine Ops.pv (pv_nilCheck_func rfl rfl) rfl ?_
            first | refine Ops.pv (pv_fieldAddr0 rfl rfl) rfl ?_ | refine Ops.pv (pv_fieldAddr rfl rfl) rfl ?_
            first | refine Ops.pv (pv_load rfl rfl rfl) rfl ?_ | refine Ops.pv (pv_load rfl rfl (by assumption)) rfl ?_
            refine Ops.pv (pv_move rfl) rfl ?_
            refine Ops.pv (pv_sliceL (i := n) (j := l.length) (r := (l.drop n).length) rfl ⟨_, rfl⟩ rfl (by omega) (by omega) lB.symm) rfl ?_
            refine Ops.ef rfl (ef_appendV (H := K5) rfl hu5 rfl (hB.mono (by intro p hp; simp [hp])) (cel_one _) (by omega) (by omega) rfl rfl) ?_
            rintro _ _ ⟨u6, K6, hu6, rfl, rfl⟩
            refine Ops.app ?_
            have ho1 := hu6.one
            have ho2 := hu6.cells1
            first | refine Ops.pv (pv_nilCheck rfl) rfl ?_ | refine Ops.pv (pv_nilCheck_func rfl rfl) rfl ?_
            first | refine Ops.pv (pv_fieldAddr0 rfl rfl) rfl ?_ | refine Ops.pv (pv_fieldAddr rfl rfl) rfl ?_
            refine Ops.ef rfl (ef_store1 rfl rfl (by first | rfl | assumption) (by first | rfl | assumption)) ?_
            rintro _ _ ⟨rfl, rfl⟩
            refine Ops.nil ?_
            refine Ends.seq ?_
            refine Wp.seq ?_
            refine Wp.region ?_
            refine Ops.pv (pv_assign rfl) rfl ?_
            refine Ops.nil ?_
            refine Ends.seq ?_
            refine Wp.ret ?_
            have he : daddErr l (m : Int) (k : Int) = 0 := by unfold daddErr; rw [if_neg (by omega), h]; rfl
            have hpl : dPlace l (m : Int) n := ⟨by omega, hb, fun d0 hd0 => by first | (rw [List.getElem?_eq_none (by omega)] at hd0; cases hd0) | (rw [hd] at hd0; cases hd0; assumption)⟩
            rw [← newN_c m k cb2, cel_ins, len_ins (newN m k cb2) (by omega)] at hu6
            refine Ends.heap (L' := dBlk qb u6 :: (K6 ++ (dCaps (l.take n ++ newN m k cb2 :: l.drop n) ++ F))) (fun w ho => ?_) ?_
            · have h2 : Own W w ((cb2, .cells (capsCells (List.replicate (2 ^ k) CapM.zero)).toArray 29) :: (K6 ++ (dCaps l ++ (dBlk qb u6 :: F)))) := Drop.own ho
              have h3 := h2.perm (dadd_perm (d := newN m k cb2) (n := n))
              exact (Drop.own h3 : Own W w (dBlk qb u6 :: (K6 ++ (dCaps (l.take n ++ newN m k cb2 :: l.drop n) ++ F))))
            exact Ends.ret (L' := dBlk qb u6 :: (K6 ++ dCaps (l.take n ++ newN m k cb2 :: l.drop n))) (res1 rfl rfl) ⟨by rw [he], .inr ⟨he, n, cb2, hpl, _, _, hu6, rfl⟩⟩

theorem tr_dadd (qb : Nat) (L : Hp) (l : List DN) (hH : DstH l qb L) (hl : l.length ≤ 2 ^ 20) (id r : Int) : Tr Try.prog 37 [.pointer (some ⟨qb, 0, none⟩), .int .i64 id, .int .i64 r] L (fun u L' => DAdd l id r qb u L') := by
  cases h : dfind l id with
  | none => exact tr_dadd_new qb L l hH hl id r h
  | some d => exact tr_dadd_twice qb L l hH hl id r d h

theorem tr_ddrop_none (qb : Nat) (L : Hp) (l : List DN) (hH : DstH l qb L) (hl : l.length ≤ 2 ^ 20) (x : Int) (h : dfind l x = none) : Tr Try.prog 39 [.pointer (some ⟨qb, 0, none⟩), .int .i64 x] (L) (fun u L' => u = .int .i64 3 ∧ DstH l qb L') := by
  obtain ⟨v, H, hs, rfl⟩ := hH
  obtain ⟨a, c0, rfl⟩ := hs.form
  have hv := hs.view
  refine Tr.enter Try.func39 rfl Try.ntmps39 rfl (fun W F => ?_)
  refine Wp.app ?_
  refine Wp.seq ?_
  refine Wp.region ?_
  refine Ops.pv (pv_assign rfl) rfl ?_
  refine Ops.nil ?_
  refine Ends.seq ?_
  refine Wp.seq ?_
  refine Wp.region ?_
  refine Ops.pv (pv_move rfl) rfl ?_
  refine Ops.pv (pv_move rfl) rfl ?_
  refine Ops.ef rfl (ef_callr ((tr_dat qb _ l ⟨_, H, hs, rfl⟩ hl x).eq (by rw [dfind_none h])) rfl rfl) ?_
  rintro _ _ ⟨rfl, rfl⟩
  refine Ops.pv (pv_assign rfl) rfl ?_
  refine Ops.nil ?_
  refine Ends.seq ?_
  refine Wp.seq ?_
  refine Wp.seq ?_
  refine Wp.region ?_
  refine Ops.pv (pv_move rfl) rfl ?_
  refine Ops.pv ((pv_lss rfl rfl).tru (by first | rfl | decide | omega | assumption | (simp; done) | (simp; omega))) rfl ?_
  refine Ops.nil ?_
  refine Ends.seq ?_
  refine Wp.cond_true rfl ?_
  refine Wp.seq ?_
  refine Wp.region ?_
  refine Ops.pv (pv_assign rfl) rfl ?_
  refine Ops.nil ?_
  refine Ends.seq ?_
  refine Wp.ret ?_
  refine Ends.then_ret ?_
  exact Ends.ret (L' := dBlk qb (.slice a l.length c0) :: (H ++ dCaps l)) (res1 rfl rfl) ⟨rfl, _, H, hs, rfl⟩

set_option maxHeartbeats 1000000 in
theorem tr_ddrop_some (qb : Nat) (L : Hp) (l : List DN) (hH : DstH l qb L) (hl : l.length ≤ 2 ^ 20) (hsm : dSmall l) (x : Int) (d : DN) (h : dfind l x = some d) : Tr Try.prog 39 [.pointer (some ⟨qb, 0, none⟩), .int .i64 x] (L) (fun u L' => DDrop l d x qb u L') := by
  obtain ⟨v, H, hs, rfl⟩ := hH
  obtain ⟨a, c0, rfl⟩ := hs.form
  have hv := hs.view
  obtain ⟨i, hi, hd, hid⟩ := dfind_some h
  have hlt := d_lt hd
  obtain ⟨b, o, cap, cc, T, f, hv1, hbv, hr⟩ := hv.open (by omega)
  cases hv1
  obtain ⟨q0, q1, q2, _⟩ := cel_reads (f := dnC) hr hd
  have hblk := dCaps_blk hd
  have hd16 := hsm d (List.mem_of_getElem? hd)
  have hlc : l.length ≤ c0 := by obtain ⟨_, _, _, e, h, _⟩ := hv; cases e; exact h
  have hA := hv.part (i := 0) (j := i) (Nat.zero_le _) (by omega)
  have hB := hv.part (i := i + 1) (j := l.length) (by omega) (Nat.le_refl _)
  have eA : (l.drop 0).take (i - 0) = l.take i := by simp
  have eB : (l.drop (i + 1)).take (l.length - (i + 1)) = l.drop (i + 1) := List.take_of_length_le (by simp)
  rw [eA] at hA
  rw [eB] at hB
  have lA : (l.take i).length = i := by rw [List.length_take]; omega
  have lB : (l.drop (i + 1)).length = l.length - (i + 1) := by simp
  refine Tr.enter Try.func39 rfl Try.ntmps39 rfl (fun W F => ?_)
  refine Wp.app ?_
  refine Wp.seq ?_
  refine Wp.region ?_
  refine Ops.pv (pv_assign rfl) rfl ?_
  refine Ops.nil ?_
  refine Ends.seq ?_
  refine Wp.seq ?_
  refine Wp.region ?_
  refine Ops.pv (pv_move rfl) rfl ?_
  refine Ops.pv (pv_move rfl) rfl ?_
  refine Ops.ef rfl (ef_callr ((tr_dat qb _ l ⟨_, H, hs, rfl⟩ hl x).eq (by rw [hi])) rfl rfl) ?_
  rintro _ _ ⟨rfl, rfl⟩
  refine Ops.pv (pv_assign rfl) rfl ?_
  refine Ops.nil ?_
  refine Ends.seq ?_
  refine Wp.seq ?_
  refine Wp.seq ?_
  refine Wp.region ?_
  refine Ops.pv (pv_move rfl) rfl ?_
  refine Ops.pv ((pv_lss rfl rfl).fls (by first | exact fun h => h rfl | decide | omega | assumption)) rfl ?_
  refine Ops.nil ?_
  refine Ends.seq ?_
  refine Wp.cond_false rfl ?_
  refine Wp.skip ?_
  refine Ends.seq ?_
  refine Wp.seq ?_
  refine Wp.seq ?_
  refine Wp.region ?_
  refine Ops.pv (pv_assign rfl) rfl ?_
  refine Ops.nil ?_
  refine Ends.seq ?_
  refine Wp.block ?_
  refine Wp.loopK (σ := Nat) [(0, _), (5, _)] (fun s => [(6, .int .i64 s)]) (fun s => dBlk qb (.slice (some ⟨b, o, none⟩) l.length c0) :: (H ++ (dCaps l ++ F))) (fun s => s ≤ d.caps.length ∧ ∀ j c, j < s → d.caps[j]? = some c → c.kind = 0) (fun s => d.caps.length - s) 0 ⟨Nat.zero_le _, fun j c hj => absurd hj (Nat.not_lt_zero j)⟩ ⟨rfl, rfl, trivial⟩ ⟨rfl, trivial⟩ (by intro w ho; (try dsimp only [List.nil_append, List.cons_append]); exact Drop.own ho) ?_
  rintro j KK ⟨hj, hz⟩ hK
  dsimp only [List.cons_append, List.nil_append] at hK ⊢
  refine Wp.seq ?_
  refine Wp.seq ?_
  refine Wp.region ?_
  refine Ops.pv (pv_move rfl) rfl ?_
  refine Ops.pv (pv_move rfl) rfl ?_
  first | refine Ops.pv (pv_nilCheck rfl) rfl ?_ | refine Ops.pv (pv_nilCheck_func rfl rfl) rfl ?_
  first | refine Ops.pv (pv_fieldAddr0 rfl rfl) rfl ?_ | refine Ops.pv (pv_fieldAddr rfl rfl) rfl ?_
  first | refine Ops.pv (pv_load rfl rfl rfl) rfl ?_ | refine Ops.pv (pv_load rfl rfl (by assumption)) rfl ?_
  refine Ops.pv (pv_move rfl) rfl ?_
  refine Ops.pv (pv_indexAddr (i := i) rfl rfl rfl (by omega)) rfl ?_
  first | refine Ops.pv (pv_fieldAddr0 rfl rfl) rfl ?_ | refine Ops.pv (pv_fieldAddr rfl rfl) rfl ?_
  refine Ops.pv (pv_load rfl rfl q2) rfl ?_
  refine Ops.pv (pv_len_slice (T := 116) rfl rfl) rfl ?_
  refine Ops.pv (pv_lss rfl rfl) rfl ?_
  refine Ops.nil ?_
  refine Ends.seq ?_
  first | refine Wp.cond_dect rfl (fun h1 => ?_) (fun h1 => ?_) | refine Wp.cond_t rfl (fun h1 => ?_) (fun h1 => ?_)
  · obtain ⟨c, hc⟩ : ∃ c, d.caps[j]? = some c := ⟨_, List.getElem?_eq_getElem (by omega)⟩
    refine Wp.skip ?_
    refine Ends.seq ?_
    refine Wp.seq ?_
    refine Wp.block ?_
    refine Wp.seq ?_
    refine Wp.region ?_
    refine Ops.pv (pv_move rfl) rfl ?_
    first | refine Ops.pv (pv_nilCheck rfl) rfl ?_ | refine Ops.pv (pv_nilCheck_func rfl rfl) rfl ?_
    first | refine Ops.pv (pv_fieldAddr0 rfl rfl) rfl ?_ | refine Ops.pv (pv_fieldAddr rfl rfl) rfl ?_
    first | refine Ops.pv (pv_load rfl rfl rfl) rfl ?_ | refine Ops.pv (pv_load rfl rfl (by assumption)) rfl ?_
    refine Ops.pv (pv_move rfl) rfl ?_
    refine Ops.pv (pv_indexAddr (i := i) rfl rfl rfl (by omega)) rfl ?_
    first | refine Ops.pv (pv_fieldAddr0 rfl rfl) rfl ?_ | refine Ops.pv (pv_fieldAddr rfl rfl) rfl ?_
    refine Ops.pv (pv_load rfl rfl q2) rfl ?_
    refine Ops.pv (pv_move rfl) rfl ?_
    refine Ops.pv (pv_indexAddr (i := j) rfl rfl rfl (by omega)) rfl ?_
    first | refine Ops.pv (pv_fieldAddr0 rfl rfl) rfl ?_ | refine Ops.pv (pv_fieldAddr rfl rfl) rfl ?_
    refine Ops.pv (pv_load rfl rfl (caps_reads0 hc).1) rfl ?_
    refine Ops.pv (pv_neq rfl rfl) rfl ?_
    refine Ops.nil ?_
    refine Ends.seq ?_
    first | refine Wp.cond_dect rfl (fun h2 => ?_) (fun h2 => ?_) | refine Wp.cond_t rfl (fun h2 => ?_) (fun h2 => ?_)
    · refine Wp.seq ?_
      refine Wp.region ?_
      refine Ops.pv (pv_assign rfl) rfl ?_
      refine Ops.nil ?_
      refine Ends.seq ?_
      refine Wp.ret ?_
      refine Ends.block_ret ?_
      refine Ends.then_ret ?_
      refine Ends.then_ret ?_
      refine Ends.block_ret ?_
      refine Ends.then_ret ?_
      exact Ends.ret (L' := dBlk qb (.slice (some ⟨b, o, none⟩) l.length c0) :: (H ++ dCaps l)) (res1 rfl rfl) (.inl ⟨dempty_no hc (by assumption), rfl, _, H, hs, rfl⟩)
    · refine Wp.skip ?_
      refine Ends.block_normal ?_
      refine Ends.seq ?_
      refine Wp.region ?_
      refine Ops.pv (pv_move rfl) rfl ?_
      first | refine Ops.pv (pv_add rfl rfl (w64 (by omega) (by omega))) rfl ?_ | refine Ops.pv (pv_add rfl rfl rfl) rfl ?_
      refine Ops.pv (pv_assign rfl) rfl ?_
      refine Ops.nil ?_
      refine Ends.goes ?_
      refine Goes.back (hK (j + 1) ⟨by omega, fun j1 c1 hj1 hc1 => ?_⟩ (by omega)) ⟨rfl, rfl, rfl, trivial⟩
      rcases Nat.lt_succ_iff_lt_or_eq.1 hj1 with hj1 | rfl
      · exact hz j1 c1 hj1 hc1
      · rw [hc] at hc1; cases hc1; simp_all
  · refine Wp.exit ?_
    refine Ends.then_exit ?_
    refine Ends.then_exit ?_
    refine Ends.block_hit ?_
    refine Ends.seq ?_
    refine Wp.seq ?_
    refine AnyH.start H 20 rfl ?_
    refine AnyH.take 0 rfl (by kernel_rfl) (by kernel_rfl) (by kernel_rfl) PF.pf rfl (pv_move rfl) rfl ?_
    refine AnyH.take 2 rfl (by kernel_rfl) (by kernel_rfl) (by kernel_rfl) PF.pf rfl (pv_move rfl) rfl ?_
    first | refine AnyH.take 3 rfl (by kernel_rfl) (by kernel_rfl) (by kernel_rfl) PF.pf rfl (pv_nilCheck rfl) rfl ?_ | refine AnyH.take 3 rfl (by kernel_rfl) (by kernel_rfl) (by kernel_rfl) PF.pf rfl (pv_nilCheck_func rfl rfl) rfl ?_
    first | refine AnyH.take 4 rfl (by kernel_rfl) (by kernel_rfl) (by kernel_rfl) PF.pf rfl (pv_fieldAddr0 rfl rfl) rfl ?_ | refine AnyH.take 4 rfl (by kernel_rfl) (by kernel_rfl) (by kernel_rfl) PF.pf rfl (pv_fieldAddr rfl rfl) rfl ?_
    refine AnyH.take 6 rfl (by kernel_rfl) (by kernel_rfl) (by kernel_rfl) PF.pf rfl (pv_move rfl) rfl ?_
    refine AnyH.take 9 rfl (by kernel_rfl) (by kernel_rfl) (by kernel_rfl) PF.pf rfl (pv_move rfl) rfl ?_
    first | refine AnyH.take 10 rfl (by kernel_rfl) (by kernel_rfl) (by kernel_rfl) PF.pf rfl (pv_nilCheck rfl) rfl ?_ | refine AnyH.take 10 rfl (by kernel_rfl) (by kernel_rfl) (by kernel_rfl) PF.pf rfl (pv_nilCheck_func rfl rfl) rfl ?_
    first | refine AnyH.take 11 rfl (by kernel_rfl) (by kernel_rfl) (by kernel_rfl) PF.pf rfl (pv_fieldAddr0 rfl rfl) rfl ?_ | refine AnyH.take 11 rfl (by kernel_rfl) (by kernel_rfl) (by kernel_rfl) PF.pf rfl (pv_fieldAddr rfl rfl) rfl ?_
    refine AnyH.take 13 rfl (by kernel_rfl) (by kernel_rfl) (by kernel_rfl) PF.pf rfl (pv_move rfl) rfl ?_
    refine AnyH.take 14 rfl (by kernel_rfl) (by kernel_rfl) (by kernel_rfl) PF.pf rfl (pv_add rfl rfl (w64n (k := i + 1) (by omega) (by omega))) rfl ?_
    refine AnyH.three 1 5 12 (by kernel_rfl) ?_ ?_ ?_
    · refine Turn.ef rfl rfl (ef_buildSlice0 rfl) ?_ ?_
      · rintro _ _ ⟨b1, rfl, rfl⟩; infer_instance
      rintro _ _ ⟨b1, rfl, rfl⟩
      refine AnyH.two 5 12 (by kernel_rfl) ?_ ?_
      · first | refine Turn.ef rfl rfl (ef_pv (pv_load rfl rfl rfl) rfl) ?_ ?_ | refine Turn.ef rfl rfl (ef_pv (pv_load rfl rfl (by assumption)) rfl) ?_ ?_
        · rintro _ _ ⟨rfl, rfl⟩; infer_instance
        rintro _ _ ⟨rfl, rfl⟩
        refine AnyH.take 7 rfl (by kernel_rfl) (by kernel_rfl) (by kernel_rfl) PF.pf rfl (pv_sliceL (i := 0) (j := i) (r := (l.take i).length) rfl rfl ⟨_, rfl⟩ (Nat.zero_le _) (by omega) lA.symm) rfl ?_
        refine AnyH.two 8 12 (by kernel_rfl) ?_ ?_
        · refine Turn.ef rfl rfl (ef_appendV (H := [(b1, .cells ([] : List Value).toArray 118)]) rfl (slc_empty' 118 3 b1) rfl (hA.mono (by intro p hp; simp [hp])) (cel_one _) (by omega) (by omega) rfl rfl) ?_ ?_
          · rintro _ _ ⟨u1, K1, hu1, rfl, rfl⟩; infer_instance
          rintro _ _ ⟨u1, K1, hu1, rfl, rfl⟩
          refine AnyH.app ?_
          rw [Nat.zero_add, List.nil_append] at hu1
          refine AnyH.one 12 (by kernel_rfl) ?_
          first | refine Turn.ef rfl rfl (ef_pv (pv_load rfl rfl rfl) rfl) ?_ ?_ | refine Turn.ef rfl rfl (ef_pv (pv_load rfl rfl (by assumption)) rfl) ?_ ?_
          · rintro _ _ ⟨rfl, rfl⟩; infer_instance
          rintro _ _ ⟨rfl, rfl⟩
          refine AnyH.take 15 rfl (by kernel_rfl) (by kernel_rfl) (by kernel_rfl) PF.pf rfl (pv_sliceL (i := i + 1) (j := l.length) (r := (l.drop (i + 1)).length) rfl ⟨_, rfl⟩ rfl (by omega) hlc lB.symm) rfl ?_
          refine AnyH.one 16 (by kernel_rfl) ?_
          refine Turn.ef rfl rfl (ef_appendV (H := K1) rfl hu1 rfl (hB.mono (by intro p hp; simp [hp])) (cel_one _) (by omega) (by omega) rfl rfl) ?_ ?_
          · rintro _ _ ⟨u2, K2, hu2, rfl, rfl⟩; infer_instance
          rintro _ _ ⟨u2, K2, hu2, rfl, rfl⟩
          refine AnyH.app ?_
          have ho1 := hu2.one
          have ho2 := hu2.cells1
          first | refine AnyH.take 17 rfl (by kernel_rfl) (by kernel_rfl) (by kernel_rfl) PF.pf rfl (pv_nilCheck rfl) rfl ?_ | refine AnyH.take 17 rfl (by kernel_rfl) (by kernel_rfl) (by kernel_rfl) PF.pf rfl (pv_nilCheck_func rfl rfl) rfl ?_
          first | refine AnyH.take 18 rfl (by kernel_rfl) (by kernel_rfl) (by kernel_rfl) PF.pf rfl (pv_fieldAddr0 rfl rfl) rfl ?_ | refine AnyH.take 18 rfl (by kernel_rfl) (by kernel_rfl) (by kernel_rfl) PF.pf rfl (pv_fieldAddr rfl rfl) rfl ?_
          refine AnyH.one 19 (by kernel_rfl) ?_
          refine Turn.ef rfl rfl (ef_store1 rfl rfl (by first | rfl | assumption) (by first | rfl | assumption)) ?_ ?_
          · rintro _ _ ⟨rfl, rfl⟩; infer_instance
          rintro _ _ ⟨rfl, rfl⟩
          refine AnyH.done (by kernel_rfl) ?_
          refine Ends.seq ?_
          refine Wp.seq ?_
          refine Wp.region ?_
          refine Ops.pv (pv_assign rfl) rfl ?_
          refine Ops.nil ?_
          refine Ends.seq ?_
          refine Wp.ret ?_
          rw [ddel_cel, ddel_len hlt, ← ddel_eq hi] at hu2
          refine Ends.heap (L' := dBlk qb u2 :: (K2 ++ (dCaps (ddel l x) ++ F))) (fun w ho => ?_) ?_
          · have h2 : Own W w (dCaps l ++ (dBlk qb u2 :: (K2 ++ F))) := Drop.own ho
            have h3 := h2.perm ((ddel_perm hd).append_right _)
            rw [← ddel_eq hi, List.cons_append] at h3
            exact (Drop.own h3 : Own W w (dBlk qb u2 :: (K2 ++ (dCaps (ddel l x) ++ F))))
          exact Ends.ret (L' := dBlk qb u2 :: (K2 ++ dCaps (ddel l x))) (res1 rfl rfl) (.inr ⟨dempty_yes (fun j1 c1 hj1 hc1 => hz j1 c1 (by omega) hc1), rfl, _, _, hu2, rfl⟩)
        · first | refine Turn.ef rfl rfl (ef_pv (pv_load rfl rfl rfl) rfl) ?_ ?_ | refine Turn.ef rfl rfl (ef_pv (pv_load rfl rfl (by assumption)) rfl) ?_ ?_
          · rintro _ _ ⟨rfl, rfl⟩; infer_instance
          rintro _ _ ⟨rfl, rfl⟩
          refine AnyH.take 15 rfl (by kernel_rfl) (by kernel_rfl) (by kernel_rfl) PF.pf rfl (pv_sliceL (i := i + 1) (j := l.length) (r := (l.drop (i + 1)).length) rfl ⟨_, rfl⟩ rfl (by omega) hlc lB.symm) rfl ?_
          refine AnyH.one 8 (by kernel_rfl) ?_
          refine Turn.ef rfl rfl (ef_appendV (H := [(b1, .cells ([] : List Value).toArray 118)]) rfl (slc_empty' 118 3 b1) rfl (hA.mono (by intro p hp; simp [hp])) (cel_one _) (by omega) (by omega) rfl rfl) ?_ ?_
          · rintro _ _ ⟨u3, K3, hu3, rfl, rfl⟩; infer_instance
          rintro _ _ ⟨u3, K3, hu3, rfl, rfl⟩
          refine AnyH.app ?_
          rw [Nat.zero_add, List.nil_append] at hu3
          refine AnyH.one 16 (by kernel_rfl) ?_
          refine Turn.ef rfl rfl (ef_appendV (H := K3) rfl hu3 rfl (hB.mono (by intro p hp; simp [hp])) (cel_one _) (by omega) (by omega) rfl rfl) ?_ ?_
          · rintro _ _ ⟨u4, K4, hu4, rfl, rfl⟩; infer_instance
          rintro _ _ ⟨u4, K4, hu4, rfl, rfl⟩
          refine AnyH.app ?_
          have ho1 := hu4.one
          have ho2 := hu4.cells1
          first | refine AnyH.take 17 rfl (by kernel_rfl) (by kernel_rfl) (by kernel_rfl) PF.pf rfl (pv_nilCheck rfl) rfl ?_ | refine AnyH.take 17 rfl (by kernel_rfl) (by kernel_rfl) (by kernel_rfl) PF.pf rfl (pv_nilCheck_func rfl rfl) rfl ?_
          first | refine AnyH.take 18 rfl (by kernel_rfl) (by kernel_rfl) (by kernel_rfl) PF.pf rfl (pv_fieldAddr0 rfl rfl) rfl ?_ | refine AnyH.take 18 rfl (by kernel_rfl) (by kernel_rfl) (by kernel_rfl) PF.pf rfl (pv_fieldAddr rfl rfl) rfl ?_
          refine AnyH.one 19 (by kernel_rfl) ?_
          refine Turn.ef rfl rfl (ef_store1 rfl rfl (by first | rfl | assumption) (by first | rfl | assumption)) ?_ ?_
          · rintro _ _ ⟨rfl, rfl⟩; infer_instance
          rintro _ _ ⟨rfl, rfl⟩
          refine AnyH.done (by kernel_rfl) ?_
          refine Ends.seq ?_
          refine Wp.seq ?_
          refine Wp.region ?_
          refine Ops.pv (pv_assign rfl) rfl ?_
          refine Ops.nil ?_
          refine Ends.seq ?_
          refine Wp.ret ?_
          rw [ddel_cel, ddel_len hlt, ← ddel_eq hi] at hu4
          refine Ends.heap (L' := dBlk qb u4 :: (K4 ++ (dCaps (ddel l x) ++ F))) (fun w ho => ?_) ?_
          · have h2 : Own W w (dCaps l ++ (dBlk qb u4 :: (K4 ++ F))) := Drop.own ho
            have h3 := h2.perm ((ddel_perm hd).append_right _)
            rw [← ddel_eq hi, List.cons_append] at h3
            exact (Drop.own h3 : Own W w (dBlk qb u4 :: (K4 ++ (dCaps (ddel l x) ++ F))))
          exact Ends.ret (L' := dBlk qb u4 :: (K4 ++ dCaps (ddel l x))) (res1 rfl rfl) (.inr ⟨dempty_yes (fun j1 c1 hj1 hc1 => hz j1 c1 (by omega) hc1), rfl, _, _, hu4, rfl⟩)
      · first | refine Turn.ef rfl rfl (ef_pv (pv_load rfl rfl rfl) rfl) ?_ ?_ | refine Turn.ef rfl rfl (ef_pv (pv_load rfl rfl (by assumption)) rfl) ?_ ?_
        · rintro _ _ ⟨rfl, rfl⟩; infer_instance
        rintro _ _ ⟨rfl, rfl⟩
        refine AnyH.take 15 rfl (by kernel_rfl) (by kernel_rfl) (by kernel_rfl) PF.pf rfl (pv_sliceL (i := i + 1) (j := l.length) (r := (l.drop (i + 1)).length) rfl ⟨_, rfl⟩ rfl (by omega) hlc lB.symm) rfl ?_
        refine AnyH.one 5 (by kernel_rfl) ?_
        first | refine Turn.ef rfl rfl (ef_pv (pv_load rfl rfl rfl) rfl) ?_ ?_ | refine Turn.ef rfl rfl (ef_pv (pv_load rfl rfl (by assumption)) rfl) ?_ ?_
        · rintro _ _ ⟨rfl, rfl⟩; infer_instance
        rintro _ _ ⟨rfl, rfl⟩
        refine AnyH.take 7 rfl (by kernel_rfl) (by kernel_rfl) (by kernel_rfl) PF.pf rfl (pv_sliceL (i := 0) (j := i) (r := (l.take i).length) rfl rfl ⟨_, rfl⟩ (Nat.zero_le _) (by omega) lA.symm) rfl ?_
        refine AnyH.one 8 (by kernel_rfl) ?_
        refine Turn.ef rfl rfl (ef_appendV (H := [(b1, .cells ([] : List Value).toArray 118)]) rfl (slc_empty' 118 3 b1) rfl (hA.mono (by intro p hp; simp [hp])) (cel_one _) (by omega) (by omega) rfl rfl) ?_ ?_
        · rintro _ _ ⟨u5, K5, hu5, rfl, rfl⟩; infer_instance
        rintro _ _ ⟨u5, K5, hu5, rfl, rfl⟩
        refine AnyH.app ?_
        rw [Nat.zero_add, List.nil_append] at hu5
        refine AnyH.one 16 (by kernel_rfl) ?_
        refine Turn.ef rfl rfl (ef_appendV (H := K5) rfl hu5 rfl (hB.mono (by intro p hp; simp [hp])) (cel_one _) (by omega) (by omega) rfl rfl) ?_ ?_
        · rintro _ _ ⟨u6, K6, hu6, rfl, rfl⟩; infer_instance
        rintro _ _ ⟨u6, K6, hu6, rfl, rfl⟩
        refine AnyH.app ?_
        have ho1 := hu6.one
        have ho2 := hu6.cells1
        first | refine AnyH.take 17 rfl (by kernel_rfl) (by kernel_rfl) (by kernel_rfl) PF.pf rfl (pv_nilCheck rfl) rfl ?_ | refine AnyH.take 17 rfl (by kernel_rfl) (by kernel_rfl) (by kernel_rfl) PF.pf rfl (pv_nilCheck_func rfl rfl) rfl ?_
        first | refine AnyH.take 18 rfl (by kernel_rfl) (by kernel_rfl) (by kernel_rfl) PF.pf rfl (pv_fieldAddr0 rfl rfl) rfl ?_ | refine AnyH.take 18 rfl (by kernel_rfl) (by kernel_rfl) (by kernel_rfl) PF.pf rfl (pv_fieldAddr rfl rfl) rfl ?_
        refine AnyH.one 19 (by kernel_rfl) ?_
        refine Turn.ef rfl rfl (ef_store1 rfl rfl (by first | rfl | assumption) (by first | rfl | assumption)) ?_ ?_
        · rintro _ _ ⟨rfl, rfl⟩; infer_instance
        rintro _ _ ⟨rfl, rfl⟩
        refine AnyH.done (by kernel_rfl) ?_
        refine Ends.seq ?_
        refine Wp.seq ?_
        refine Wp.region ?_
        refine Ops.pv (pv_assign rfl) rfl ?_
        refine Ops.nil ?_
        refine Ends.seq ?_
        refine Wp.ret ?_
        rw [ddel_cel, ddel_len hlt, ← ddel_eq hi] at hu6
        refine Ends.heap (L' := dBlk qb u6 :: (K6 ++ (dCaps (ddel l x) ++ F))) (fun w ho => ?_) ?_
        · have h2 : Own W w (dCaps l ++ (dBlk qb u6 :: (K6 ++ F))) := Drop.own ho
          have h3 := h2.perm ((ddel_perm hd).append_right _)
          rw [← ddel_eq hi, List.cons_append] at h3
          exact (Drop.own h3 : Own W w (dBlk qb u6 :: (K6 ++ (dCaps (ddel l x) ++ F))))
        exact Ends.ret (L' := dBlk qb u6 :: (K6 ++ dCaps (ddel l x))) (res1 rfl rfl) (.inr ⟨dempty_yes (fun j1 c1 hj1 hc1 => hz j1 c1 (by omega) hc1), rfl, _, _, hu6, rfl⟩)
    · first | refine Turn.ef rfl rfl (ef_pv (pv_load rfl rfl rfl) rfl) ?_ ?_ | refine Turn.ef rfl rfl (ef_pv (pv_load rfl rfl (by assumption)) rfl) ?_ ?_
      · rintro _ _ ⟨rfl, rfl⟩; infer_instance
      rintro _ _ ⟨rfl, rfl⟩
      refine AnyH.take 7 rfl (by kernel_rfl) (by kernel_rfl) (by kernel_rfl) PF.pf rfl (pv_sliceL (i := 0) (j := i) (r := (l.take i).length) rfl rfl ⟨_, rfl⟩ (Nat.zero_le _) (by omega) lA.symm) rfl ?_
      refine AnyH.two 1 12 (by kernel_rfl) ?_ ?_
      · refine Turn.ef rfl rfl (ef_buildSlice0 rfl) ?_ ?_
        · rintro _ _ ⟨b2, rfl, rfl⟩; infer_instance
        rintro _ _ ⟨b2, rfl, rfl⟩
        refine AnyH.two 8 12 (by kernel_rfl) ?_ ?_
        · refine Turn.ef rfl rfl (ef_appendV (H := [(b2, .cells ([] : List Value).toArray 118)]) rfl (slc_empty' 118 3 b2) rfl (hA.mono (by intro p hp; simp [hp])) (cel_one _) (by omega) (by omega) rfl rfl) ?_ ?_
          · rintro _ _ ⟨u7, K7, hu7, rfl, rfl⟩; infer_instance
          rintro _ _ ⟨u7, K7, hu7, rfl, rfl⟩
          refine AnyH.app ?_
          rw [Nat.zero_add, List.nil_append] at hu7
          refine AnyH.one 12 (by kernel_rfl) ?_
          first | refine Turn.ef rfl rfl (ef_pv (pv_load rfl rfl rfl) rfl) ?_ ?_ | refine Turn.ef rfl rfl (ef_pv (pv_load rfl rfl (by assumption)) rfl) ?_ ?_
          · rintro _ _ ⟨rfl, rfl⟩; infer_instance
          rintro _ _ ⟨rfl, rfl⟩
          refine AnyH.take 15 rfl (by kernel_rfl) (by kernel_rfl) (by kernel_rfl) PF.pf rfl (pv_sliceL (i := i + 1) (j := l.length) (r := (l.drop (i + 1)).length) rfl ⟨_, rfl⟩ rfl (by omega) hlc lB.symm) rfl ?_
          refine AnyH.one 16 (by kernel_rfl) ?_
          refine Turn.ef rfl rfl (ef_appendV (H := K7) rfl hu7 rfl (hB.mono (by intro p hp; simp [hp])) (cel_one _) (by omega) (by omega) rfl rfl) ?_ ?_
          · rintro _ _ ⟨u8, K8, hu8, rfl, rfl⟩; infer_instance
          rintro _ _ ⟨u8, K8, hu8, rfl, rfl⟩
          refine AnyH.app ?_
          have ho1 := hu8.one
          have ho2 := hu8.cells1
          first | refine AnyH.take 17 rfl (by kernel_rfl) (by kernel_rfl) (by kernel_rfl) PF.pf rfl (pv_nilCheck rfl) rfl ?_ | refine AnyH.take 17 rfl (by kernel_rfl) (by kernel_rfl) (by kernel_rfl) PF.pf rfl (pv_nilCheck_func rfl rfl) rfl ?_
          first | refine AnyH.take 18 rfl (by kernel_rfl) (by kernel_rfl) (by kernel_rfl) PF.pf rfl (pv_fieldAddr0 rfl rfl) rfl ?_ | refine AnyH.take 18 rfl (by kernel_rfl) (by kernel_rfl) (by kernel_rfl) PF.pf rfl (pv_fieldAddr rfl rfl) rfl ?_
          refine AnyH.one 19 (by kernel_rfl) ?_
          refine Turn.ef rfl rfl (ef_store1 rfl rfl (by first | rfl | assumption) (by first | rfl | assumption)) ?_ ?_
          · rintro _ _ ⟨rfl, rfl⟩; infer_instance
          rintro _ _ ⟨rfl, rfl⟩
          refine AnyH.done (by kernel_rfl) ?_
          refine Ends.seq ?_
          refine Wp.seq ?_
          refine Wp.region ?_
          refine Ops.pv (pv_assign rfl) rfl ?_
          refine Ops.nil ?_
          refine Ends.seq ?_
          refine Wp.ret ?_
          rw [ddel_cel, ddel_len hlt, ← ddel_eq hi] at hu8
          refine Ends.heap (L' := dBlk qb u8 :: (K8 ++ (dCaps (ddel l x) ++ F))) (fun w ho => ?_) ?_
          · have h2 : Own W w (dCaps l ++ (dBlk qb u8 :: (K8 ++ F))) := Drop.own ho
            have h3 := h2.perm ((ddel_perm hd).append_right _)
            rw [← ddel_eq hi, List.cons_append] at h3
            exact (Drop.own h3 : Own W w (dBlk qb u8 :: (K8 ++ (dCaps (ddel l x) ++ F))))
          exact Ends.ret (L' := dBlk qb u8 :: (K8 ++ dCaps (ddel l x))) (res1 rfl rfl) (.inr ⟨dempty_yes (fun j1 c1 hj1 hc1 => hz j1 c1 (by omega) hc1), rfl, _, _, hu8, rfl⟩)
        · first | refine Turn.ef rfl rfl (ef_pv (pv_load rfl rfl rfl) rfl) ?_ ?_ | refine Turn.ef rfl rfl (ef_pv (pv_load rfl rfl (by assumption)) rfl) ?_ ?_
          · rintro _ _ ⟨rfl, rfl⟩; infer_instance
          rintro _ _ ⟨rfl, rfl⟩
          refine AnyH.take 15 rfl (by kernel_rfl) (by kernel_rfl) (by kernel_rfl) PF.pf rfl (pv_sliceL (i := i + 1) (j := l.length) (r := (l.drop (i + 1)).length) rfl ⟨_, rfl⟩ rfl (by omega) hlc lB.symm) rfl ?_
          refine AnyH.one 8 (by kernel_rfl) ?_
          refine Turn.ef rfl rfl (ef_appendV (H := [(b2, .cells ([] : List Value).toArray 118)]) rfl (slc_empty' 118 3 b2) rfl (hA.mono (by intro p hp; simp [hp])) (cel_one _) (by omega) (by omega) rfl rfl) ?_ ?_
          · rintro _ _ ⟨u9, K9, hu9, rfl, rfl⟩; infer_instance
          rintro _ _ ⟨u9, K9, hu9, rfl, rfl⟩
          refine AnyH.app ?_
          rw [Nat.zero_add, List.nil_append] at hu9
          refine AnyH.one 16 (by kernel_rfl) ?_
          refine Turn.ef rfl rfl (ef_appendV (H := K9) rfl hu9 rfl (hB.mono (by intro p hp; simp [hp])) (cel_one _) (by omega) (by omega) rfl rfl) ?_ ?_
          · rintro _ _ ⟨u10, K10, hu10, rfl, rfl⟩; infer_instance
          rintro _ _ ⟨u10, K10, hu10, rfl, rfl⟩
          refine AnyH.app ?_
          have ho1 := hu10.one
          have ho2 := hu10.cells1
          first | refine AnyH.take 17 rfl (by kernel_rfl) (by kernel_rfl) (by kernel_rfl) PF.pf rfl (pv_nilCheck rfl) rfl ?_ | refine AnyH.take 17 rfl (by kernel_rfl) (by kernel_rfl) (by kernel_rfl) PF.pf rfl (pv_nilCheck_func rfl rfl) rfl ?_
          first | refine AnyH.take 18 rfl (by kernel_rfl) (by kernel_rfl) (by kernel_rfl) PF.pf rfl (pv_fieldAddr0 rfl rfl) rfl ?_ | refine AnyH.take 18 rfl (by kernel_rfl) (by kernel_rfl) (by kernel_rfl) PF.pf rfl (pv_fieldAddr rfl rfl) rfl ?_
          refine AnyH.one 19 (by kernel_rfl) ?_
          refine Turn.ef rfl rfl (ef_store1 rfl rfl (by first | rfl | assumption) (by first | rfl | assumption)) ?_ ?_
          · rintro _ _ ⟨rfl, rfl⟩; infer_instance
          rintro _ _ ⟨rfl, rfl⟩
          refine AnyH.done (by kernel_rfl) ?_
          refine Ends.seq ?_
          refine Wp.seq ?_
          refine Wp.region ?_
          refine Ops.pv (pv_assign rfl) rfl ?_
          refine Ops.nil ?_
          refine Ends.seq ?_
          refine Wp.ret ?_
          rw [ddel_cel, ddel_len hlt, ← ddel_eq hi] at hu10
          refine Ends.heap (L' := dBlk qb u10 :: (K10 ++ (dCaps (ddel l x) ++ F))) (fun w ho => ?_) ?_
          · have h2 : Own W w (dCaps l ++ (dBlk qb u10 :: (K10 ++ F))) := Drop.own ho
            have h3 := h2.perm ((ddel_perm hd).append_right _)
            rw [← ddel_eq hi, List.cons_append] at h3
            exact (Drop.own h3 : Own W w (dBlk qb u10 :: (K10 ++ (dCaps (ddel l x) ++ F))))
          exact Ends.ret (L' := dBlk qb u10 :: (K10 ++ dCaps (ddel l x))) (res1 rfl rfl) (.inr ⟨dempty_yes (fun j1 c1 hj1 hc1 => hz j1 c1 (by omega) hc1), rfl, _, _, hu10, rfl⟩)
      · first | refine Turn.ef rfl rfl (ef_pv (pv_load rfl rfl rfl) rfl) ?_ ?_ | refine Turn.ef rfl rfl (ef_pv (pv_load rfl rfl (by assumption)) rfl) ?_ ?_
        · rintro _ _ ⟨rfl, rfl⟩; infer_instance
        rintro _ _ ⟨rfl, rfl⟩
        refine AnyH.take 15 rfl (by kernel_rfl) (by kernel_rfl) (by kernel_rfl) PF.pf rfl (pv_sliceL (i := i + 1) (j := l.length) (r := (l.drop (i + 1)).length) rfl ⟨_, rfl⟩ rfl (by omega) hlc lB.symm) rfl ?_
        refine AnyH.one 1 (by kernel_rfl) ?_
        refine Turn.ef rfl rfl (ef_buildSlice0 rfl) ?_ ?_
        · rintro _ _ ⟨b3, rfl, rfl⟩; infer_instance
        rintro _ _ ⟨b3, rfl, rfl⟩
        refine AnyH.one 8 (by kernel_rfl) ?_
        refine Turn.ef rfl rfl (ef_appendV (H := [(b3, .cells ([] : List Value).toArray 118)]) rfl (slc_empty' 118 3 b3) rfl (hA.mono (by intro p hp; simp [hp])) (cel_one _) (by omega) (by omega) rfl rfl) ?_ ?_
        · rintro _ _ ⟨u11, K11, hu11, rfl, rfl⟩; infer_instance
        rintro _ _ ⟨u11, K11, hu11, rfl, rfl⟩
        refine AnyH.app ?_
        rw [Nat.zero_add, List.nil_append] at hu11
        refine AnyH.one 16 (by kernel_rfl) ?_
        refine Turn.ef rfl rfl (ef_appendV (H := K11) rfl hu11 rfl (hB.mono (by intro p hp; simp [hp])) (cel_one _) (by omega) (by omega) rfl rfl) ?_ ?_
        · rintro _ _ ⟨u12, K12, hu12, rfl, rfl⟩; infer_instance
        rintro _ _ ⟨u12, K12, hu12, rfl, rfl⟩
        refine AnyH.app ?_
        have ho1 := hu12.one
        have ho2 := hu12.cells1
        first | refine AnyH.take 17 rfl (by kernel_rfl) (by kernel_rfl) (by kernel_rfl) PF.pf rfl (pv_nilCheck rfl) rfl ?_ | refine AnyH.take 17 rfl (by kernel_rfl) (by kernel_rfl) (by kernel_rfl) PF.pf rfl (pv_nilCheck_func rfl rfl) rfl ?_
        first | refine AnyH.take 18 rfl (by kernel_rfl) (by kernel_rfl) (by kernel_rfl) PF.pf rfl (pv_fieldAddr0 rfl rfl) rfl ?_ | refine AnyH.take 18 rfl (by kernel_rfl) (by kernel_rfl) (by kernel_rfl) PF.pf rfl (pv_fieldAddr rfl rfl) rfl ?_
        refine AnyH.one 19 (by kernel_rfl) ?_
        refine Turn.ef rfl rfl (ef_store1 rfl rfl (by first | rfl | assumption) (by first | rfl | assumption)) ?_ ?_
        · rintro _ _ ⟨rfl, rfl⟩; infer_instance
        rintro _ _ ⟨rfl, rfl⟩
        refine AnyH.done (by kernel_rfl) ?_
        refine Ends.seq ?_
        refine Wp.seq ?_
        refine Wp.region ?_
        refine Ops.pv (pv_assign rfl) rfl ?_
        refine Ops.nil ?_
        refine Ends.seq ?_
        refine Wp.ret ?_
        rw [ddel_cel, ddel_len hlt, ← ddel_eq hi] at hu12
        refine Ends.heap (L' := dBlk qb u12 :: (K12 ++ (dCaps (ddel l x) ++ F))) (fun w ho => ?_) ?_
        · have h2 : Own W w (dCaps l ++ (dBlk qb u12 :: (K12 ++ F))) := Drop.own ho
          have h3 := h2.perm ((ddel_perm hd).append_right _)
          rw [← ddel_eq hi, List.cons_append] at h3
          exact (Drop.own h3 : Own W w (dBlk qb u12 :: (K12 ++ (dCaps (ddel l x) ++ F))))
        exact Ends.ret (L' := dBlk qb u12 :: (K12 ++ dCaps (ddel l x))) (res1 rfl rfl) (.inr ⟨dempty_yes (fun j1 c1 hj1 hc1 => hz j1 c1 (by omega) hc1), rfl, _, _, hu12, rfl⟩)
    · first | refine Turn.ef rfl rfl (ef_pv (pv_load rfl rfl rfl) rfl) ?_ ?_ | refine Turn.ef rfl rfl (ef_pv (pv_load rfl rfl (by assumption)) rfl) ?_ ?_
      · rintro _ _ ⟨rfl, rfl⟩; infer_instance
      rintro _ _ ⟨rfl, rfl⟩
      refine AnyH.take 15 rfl (by kernel_rfl) (by kernel_rfl) (by kernel_rfl) PF.pf rfl (pv_sliceL (i := i + 1) (j := l.length) (r := (l.drop (i + 1)).length) rfl ⟨_, rfl⟩ rfl (by omega) hlc lB.symm) rfl ?_
      refine AnyH.two 1 5 (by kernel_rfl) ?_ ?_
      · refine Turn.ef rfl rfl (ef_buildSlice0 rfl) ?_ ?_
        · rintro _ _ ⟨b4, rfl, rfl⟩; infer_instance
        rintro _ _ ⟨b4, rfl, rfl⟩
        refine AnyH.one 5 (by kernel_rfl) ?_
        first | refine Turn.ef rfl rfl (ef_pv (pv_load rfl rfl rfl) rfl) ?_ ?_ | refine Turn.ef rfl rfl (ef_pv (pv_load rfl rfl (by assumption)) rfl) ?_ ?_
        · rintro _ _ ⟨rfl, rfl⟩; infer_instance
        rintro _ _ ⟨rfl, rfl⟩
        refine AnyH.take 7 rfl (by kernel_rfl) (by kernel_rfl) (by kernel_rfl) PF.pf rfl (pv_sliceL (i := 0) (j := i) (r := (l.take i).length) rfl rfl ⟨_, rfl⟩ (Nat.zero_le _) (by omega) lA.symm) rfl ?_
        refine AnyH.one 8 (by kernel_rfl) ?_
        refine Turn.ef rfl rfl (ef_appendV (H := [(b4, .cells ([] : List Value).toArray 118)]) rfl (slc_empty' 118 3 b4) rfl (hA.mono (by intro p hp; simp [hp])) (cel_one _) (by omega) (by omega) rfl rfl) ?_ ?_
        · rintro _ _ ⟨u13, K13, hu13, rfl, rfl⟩; infer_instance
        rintro _ _ ⟨u13, K13, hu13, rfl, rfl⟩
        refine AnyH.app ?_
        rw [Nat.zero_add, List.nil_append] at hu13
        refine AnyH.one 16 (by kernel_rfl) ?_
        refine Turn.ef rfl rfl (ef_appendV (H := K13) rfl hu13 rfl (hB.mono (by intro p hp; simp [hp])) (cel_one _) (by omega) (by omega) rfl rfl) ?_ ?_
        · rintro _ _ ⟨u14, K14, hu14, rfl, rfl⟩; infer_instance
        rintro _ _ ⟨u14, K14, hu14, rfl, rfl⟩
        refine AnyH.app ?_
        have ho1 := hu14.one
        have ho2 := hu14.cells1
        first | refine AnyH.take 17 rfl (by kernel_rfl) (by kernel_rfl) (by kernel_rfl) PF.pf rfl (pv_nilCheck rfl) rfl ?_ | refine AnyH.take 17 rfl (by kernel_rfl) (by kernel_rfl) (by kernel_rfl) PF.pf rfl (pv_nilCheck_func rfl rfl) rfl ?_
        first | refine AnyH.take 18 rfl (by kernel_rfl) (by kernel_rfl) (by kernel_rfl) PF.pf rfl (pv_fieldAddr0 rfl rfl) rfl ?_ | refine AnyH.take 18 rfl (by kernel_rfl) (by kernel_rfl) (by kernel_rfl) PF.pf rfl (pv_fieldAddr rfl rfl) rfl ?_
        refine AnyH.one 19 (by kernel_rfl) ?_
        refine Turn.ef rfl rfl (ef_store1 rfl rfl (by first | rfl | assumption) (by first | rfl | assumption)) ?_ ?_
        · rintro _ _ ⟨rfl, rfl⟩; infer_instance
        rintro _ _ ⟨rfl, rfl⟩
        refine AnyH.done (by kernel_rfl) ?_
        refine Ends.seq ?_
        refine Wp.seq ?_
        refine Wp.region ?_
        refine Ops.pv (pv_assign rfl) rfl ?_
        refine Ops.nil ?_
        refine Ends.seq ?_
        refine Wp.ret ?_
        rw [ddel_cel, ddel_len hlt, ← ddel_eq hi] at hu14
        refine Ends.heap (L' := dBlk qb u14 :: (K14 ++ (dCaps (ddel l x) ++ F))) (fun w ho => ?_) ?_
        · have h2 : Own W w (dCaps l ++ (dBlk qb u14 :: (K14 ++ F))) := Drop.own ho
          have h3 := h2.perm ((ddel_perm hd).append_right _)
          rw [← ddel_eq hi, List.cons_append] at h3
          exact (Drop.own h3 : Own W w (dBlk qb u14 :: (K14 ++ (dCaps (ddel l x) ++ F))))
        exact Ends.ret (L' := dBlk qb u14 :: (K14 ++ dCaps (ddel l x))) (res1 rfl rfl) (.inr ⟨dempty_yes (fun j1 c1 hj1 hc1 => hz j1 c1 (by omega) hc1), rfl, _, _, hu14, rfl⟩)
      · first | refine Turn.ef rfl rfl (ef_pv (pv_load rfl rfl rfl) rfl) ?_ ?_ | refine Turn.ef rfl rfl (ef_pv (pv_load rfl rfl (by assumption)) rfl) ?_ ?_
        · rintro _ _ ⟨rfl, rfl⟩; infer_instance
        rintro _ _ ⟨rfl, rfl⟩
        refine AnyH.take 7 rfl (by kernel_rfl) (by kernel_rfl) (by kernel_rfl) PF.pf rfl (pv_sliceL (i := 0) (j := i) (r := (l.take i).length) rfl rfl ⟨_, rfl⟩ (Nat.zero_le _) (by omega) lA.symm) rfl ?_
        refine AnyH.one 1 (by kernel_rfl) ?_
        refine Turn.ef rfl rfl (ef_buildSlice0 rfl) ?_ ?_
        · rintro _ _ ⟨b5, rfl, rfl⟩; infer_instance
        rintro _ _ ⟨b5, rfl, rfl⟩
        refine AnyH.one 8 (by kernel_rfl) ?_
        refine Turn.ef rfl rfl (ef_appendV (H := [(b5, .cells ([] : List Value).toArray 118)]) rfl (slc_empty' 118 3 b5) rfl (hA.mono (by intro p hp; simp [hp])) (cel_one _) (by omega) (by omega) rfl rfl) ?_ ?_
        · rintro _ _ ⟨u15, K15, hu15, rfl, rfl⟩; infer_instance
        rintro _ _ ⟨u15, K15, hu15, rfl, rfl⟩
        refine AnyH.app ?_
        rw [Nat.zero_add, List.nil_append] at hu15
        refine AnyH.one 16 (by kernel_rfl) ?_
        refine Turn.ef rfl rfl (ef_appendV (H := K15) rfl hu15 rfl (hB.mono (by intro p hp; simp [hp])) (cel_one _) (by omega) (by omega) rfl rfl) ?_ ?_
        · rintro _ _ ⟨u16, K16, hu16, rfl, rfl⟩; infer_instance
        rintro _ _ ⟨u16, K16, hu16, rfl, rfl⟩
        refine AnyH.app ?_
        have ho1 := hu16.one
        have ho2 := hu16.cells1
        first | refine AnyH.take 17 rfl (by kernel_rfl) (by kernel_rfl) (by kernel_rfl) PF.pf rfl (pv_nilCheck rfl) rfl ?_ | refine AnyH.take 17 rfl (by kernel_rfl) (by kernel_rfl) (by kernel_rfl) PF.pf rfl (pv_nilCheck_func rfl rfl) rfl ?_
        first | refine AnyH.take 18 rfl (by kernel_rfl) (by kernel_rfl) (by kernel_rfl) PF.pf rfl (pv_fieldAddr0 rfl rfl) rfl ?_ | refine AnyH.take 18 rfl (by kernel_rfl) (by kernel_rfl) (by kernel_rfl) PF.pf rfl (pv_fieldAddr rfl rfl) rfl ?_
        refine AnyH.one 19 (by kernel_rfl) ?_
        refine Turn.ef rfl rfl (ef_store1 rfl rfl (by first | rfl | assumption) (by first | rfl | assumption)) ?_ ?_
        · rintro _ _ ⟨rfl, rfl⟩; infer_instance
        rintro _ _ ⟨rfl, rfl⟩
        refine AnyH.done (by kernel_rfl) ?_
        refine Ends.seq ?_
        refine Wp.seq ?_
        refine Wp.region ?_
        refine Ops.pv (pv_assign rfl) rfl ?_
        refine Ops.nil ?_
        refine Ends.seq ?_
        refine Wp.ret ?_
        rw [ddel_cel, ddel_len hlt, ← ddel_eq hi] at hu16
        refine Ends.heap (L' := dBlk qb u16 :: (K16 ++ (dCaps (ddel l x) ++ F))) (fun w ho => ?_) ?_
        · have h2 : Own W w (dCaps l ++ (dBlk qb u16 :: (K16 ++ F))) := Drop.own ho
          have h3 := h2.perm ((ddel_perm hd).append_right _)
          rw [← ddel_eq hi, List.cons_append] at h3
          exact (Drop.own h3 : Own W w (dBlk qb u16 :: (K16 ++ (dCaps (ddel l x) ++ F))))
        exact Ends.ret (L' := dBlk qb u16 :: (K16 ++ dCaps (ddel l x))) (res1 rfl rfl) (.inr ⟨dempty_yes (fun j1 c1 hj1 hc1 => hz j1 c1 (by omega) hc1), rfl, _, _, hu16, rfl⟩)

end Go.Proofs.Ytpoamckpdpkpoaa
