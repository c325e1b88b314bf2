/- Walks of layer 8 (guard): Resolve, Find and Cap leave the store as it is, and answer as the plain functions say. No condition. -/
import Derived.Test.YtpoamckpdpkpoaaM08b
set_option linter.unusedVariables false
set_option linter.unusedSimpArgs false
namespace Go.Proofs.Ytpoamckpdpkpoaa
open Go.SL

theorem tr_next (bl bp p l : Nat) (n : Int) (hp : p < 2 ^ 64) (hl : l ≤ 16) : Tr Try.prog 54 [.int .i64 n, .pointer (some ⟨bl, 0, none⟩), .pointer (some ⟨bp, 0, none⟩)] ([(bl, .cells [.int .i64 l].toArray 3), (bp, .cells [.int .u64 p].toArray 22)]) (fun v L' => v = .tuple #[.int .u64 (nxtV p l n), .bool (nxtOk l n)] ∧ L' = [(bl, .cells [.int .i64 (nxtL l n)].toArray 3), (bp, .cells [.int .u64 p].toArray 22)]) := by
  refine Tr.enter Try.func54 rfl Try.ntmps54 rfl (fun W F => ?_)
  refine Wp.app ?_
  refine Wp.seq ?_
  refine Wp.region ?_
  refine Ops.pv (pv_assign rfl) rfl ?_
  refine Ops.pv (pv_assign rfl) rfl ?_
  refine Ops.nil ?_
  refine Ends.seq ?_
  refine Wp.seq ?_
  refine Wp.seq ?_
  refine Wp.region ?_
  refine Ops.pv (pv_move rfl) rfl ?_
  refine Ops.pv (pv_lss rfl rfl) rfl ?_
  refine Ops.pv (pv_move rfl) rfl ?_
  first | refine Ops.split (t := 8) rfl (fun h1 => ?_) (fun h1 => ?_) | refine Ops.splitb (t := 8) rfl (fun h1 => ?_) (fun h1 => ?_)
  · refine Ops.skipg ⟨_, _, rfl, rfl, rfl⟩ rfl ?_
    refine Ops.skipg ⟨_, _, rfl, rfl, rfl⟩ rfl ?_
    refine Ops.skipg ⟨_, _, rfl, rfl, rfl⟩ rfl ?_
    refine Ops.pv (pv_pick_true rfl rfl) rfl ?_
    refine Ops.nil ?_
    refine Ends.seq ?_
    refine Wp.cond_true rfl ?_
    refine Wp.seq ?_
    refine Wp.region ?_
    refine Ops.pv (pv_assign rfl) rfl ?_
    refine Ops.pv (pv_assign rfl) rfl ?_
    refine Ops.nil ?_
    refine Ends.seq ?_
    refine Wp.ret ?_
    refine Ends.then_ret ?_
    exact Ends.ret (L' := [(bl, .cells [.int .i64 l].toArray 3), (bp, .cells [.int .u64 p].toArray 22)]) (res2 rfl rfl rfl) ⟨by rw [nxtV, nxtOk, if_neg (by omega), decide_eq_false (by omega)]; rfl, by rw [nxtL, if_neg (by omega)]⟩
  · refine Ops.pvg ⟨_, _, rfl, rfl, rfl⟩ (pv_move rfl) rfl ?_
    first | refine Ops.pvg ⟨_, _, rfl, rfl, rfl⟩ (pv_load rfl rfl rfl) rfl ?_ | refine Ops.pvg ⟨_, _, rfl, rfl, rfl⟩ (pv_load rfl rfl (by assumption)) rfl ?_
    refine Ops.pvg ⟨_, _, rfl, rfl, rfl⟩ (pv_gtr rfl rfl) rfl ?_
    refine Ops.pv (pv_pick_false rfl rfl) rfl ?_
    refine Ops.nil ?_
    refine Ends.seq ?_
    first | refine Wp.cond_dect rfl (fun h2 => ?_) (fun h2 => ?_) | refine Wp.cond_t rfl (fun h2 => ?_) (fun h2 => ?_)
    · refine Wp.seq ?_
      refine Wp.region ?_
      refine Ops.pv (pv_assign rfl) rfl ?_
      refine Ops.pv (pv_assign rfl) rfl ?_
      refine Ops.nil ?_
      refine Ends.seq ?_
      refine Wp.ret ?_
      refine Ends.then_ret ?_
      exact Ends.ret (L' := [(bl, .cells [.int .i64 l].toArray 3), (bp, .cells [.int .u64 p].toArray 22)]) (res2 rfl rfl rfl) ⟨by rw [nxtV, nxtOk, if_neg (by omega), decide_eq_false (by omega)]; rfl, by rw [nxtL, if_neg (by omega)]⟩
    · obtain ⟨k, rfl⟩ : ∃ k : Nat, n = k := ⟨n.toNat, by omega⟩
      have hk : 0 ≤ (k : Int) ∧ (k : Int) ≤ (l : Int) := by omega
      have hkl : ((l - k : Nat) : Int) = (l : Int) - k := by omega
      refine Wp.skip ?_
      refine Ends.seq ?_
      refine Wp.seq ?_
      refine Wp.region ?_
      first | refine Ops.pv (pv_load rfl rfl rfl) rfl ?_ | refine Ops.pv (pv_load rfl rfl (by assumption)) rfl ?_
      refine Ops.pv (pv_move rfl) rfl ?_
      first | refine Ops.pv (pv_sub rfl rfl (w64 (by omega) (by omega))) rfl ?_ | refine Ops.pv (pv_sub rfl rfl rfl) rfl ?_
      refine Ops.ef rfl (ef_store1 rfl rfl (by first | rfl | assumption) (by first | rfl | assumption)) ?_
      rintro _ _ ⟨rfl, rfl⟩
      refine Ops.nil ?_
      refine Ends.seq ?_
      refine Wp.seq ?_
      refine AnyH.startL 9 rfl ?_
      first | refine AnyH.take 0 rfl (by kernel_rfl) (by kernel_rfl) (by kernel_rfl) PF.pf rfl (pv_load rfl rfl rfl) rfl ?_ | refine AnyH.take 0 rfl (by kernel_rfl) (by kernel_rfl) (by kernel_rfl) PF.pf rfl (pv_load rfl rfl (by assumption)) rfl ?_
      first | refine AnyH.take 1 rfl (by kernel_rfl) (by kernel_rfl) (by kernel_rfl) PF.pf rfl (pv_load rfl rfl rfl) rfl ?_ | refine AnyH.take 1 rfl (by kernel_rfl) (by kernel_rfl) (by kernel_rfl) PF.pf rfl (pv_load rfl rfl (by assumption)) rfl ?_
      refine AnyH.take 2 rfl (by kernel_rfl) (by kernel_rfl) (by kernel_rfl) PF.pf rfl (pv_shr rfl rfl (by omega) rfl) rfl ?_
      refine AnyH.take 3 rfl (by kernel_rfl) (by kernel_rfl) (by kernel_rfl) PF.pf rfl (pv_move rfl) rfl ?_
      refine AnyH.take 4 rfl (by kernel_rfl) (by kernel_rfl) (by kernel_rfl) PF.pf rfl (pv_shl rfl rfl (by omega) rfl) rfl ?_
      first | refine AnyH.take 5 rfl (by kernel_rfl) (by kernel_rfl) (by kernel_rfl) PF.pf rfl (pv_sub rfl rfl (u64 (by omega) (by omega))) rfl ?_ | refine AnyH.take 5 rfl (by kernel_rfl) (by kernel_rfl) (by kernel_rfl) PF.pf rfl (pv_sub rfl rfl rfl) rfl ?_
      refine AnyH.take 6 rfl (by kernel_rfl) (by kernel_rfl) (by kernel_rfl) PF.pf rfl (pv_and rfl rfl rfl) rfl ?_
      refine AnyH.take 7 rfl (by kernel_rfl) (by kernel_rfl) (by kernel_rfl) PF.pf rfl (pv_assign rfl) rfl ?_
      refine AnyH.take 8 rfl (by kernel_rfl) (by kernel_rfl) (by kernel_rfl) PF.pf rfl (pv_assign rfl) rfl ?_
      refine AnyH.done (by kernel_rfl) ?_
      refine Ends.seq ?_
      refine Wp.ret ?_
      refine Ends.setE (t := 4) rfl (congrArg (Value.int .u64) (bits_next hp hl (by omega))) ?_
      exact Ends.ret (L' := [(bl, .cells [.int .i64 (l - k)].toArray 3), (bp, .cells [.int .u64 p].toArray 22)]) (res2 rfl rfl rfl) ⟨by rw [nxtV, nxtOk, if_pos hk, decide_eq_true hk]; rfl, by rw [nxtL, if_pos hk, Int.toNat_natCast, hkl]⟩

set_option maxHeartbeats 2000000 in
theorem tr_resolve (sb : Nat) (S : StoreM) (root : CapM) (p : Nat) (depth : Int) (hw : S.Wf) (hp : p < 2 ^ 64) : TrR Try.prog 18 [.pointer (some ⟨sb, 0, none⟩), root.v, .int .u64 p, .int .i64 depth] (storeHp sb S) (.tuple #[slotV (resolveM S root p depth).1, .int .i64 (resolveM S root p depth).2.1, .int .i64 (resolveM S root p depth).2.2]) := by
  refine Tr.enter Try.func18 rfl Try.ntmps18 rfl (fun W F => ?_)
  refine Wp.app ?_
  refine Wp.seq ?_
  refine Wp.region ?_
  refine Ops.ef rfl (ef_boxK rfl rfl) ?_
  rintro _ _ ⟨b1, rfl, rfl⟩
  refine Ops.ef rfl (ef_box1 rfl rfl rfl) ?_
  rintro _ _ ⟨b2, rfl, rfl⟩
  refine Ops.ef rfl (ef_allocK tyZ31 rfl) ?_
  rintro _ _ ⟨b3, rfl, rfl⟩
  refine Ops.pv (pv_assign rfl) rfl ?_
  refine Ops.pv (pv_assign rfl) rfl ?_
  refine Ops.nil ?_
  refine Ends.seq ?_
  refine Wp.seq ?_
  refine Wp.block ?_
  refine Wp.seq ?_
  refine Wp.region ?_
  refine Ops.pv (pv_move rfl) rfl ?_
  refine Ops.pv (pv_lss rfl rfl) rfl ?_
  refine Ops.pv (pv_move rfl) rfl ?_
  first | refine Ops.split (t := 24) rfl (fun h1 => ?_) (fun h1 => ?_) | refine Ops.splitb (t := 24) rfl (fun h1 => ?_) (fun h1 => ?_)
  · refine Ops.skipg ⟨_, _, rfl, rfl, rfl⟩ rfl ?_
    refine Ops.skipg ⟨_, _, rfl, rfl, rfl⟩ rfl ?_
    refine Ops.pv (pv_pick_true rfl rfl) rfl ?_
    refine Ops.pv (pv_move rfl) rfl ?_
    refine Ops.skipg ⟨_, _, rfl, rfl, rfl⟩ rfl ?_
    refine Ops.skipg ⟨_, _, rfl, rfl, rfl⟩ rfl ?_
    refine Ops.skipg ⟨_, _, rfl, rfl, rfl⟩ rfl ?_
    refine Ops.skipg ⟨_, _, rfl, rfl, rfl⟩ rfl ?_
    refine Ops.pv (pv_pick_true rfl rfl) rfl ?_
    refine Ops.pv (pv_assign rfl) rfl ?_
    refine Ops.nil ?_
    refine Ends.seq ?_
    refine Wp.cond_true rfl ?_
    refine Wp.seq ?_
    refine Wp.region ?_
    refine Ops.pv (pv_build rfl) rfl ?_
    refine Ops.ef rfl (ef_storeK rfl rfl rfl rfl) ?_
    rintro _ _ ⟨rfl, rfl⟩
    refine Ops.pv (pv_assign rfl) rfl ?_
    refine Ops.pv (pv_assign rfl) rfl ?_
    refine Ops.nil ?_
    refine Ends.seq ?_
    refine Wp.ret ?_
    refine Ends.block_ret ?_
    refine Ends.then_ret ?_
    exact Ends.ret (res_list (rs := [.cell 8 31, .tmp 9, .tmp 10]) rfl ⟨_, _, rfl, rv_cellK [_, _] rfl rfl rfl ⟨rfl, rfl, trivial⟩, ⟨_, _, rfl, rv_tmp rfl, ⟨_, _, rfl, rv_tmp rfl, rfl⟩⟩⟩ rfl) ⟨by rw [resolve_e1 (.inl h1)]; rfl, rfl⟩
  · refine Ops.pvg ⟨_, _, rfl, rfl, rfl⟩ (pv_move rfl) rfl ?_
    refine Ops.pvg ⟨_, _, rfl, rfl, rfl⟩ (pv_gtr rfl rfl) rfl ?_
    refine Ops.pv (pv_pick_false rfl rfl) rfl ?_
    refine Ops.pv (pv_move rfl) rfl ?_
    first | refine Ops.split (t := 28) rfl (fun h2 => ?_) (fun h2 => ?_) | refine Ops.splitb (t := 28) rfl (fun h2 => ?_) (fun h2 => ?_)
    · refine Ops.skipg ⟨_, _, rfl, rfl, rfl⟩ rfl ?_
      refine Ops.skipg ⟨_, _, rfl, rfl, rfl⟩ rfl ?_
      refine Ops.skipg ⟨_, _, rfl, rfl, rfl⟩ rfl ?_
      refine Ops.skipg ⟨_, _, rfl, rfl, rfl⟩ rfl ?_
      refine Ops.pv (pv_pick_true rfl rfl) rfl ?_
      refine Ops.pv (pv_assign rfl) rfl ?_
      refine Ops.nil ?_
      refine Ends.seq ?_
      refine Wp.cond_true rfl ?_
      refine Wp.seq ?_
      refine Wp.region ?_
      refine Ops.pv (pv_build rfl) rfl ?_
      refine Ops.ef rfl (ef_storeK rfl rfl rfl rfl) ?_
      rintro _ _ ⟨rfl, rfl⟩
      refine Ops.pv (pv_assign rfl) rfl ?_
      refine Ops.pv (pv_assign rfl) rfl ?_
      refine Ops.nil ?_
      refine Ends.seq ?_
      refine Wp.ret ?_
      refine Ends.block_ret ?_
      refine Ends.then_ret ?_
      exact Ends.ret (res_list (rs := [.cell 8 31, .tmp 9, .tmp 10]) rfl ⟨_, _, rfl, rv_cellK [_, _] rfl rfl rfl ⟨rfl, rfl, trivial⟩, ⟨_, _, rfl, rv_tmp rfl, ⟨_, _, rfl, rv_tmp rfl, rfl⟩⟩⟩ rfl) ⟨by rw [resolve_e1 (.inr h2)]; rfl, rfl⟩
    · first | refine Ops.pvg ⟨_, _, rfl, rfl, rfl⟩ (pv_load rfl rfl rfl) rfl ?_ | refine Ops.pvg ⟨_, _, rfl, rfl, rfl⟩ (pv_load rfl rfl (by assumption)) rfl ?_
      refine Ops.pvg ⟨_, _, rfl, rfl, rfl⟩ (pv_move rfl) rfl ?_
      refine Ops.pvg ⟨_, _, rfl, rfl, rfl⟩ (pv_shr rfl rfl (by omega) rfl) rfl ?_
      refine Ops.pvg ⟨_, _, rfl, rfl, rfl⟩ (pv_neq rfl rfl) rfl ?_
      refine Ops.pv (pv_pick_false rfl rfl) rfl ?_
      refine Ops.pv (pv_assign rfl) rfl ?_
      refine Ops.nil ?_
      refine Ends.seq ?_
      first | refine Wp.cond_dect rfl (fun h3 => ?_) (fun h3 => ?_) | refine Wp.cond_t rfl (fun h3 => ?_) (fun h3 => ?_)
      · refine Wp.seq ?_
        refine Wp.region ?_
        refine Ops.pv (pv_build rfl) rfl ?_
        refine Ops.ef rfl (ef_storeK rfl rfl rfl rfl) ?_
        rintro _ _ ⟨rfl, rfl⟩
        refine Ops.pv (pv_assign rfl) rfl ?_
        refine Ops.pv (pv_assign rfl) rfl ?_
        refine Ops.nil ?_
        refine Ends.seq ?_
        refine Wp.ret ?_
        refine Ends.block_ret ?_
        refine Ends.then_ret ?_
        exact Ends.ret (res_list (rs := [.cell 8 31, .tmp 9, .tmp 10]) rfl ⟨_, _, rfl, rv_cellK [_, _] rfl rfl rfl ⟨rfl, rfl, trivial⟩, ⟨_, _, rfl, rv_tmp rfl, ⟨_, _, rfl, rv_tmp rfl, rfl⟩⟩⟩ rfl) ⟨by rw [resolve_e1' h1 h2 h3]; rfl, rfl⟩
      · refine Wp.seq ?_
        refine Wp.region ?_
        first | refine Ops.pv (pv_fieldAddr0 rfl rfl) rfl ?_ | refine Ops.pv (pv_fieldAddr rfl rfl) rfl ?_
        first | refine Ops.pv (pv_load rfl rfl rfl) rfl ?_ | refine Ops.pv (pv_load rfl rfl (by assumption)) rfl ?_
        refine Ops.pv (pv_neq rfl rfl) rfl ?_
        refine Ops.pv (pv_assign rfl) rfl ?_
        refine Ops.nil ?_
        refine Ends.seq ?_
        first | refine Wp.cond_dect rfl (fun h4 => ?_) (fun h4 => ?_) | refine Wp.cond_t rfl (fun h4 => ?_) (fun h4 => ?_)
        · refine Wp.seq ?_
          refine Wp.region ?_
          refine Ops.pv (pv_build rfl) rfl ?_
          refine Ops.ef rfl (ef_storeK rfl rfl rfl rfl) ?_
          rintro _ _ ⟨rfl, rfl⟩
          refine Ops.pv (pv_assign rfl) rfl ?_
          refine Ops.pv (pv_assign rfl) rfl ?_
          refine Ops.nil ?_
          refine Ends.seq ?_
          refine Wp.ret ?_
          refine Ends.block_ret ?_
          refine Ends.then_ret ?_
          exact Ends.ret (res_list (rs := [.cell 8 31, .tmp 9, .tmp 10]) rfl ⟨_, _, rfl, rv_cellK [_, _] rfl rfl rfl ⟨rfl, rfl, trivial⟩, ⟨_, _, rfl, rv_tmp rfl, ⟨_, _, rfl, rv_tmp rfl, rfl⟩⟩⟩ rfl) ⟨by rw [resolve_e2 h1 h2 h3 h4]; rfl, rfl⟩
        · obtain ⟨k, rfl⟩ : ∃ k : Nat, depth = k := ⟨depth.toNat, by omega⟩
          refine Wp.skip ?_
          refine Ends.block_normal ?_
          refine Ends.seq ?_
          refine Wp.seq ?_
          refine Wp.region ?_
          refine Ops.pv (pv_move rfl) rfl ?_
          refine Ops.ef rfl (ef_alloc1 tyZ3 rfl rfl) ?_
          rintro _ _ ⟨b4, rfl, rfl⟩
          refine Ops.ef rfl (ef_store1 rfl rfl (by first | rfl | assumption) (by first | rfl | assumption)) ?_
          rintro _ _ ⟨rfl, rfl⟩
          refine Ops.nil ?_
          refine Ends.seq ?_
          refine Wp.seq ?_
          refine Wp.region ?_
          refine Ops.pv (pv_makeFunc rfl rfl) rfl ?_
          refine Ops.pv (pv_assign rfl) rfl ?_
          refine Ops.nil ?_
          refine Ends.seq ?_
          refine Wp.seq ?_
          refine Wp.region ?_
          refine Ops.pv (pv_loadK [_, _, _, _, _, _] rfl rfl rfl ⟨rfl, rfl, rfl, rfl, rfl, rfl, trivial⟩) rfl ?_
          refine Ops.ef rfl (ef_allocK tyZ29 rfl) ?_
          rintro _ _ ⟨b5, rfl, rfl⟩
          refine Ops.ef rfl (ef_storeK rfl rfl rfl rfl) ?_
          rintro _ _ ⟨rfl, rfl⟩
          refine Ops.nil ?_
          refine Ends.seq ?_
          refine Wp.block ?_
          refine Wp.loop (σ := Nat × CapM × Nat × Nat) (fun x => [(0, .pointer (some ⟨sb, 0, none⟩)), (8, .pointer (some ⟨b3, 0, none⟩)), (9, .int .i64 0), (10, .int .i64 0), (11, .pointer (some ⟨b4, 0, none⟩)), (12, .func (.func 54) #[] #[.pointer (some ⟨b4, 0, none⟩), .pointer (some ⟨b2, 0, none⟩)]), (13, .pointer (some ⟨x.1, 0, none⟩))]) (fun x => (x.1, .cells x.2.1.cells.toArray 29) :: (b4, .cells [.int .i64 x.2.2.1].toArray 3) :: (b3, .cells [.int .i64 0, .int .i64 0].toArray 31) :: (b2, .cells [.int .u64 p].toArray 22) :: (storeHp sb S ++ F)) (fun x => x.2.2.1 ≤ 16 ∧ x.2.2.1 < x.2.2.2 ∧ resolveM S root p (k : Int) = resLoop S p x.2.2.2 x.2.1 x.2.2.1) (fun x => x.2.2.2) (b5, root, k, k + 1) ?_ (by exact ⟨rfl, rfl, rfl, rfl, rfl, rfl, rfl, trivial⟩) (by exact fun w ho => Drop.own ho) ?_
          · dsimp only; exact ⟨by omega, by omega, resolve_go h1 h2 h3 h4⟩
          rintro ⟨b5, c, l, m⟩ K ⟨hl, hlm, hres⟩ hK
          dsimp only at hl hlm hres hK ⊢
          obtain ⟨m, rfl⟩ : ∃ j, m = j + 1 := ⟨m - 1, by omega⟩
          have hl1 : nxtL l c.bits ≤ 16 := Nat.le_trans (nxtL_le _ _) hl
          have hv := nxtV_lt (p := p) (l := nxtL l c.bits) (n := S.radix c.object) hl1
          have hr0 := S.radix_nonneg c.object
          refine Wp.seq ?_
          refine Wp.block ?_
          refine Wp.seq ?_
          refine Wp.region ?_
          refine Ops.pv (pv_move rfl) rfl ?_
          first | refine Ops.pv (pv_fieldAddr0 rfl rfl) rfl ?_ | refine Ops.pv (pv_fieldAddr rfl rfl) rfl ?_
          first | refine Ops.pv (pv_load rfl rfl rfl) rfl ?_ | refine Ops.pv (pv_load rfl rfl (by assumption)) rfl ?_
          refine Ops.ef rfl (ef_callr (tr_radix sb S _) rfl rfl) ?_
          rintro _ _ ⟨rfl, rfl⟩
          refine Ops.pv (pv_assign rfl) rfl ?_
          refine Ops.nil ?_
          refine Ends.seq ?_
          refine Wp.seq ?_
          refine Wp.region ?_
          refine Ops.pv (pv_move rfl) rfl ?_
          first | refine Ops.pv (pv_fieldAddr0 rfl rfl) rfl ?_ | refine Ops.pv (pv_fieldAddr rfl rfl) rfl ?_
          first | refine Ops.pv (pv_load rfl rfl rfl) rfl ?_ | refine Ops.pv (pv_load rfl rfl (by assumption)) rfl ?_
          refine Ops.ef rfl (ef_callf rfl rfl (tr_next b4 b2 p l c.bits hp hl) rfl) ?_
          rintro _ _ ⟨_, _, ⟨rfl, rfl⟩, rfl, rfl⟩
          refine Ops.app ?_
          refine Ops.pv (pv_move rfl) rfl ?_
          refine Ops.pv (pv_extract rfl rfl) rfl ?_
          refine Ops.pv (pv_extract rfl rfl) rfl ?_
          refine Ops.pv (pv_assign rfl) rfl ?_
          refine Ops.pv (pv_assign rfl) rfl ?_
          refine Ops.nil ?_
          refine Ends.seq ?_
          refine Wp.seq ?_
          refine Wp.seq ?_
          refine Wp.region ?_
          refine Ops.pv (pv_move rfl) rfl ?_
          refine Ops.pv (pv_eql rfl rfl) rfl ?_
          refine Ops.pv (pv_move rfl) rfl ?_
          first | refine Ops.split (t := 56) rfl (fun h5 => ?_) (fun h5 => ?_) | refine Ops.splitb (t := 56) rfl (fun h5 => ?_) (fun h5 => ?_)
          · refine Ops.skipg ⟨_, _, rfl, rfl, rfl⟩ rfl ?_
            refine Ops.skipg ⟨_, _, rfl, rfl, rfl⟩ rfl ?_
            refine Ops.pv (pv_pick_true rfl rfl) rfl ?_
            refine Ops.pv (pv_move rfl) rfl ?_
            refine Ops.skipg ⟨_, _, rfl, rfl, rfl⟩ rfl ?_
            refine Ops.skipg ⟨_, _, rfl, rfl, rfl⟩ rfl ?_
            refine Ops.skipg ⟨_, _, rfl, rfl, rfl⟩ rfl ?_
            refine Ops.skipg ⟨_, _, rfl, rfl, rfl⟩ rfl ?_
            refine Ops.pv (pv_pick_true rfl rfl) rfl ?_
            refine Ops.nil ?_
            refine Ends.seq ?_
            refine Wp.cond_true rfl ?_
            refine Wp.seq ?_
            refine Wp.region ?_
            refine Ops.pv (pv_build rfl) rfl ?_
            refine Ops.ef rfl (ef_storeK rfl rfl rfl rfl) ?_
            rintro _ _ ⟨rfl, rfl⟩
            refine Ops.pv (pv_assign rfl) rfl ?_
            refine Ops.pv (pv_assign rfl) rfl ?_
            refine Ops.nil ?_
            refine Ends.seq ?_
            refine Wp.ret ?_
            refine Ends.then_ret ?_
            refine Ends.block_ret ?_
            refine Ends.then_ret ?_
            refine Ends.then_ret ?_
            refine Ends.block_ret ?_
            exact Ends.ret (res_list (rs := [.cell 8 31, .tmp 9, .tmp 10]) rfl ⟨_, _, rfl, rv_cellK [_, _] rfl rfl rfl ⟨rfl, rfl, trivial⟩, ⟨_, _, rfl, rv_tmp rfl, ⟨_, _, rfl, rv_tmp rfl, rfl⟩⟩⟩ rfl) ⟨by rw [hres, rl_e (.inl h5)]; rfl, rfl⟩
          · refine Ops.pvg ⟨_, _, rfl, rfl, rfl⟩ (pv_move rfl) rfl ?_
            first | refine Ops.pvg ⟨_, _, rfl, rfl, rfl⟩ (pv_not_dec rfl) rfl ?_ | refine Ops.pvg ⟨_, _, rfl, rfl, rfl⟩ (pv_not rfl) rfl ?_
            refine Ops.pv (pv_pick_false rfl rfl) rfl ?_
            refine Ops.pv (pv_move rfl) rfl ?_
            first | refine Ops.split (t := 60) rfl (fun h6 => ?_) (fun h6 => ?_) | refine Ops.splitb (t := 60) rfl (fun h6 => ?_) (fun h6 => ?_)
            · refine Ops.skipg ⟨_, _, rfl, rfl, rfl⟩ rfl ?_
              refine Ops.skipg ⟨_, _, rfl, rfl, rfl⟩ rfl ?_
              refine Ops.skipg ⟨_, _, rfl, rfl, rfl⟩ rfl ?_
              refine Ops.skipg ⟨_, _, rfl, rfl, rfl⟩ rfl ?_
              refine Ops.pv (pv_pick_true rfl rfl) rfl ?_
              refine Ops.nil ?_
              refine Ends.seq ?_
              refine Wp.cond_true rfl ?_
              refine Wp.seq ?_
              refine Wp.region ?_
              refine Ops.pv (pv_build rfl) rfl ?_
              refine Ops.ef rfl (ef_storeK rfl rfl rfl rfl) ?_
              rintro _ _ ⟨rfl, rfl⟩
              refine Ops.pv (pv_assign rfl) rfl ?_
              refine Ops.pv (pv_assign rfl) rfl ?_
              refine Ops.nil ?_
              refine Ends.seq ?_
              refine Wp.ret ?_
              refine Ends.then_ret ?_
              refine Ends.block_ret ?_
              refine Ends.then_ret ?_
              refine Ends.then_ret ?_
              refine Ends.block_ret ?_
              exact Ends.ret (res_list (rs := [.cell 8 31, .tmp 9, .tmp 10]) rfl ⟨_, _, rfl, rv_cellK [_, _] rfl rfl rfl ⟨rfl, rfl, trivial⟩, ⟨_, _, rfl, rv_tmp rfl, ⟨_, _, rfl, rv_tmp rfl, rfl⟩⟩⟩ rfl) ⟨by rw [hres, rl_e (.inr (.inl (decide_eq_false h6)))]; rfl, rfl⟩
            · refine Ops.pvg ⟨_, _, rfl, rfl, rfl⟩ (pv_move rfl) rfl ?_
              first | refine Ops.pvg ⟨_, _, rfl, rfl, rfl⟩ (pv_fieldAddr0 rfl rfl) rfl ?_ | refine Ops.pvg ⟨_, _, rfl, rfl, rfl⟩ (pv_fieldAddr rfl rfl) rfl ?_
              first | refine Ops.pvg ⟨_, _, rfl, rfl, rfl⟩ (pv_load rfl rfl rfl) rfl ?_ | refine Ops.pvg ⟨_, _, rfl, rfl, rfl⟩ (pv_load rfl rfl (by assumption)) rfl ?_
              refine Ops.pvg ⟨_, _, rfl, rfl, rfl⟩ (pv_neq rfl rfl) rfl ?_
              refine Ops.pv (pv_pick_false rfl rfl) rfl ?_
              refine Ops.nil ?_
              refine Ends.seq ?_
              first | refine Wp.cond_dect rfl (fun h7 => ?_) (fun h7 => ?_) | refine Wp.cond_t rfl (fun h7 => ?_) (fun h7 => ?_)
              · refine Wp.seq ?_
                refine Wp.region ?_
                refine Ops.pv (pv_build rfl) rfl ?_
                refine Ops.ef rfl (ef_storeK rfl rfl rfl rfl) ?_
                rintro _ _ ⟨rfl, rfl⟩
                refine Ops.pv (pv_assign rfl) rfl ?_
                refine Ops.pv (pv_assign rfl) rfl ?_
                refine Ops.nil ?_
                refine Ends.seq ?_
                refine Wp.ret ?_
                refine Ends.then_ret ?_
                refine Ends.block_ret ?_
                refine Ends.then_ret ?_
                refine Ends.then_ret ?_
                refine Ends.block_ret ?_
                exact Ends.ret (res_list (rs := [.cell 8 31, .tmp 9, .tmp 10]) rfl ⟨_, _, rfl, rv_cellK [_, _] rfl rfl rfl ⟨rfl, rfl, trivial⟩, ⟨_, _, rfl, rv_tmp rfl, ⟨_, _, rfl, rv_tmp rfl, rfl⟩⟩⟩ rfl) ⟨by rw [hres, rl_e (.inr (.inr h7))]; rfl, rfl⟩
              · refine Wp.skip ?_
                refine Ends.seq ?_
                refine Wp.seq ?_
                refine Wp.region ?_
                refine Ops.pv (pv_move rfl) rfl ?_
                refine Ops.pv (pv_move rfl) rfl ?_
                refine Ops.ef rfl (ef_callf rfl rfl (tr_next b4 b2 p (nxtL l c.bits) (S.radix c.object) hp hl1) rfl) ?_
                rintro _ _ ⟨_, _, ⟨rfl, rfl⟩, rfl, rfl⟩
                refine Ops.app ?_
                refine Ops.pv (pv_move rfl) rfl ?_
                refine Ops.pv (pv_extract rfl rfl) rfl ?_
                refine Ops.pv (pv_extract rfl rfl) rfl ?_
                refine Ops.pv (pv_assign rfl) rfl ?_
                refine Ops.pv (pv_assign rfl) rfl ?_
                refine Ops.nil ?_
                refine Ends.seq ?_
                refine Wp.seq ?_
                refine Wp.seq ?_
                refine Wp.region ?_
                refine Ops.pv (pv_move rfl) rfl ?_
                first | refine Ops.pv (pv_not_dec rfl) rfl ?_ | refine Ops.pv (pv_not rfl) rfl ?_
                refine Ops.nil ?_
                refine Ends.seq ?_
                first | refine Wp.cond_dect rfl (fun h8 => ?_) (fun h8 => ?_) | refine Wp.cond_t rfl (fun h8 => ?_) (fun h8 => ?_)
                · refine Wp.seq ?_
                  refine Wp.region ?_
                  refine Ops.pv (pv_build rfl) rfl ?_
                  refine Ops.ef rfl (ef_storeK rfl rfl rfl rfl) ?_
                  rintro _ _ ⟨rfl, rfl⟩
                  refine Ops.pv (pv_assign rfl) rfl ?_
                  refine Ops.pv (pv_assign rfl) rfl ?_
                  refine Ops.nil ?_
                  refine Ends.seq ?_
                  refine Wp.ret ?_
                  refine Ends.then_ret ?_
                  refine Ends.block_ret ?_
                  refine Ends.then_ret ?_
                  refine Ends.then_ret ?_
                  refine Ends.block_ret ?_
                  exact Ends.ret (res_list (rs := [.cell 8 31, .tmp 9, .tmp 10]) rfl ⟨_, _, rfl, rv_cellK [_, _] rfl rfl rfl ⟨rfl, rfl, trivial⟩, ⟨_, _, rfl, rv_tmp rfl, ⟨_, _, rfl, rv_tmp rfl, rfl⟩⟩⟩ rfl) ⟨by rw [hres, rl_e2 (rl_n h5 h6 h7) (decide_eq_false h8)]; rfl, rfl⟩
                · refine Wp.skip ?_
                  refine Ends.seq ?_
                  refine Wp.seq ?_
                  refine Wp.region ?_
                  first | refine Ops.pv (pv_fieldAddr0 rfl rfl) rfl ?_ | refine Ops.pv (pv_fieldAddr rfl rfl) rfl ?_
                  first | refine Ops.pv (pv_load rfl rfl rfl) rfl ?_ | refine Ops.pv (pv_load rfl rfl (by assumption)) rfl ?_
                  refine Ops.pv (pv_move rfl) rfl ?_
                  first | refine Ops.pv (pv_conv rfl (w64 (by omega) (by omega))) rfl ?_ | refine Ops.pv (pv_conv rfl rfl) rfl ?_
                  refine Ops.pv (pv_build rfl) rfl ?_
                  refine Ops.ef rfl (ef_allocK tyZ31 rfl) ?_
                  rintro _ _ ⟨b6, rfl, rfl⟩
                  refine Ops.ef rfl (ef_storeK rfl rfl rfl rfl) ?_
                  rintro _ _ ⟨rfl, rfl⟩
                  refine Ops.nil ?_
                  refine Ends.seq ?_
                  refine Wp.seq ?_
                  refine Wp.region ?_
                  refine Ops.pv (pv_move rfl) rfl ?_
                  refine Ops.pv (pv_loadK [_, _] rfl rfl rfl ⟨rfl, rfl, trivial⟩) rfl ?_
                  refine Ops.ef rfl (ef_callr (tr_get sb S (c.object, (nxtV p (nxtL l c.bits) (S.radix c.object) : Int)) hw) rfl rfl) ?_
                  rintro _ _ ⟨rfl, rfl⟩
                  refine Ops.pv (pv_move rfl) rfl ?_
                  refine Ops.pv (pv_extract rfl rfl) rfl ?_
                  refine Ops.pv (pv_extract rfl rfl) rfl ?_
                  refine Ops.ef rfl (ef_allocK tyZ29 rfl) ?_
                  rintro _ _ ⟨b7, rfl, rfl⟩
                  refine Ops.ef rfl (ef_storeK rfl rfl rfl rfl) ?_
                  rintro _ _ ⟨rfl, rfl⟩
                  refine Ops.pv (pv_assign rfl) rfl ?_
                  refine Ops.nil ?_
                  refine Ends.seq ?_
                  refine Wp.seq ?_
                  refine Wp.seq ?_
                  refine Wp.region ?_
                  first | refine Ops.pv (pv_load rfl rfl rfl) rfl ?_ | refine Ops.pv (pv_load rfl rfl (by assumption)) rfl ?_
                  refine Ops.pv (pv_eql rfl rfl) rfl ?_
                  refine Ops.pv (pv_move rfl) rfl ?_
                  first | refine Ops.split (t := 89) rfl (fun h9 => ?_) (fun h9 => ?_) | refine Ops.splitb (t := 89) rfl (fun h9 => ?_) (fun h9 => ?_)
                  · refine Ops.skipg ⟨_, _, rfl, rfl, rfl⟩ rfl ?_
                    refine Ops.skipg ⟨_, _, rfl, rfl, rfl⟩ rfl ?_
                    refine Ops.skipg ⟨_, _, rfl, rfl, rfl⟩ rfl ?_
                    refine Ops.pv (pv_pick_true rfl rfl) rfl ?_
                    refine Ops.nil ?_
                    refine Ends.seq ?_
                    refine Wp.cond_true rfl ?_
                    refine Wp.seq ?_
                    refine AnyH.start [(b6, .cells [.int .i64 c.object, .int .i64 (nxtV p (nxtL l c.bits) (S.radix c.object))].toArray 31), (b4, .cells [.int .i64 (nxtL (nxtL l c.bits) (S.radix c.object))].toArray 3)] 5 rfl ?_
                    refine AnyH.take 0 rfl (by kernel_rfl) (by kernel_rfl) (by kernel_rfl) PF.pf rfl (pv_loadK [_, _] rfl rfl rfl ⟨rfl, rfl, trivial⟩) rfl ?_
                    first | refine AnyH.take 1 rfl (by kernel_rfl) (by kernel_rfl) (by kernel_rfl) PF.pf rfl (pv_load rfl rfl rfl) rfl ?_ | refine AnyH.take 1 rfl (by kernel_rfl) (by kernel_rfl) (by kernel_rfl) PF.pf rfl (pv_load rfl rfl (by assumption)) rfl ?_
                    refine AnyH.one 2 (by kernel_rfl) ?_
                    refine Turn.ef rfl rfl (ef_storeK rfl rfl rfl rfl) ?_ ?_
                    · rintro _ _ ⟨rfl, rfl⟩; infer_instance
                    rintro _ _ ⟨rfl, rfl⟩
                    refine AnyH.take 3 rfl (by kernel_rfl) (by kernel_rfl) (by kernel_rfl) PF.pf rfl (pv_assign rfl) rfl ?_
                    refine AnyH.take 4 rfl (by kernel_rfl) (by kernel_rfl) (by kernel_rfl) PF.pf rfl (pv_assign rfl) rfl ?_
                    refine AnyH.done (by kernel_rfl) ?_
                    refine Ends.seq ?_
                    refine Wp.ret ?_
                    refine Ends.then_ret ?_
                    refine Ends.block_ret ?_
                    refine Ends.then_ret ?_
                    refine Ends.then_ret ?_
                    refine Ends.block_ret ?_
                    exact Ends.ret (res_list (rs := [.cell 8 31, .tmp 9, .tmp 10]) rfl ⟨_, _, rfl, rv_cellK [_, _] rfl rfl rfl ⟨rfl, rfl, trivial⟩, ⟨_, _, rfl, rv_tmp rfl, ⟨_, _, rfl, rv_tmp rfl, rfl⟩⟩⟩ rfl) ⟨by rw [hres, rl_f (rl_n h5 h6 h7) (fun h => h8 (of_decide_eq_false h)) (.inl (by omega))], rfl⟩
                  · first | refine Ops.pvg ⟨_, _, rfl, rfl, rfl⟩ (pv_fieldAddr0 rfl rfl) rfl ?_ | refine Ops.pvg ⟨_, _, rfl, rfl, rfl⟩ (pv_fieldAddr rfl rfl) rfl ?_
                    first | refine Ops.pvg ⟨_, _, rfl, rfl, rfl⟩ (pv_load rfl rfl rfl) rfl ?_ | refine Ops.pvg ⟨_, _, rfl, rfl, rfl⟩ (pv_load rfl rfl (by assumption)) rfl ?_
                    refine Ops.pvg ⟨_, _, rfl, rfl, rfl⟩ (pv_neq rfl rfl) rfl ?_
                    refine Ops.pv (pv_pick_false rfl rfl) rfl ?_
                    refine Ops.nil ?_
                    refine Ends.seq ?_
                    first | refine Wp.cond_dect rfl (fun h10 => ?_) (fun h10 => ?_) | refine Wp.cond_t rfl (fun h10 => ?_) (fun h10 => ?_)
                    · refine Wp.seq ?_
                      refine AnyH.start [(b6, .cells [.int .i64 c.object, .int .i64 (nxtV p (nxtL l c.bits) (S.radix c.object))].toArray 31), (b4, .cells [.int .i64 (nxtL (nxtL l c.bits) (S.radix c.object))].toArray 3)] 5 rfl ?_
                      refine AnyH.take 0 rfl (by kernel_rfl) (by kernel_rfl) (by kernel_rfl) PF.pf rfl (pv_loadK [_, _] rfl rfl rfl ⟨rfl, rfl, trivial⟩) rfl ?_
                      first | refine AnyH.take 1 rfl (by kernel_rfl) (by kernel_rfl) (by kernel_rfl) PF.pf rfl (pv_load rfl rfl rfl) rfl ?_ | refine AnyH.take 1 rfl (by kernel_rfl) (by kernel_rfl) (by kernel_rfl) PF.pf rfl (pv_load rfl rfl (by assumption)) rfl ?_
                      refine AnyH.one 2 (by kernel_rfl) ?_
                      refine Turn.ef rfl rfl (ef_storeK rfl rfl rfl rfl) ?_ ?_
                      · rintro _ _ ⟨rfl, rfl⟩; infer_instance
                      rintro _ _ ⟨rfl, rfl⟩
                      refine AnyH.take 3 rfl (by kernel_rfl) (by kernel_rfl) (by kernel_rfl) PF.pf rfl (pv_assign rfl) rfl ?_
                      refine AnyH.take 4 rfl (by kernel_rfl) (by kernel_rfl) (by kernel_rfl) PF.pf rfl (pv_assign rfl) rfl ?_
                      refine AnyH.done (by kernel_rfl) ?_
                      refine Ends.seq ?_
                      refine Wp.ret ?_
                      refine Ends.then_ret ?_
                      refine Ends.block_ret ?_
                      refine Ends.then_ret ?_
                      refine Ends.then_ret ?_
                      refine Ends.block_ret ?_
                      exact Ends.ret (res_list (rs := [.cell 8 31, .tmp 9, .tmp 10]) rfl ⟨_, _, rfl, rv_cellK [_, _] rfl rfl rfl ⟨rfl, rfl, trivial⟩, ⟨_, _, rfl, rv_tmp rfl, ⟨_, _, rfl, rv_tmp rfl, rfl⟩⟩⟩ rfl) ⟨by rw [hres, rl_f (rl_n h5 h6 h7) (fun h => h8 (of_decide_eq_false h)) (.inr h10)], rfl⟩
                    · refine Wp.skip ?_
                      refine Ends.seq ?_
                      refine Wp.region ?_
                      refine Ops.pv (pv_loadK [_, _, _, _, _, _] rfl rfl rfl ⟨rfl, rfl, rfl, rfl, rfl, rfl, trivial⟩) rfl ?_
                      refine Ops.ef rfl (ef_storeK rfl rfl rfl rfl) ?_
                      rintro _ _ ⟨rfl, rfl⟩
                      refine Ops.nil ?_
                      refine Ends.block_normal ?_
                      refine Ends.seq ?_
                      refine Wp.seq ?_
                      refine Wp.region ?_
                      refine Ops.pv (pv_loadK [_, _, _, _, _, _] rfl rfl rfl ⟨rfl, rfl, rfl, rfl, rfl, rfl, trivial⟩) rfl ?_
                      refine Ops.nil ?_
                      refine Ends.seq ?_
                      refine Wp.region ?_
                      refine Ops.ef rfl (ef_allocK tyZ29 rfl) ?_
                      rintro _ _ ⟨b8, rfl, rfl⟩
                      refine Ops.ef rfl (ef_storeK rfl rfl rfl rfl) ?_
                      rintro _ _ ⟨rfl, rfl⟩
                      refine Ops.nil ?_
                      refine Ends.goes ?_
                      refine Goes.back (hK (b8, (S.get (c.object, (nxtV p (nxtL l c.bits) (S.radix c.object) : Int))).1, nxtL (nxtL l c.bits) (S.radix c.object), m) ⟨?_, ?_, ?_⟩ (by simp)) ⟨rfl, rfl, rfl, rfl, rfl, rfl, rfl, trivial⟩
                      · exact Nat.le_trans (nxtL_le _ _) hl1
                      · have hlt := nxtL_lt (decide_eq_true (Decidable.not_not.mp h8)) h5
                        have hle := nxtL_le l c.bits
                        dsimp only; omega
                      · rw [hres]; exact rl_g (rl_n h5 h6 h7) (fun h => h8 (of_decide_eq_false h)) (by rintro (h | h) <;> omega)

theorem tr_find (sb : Nat) (S : StoreM) (root : CapM) (p : Nat) (depth : Int) (hw : S.Wf) (hp : p < 2 ^ 64) : TrR Try.prog 17 [.pointer (some ⟨sb, 0, none⟩), root.v, .int .u64 p, .int .i64 depth] (storeHp sb S) (.tuple #[slotV (findM S root p depth).1, .int .i64 (findM S root p depth).2]) := by
  refine Tr.enter Try.func17 rfl Try.ntmps17 rfl (fun W F => ?_)
  refine Wp.app ?_
  refine Wp.seq ?_
  refine Wp.region ?_
  refine Ops.ef rfl (ef_boxK rfl rfl) ?_
  rintro _ _ ⟨b1, rfl, rfl⟩
  refine Ops.ef rfl (ef_allocK tyZ31 rfl) ?_
  rintro _ _ ⟨b2, rfl, rfl⟩
  refine Ops.pv (pv_assign rfl) rfl ?_
  refine Ops.nil ?_
  refine Ends.seq ?_
  refine Wp.seq ?_
  refine Wp.region ?_
  refine Ops.pv (pv_move rfl) rfl ?_
  refine Ops.pv (pv_loadK [_, _, _, _, _, _] rfl rfl rfl ⟨rfl, rfl, rfl, rfl, rfl, rfl, trivial⟩) rfl ?_
  refine Ops.pv (pv_move rfl) rfl ?_
  refine Ops.pv (pv_move rfl) rfl ?_
  refine Ops.ef rfl (ef_callr (tr_resolve sb S root p depth hw hp) rfl rfl) ?_
  rintro _ _ ⟨rfl, rfl⟩
  refine Ops.pv (pv_move rfl) rfl ?_
  refine Ops.pv (pv_extract rfl rfl) rfl ?_
  refine Ops.pv (pv_extract rfl rfl) rfl ?_
  refine Ops.pv (pv_extract rfl rfl) rfl ?_
  refine Ops.ef rfl (ef_allocK tyZ31 rfl) ?_
  rintro _ _ ⟨b3, rfl, rfl⟩
  refine Ops.ef rfl (ef_storeK rfl rfl rfl rfl) ?_
  rintro _ _ ⟨rfl, rfl⟩
  refine Ops.pv (pv_assign rfl) rfl ?_
  refine Ops.pv (pv_assign rfl) rfl ?_
  refine Ops.nil ?_
  refine Ends.seq ?_
  refine Wp.seq ?_
  refine Wp.seq ?_
  refine Wp.region ?_
  refine Ops.pv (pv_move rfl) rfl ?_
  refine Ops.pv (pv_eql rfl rfl) rfl ?_
  refine Ops.pv (pv_move rfl) rfl ?_
  first | refine Ops.split (t := 24) rfl (fun h1 => ?_) (fun h1 => ?_) | refine Ops.splitb (t := 24) rfl (fun h1 => ?_) (fun h1 => ?_)
  · refine Ops.pvg ⟨_, _, rfl, rfl, rfl⟩ (pv_move rfl) rfl ?_
    refine Ops.pvg ⟨_, _, rfl, rfl, rfl⟩ (pv_gtr rfl rfl) rfl ?_
    refine Ops.pv (pv_pick_true rfl rfl) rfl ?_
    refine Ops.nil ?_
    refine Ends.seq ?_
    first | refine Wp.cond_dect rfl (fun h2 => ?_) (fun h2 => ?_) | refine Wp.cond_t rfl (fun h2 => ?_) (fun h2 => ?_)
    · refine Wp.region ?_
      refine Ops.pv (pv_assign rfl) rfl ?_
      refine Ops.nil ?_
      refine Ends.seq ?_
      refine Wp.seq ?_
      refine Wp.seq ?_
      refine Wp.region ?_
      refine Ops.pv (pv_move rfl) rfl ?_
      refine Ops.pv (pv_neq rfl rfl) rfl ?_
      refine Ops.nil ?_
      refine Ends.seq ?_
      first | refine Wp.cond_dect rfl (fun h3 => ?_) (fun h3 => ?_) | refine Wp.cond_t rfl (fun h3 => ?_) (fun h3 => ?_)
      · refine Wp.seq ?_
        refine Wp.region ?_
        refine Ops.pv (pv_build rfl) rfl ?_
        refine Ops.pv (pv_move rfl) rfl ?_
        refine Ops.ef rfl (ef_storeK rfl rfl rfl rfl) ?_
        rintro _ _ ⟨rfl, rfl⟩
        refine Ops.pv (pv_assign rfl) rfl ?_
        refine Ops.nil ?_
        refine Ends.seq ?_
        refine Wp.ret ?_
        refine Ends.then_ret ?_
        exact Ends.ret (res_list (rs := [.cell 8 31, .tmp 9]) rfl ⟨_, _, rfl, rv_cellK [_, _] rfl rfl rfl ⟨rfl, rfl, trivial⟩, ⟨_, _, rfl, rv_tmp rfl, rfl⟩⟩ rfl) ⟨by rw [findM, if_neg (by omega), if_pos h2], rfl⟩
      · refine Wp.skip ?_
        refine Ends.seq ?_
        refine Wp.seq ?_
        refine Wp.region ?_
        refine Ops.pv (pv_loadK [_, _] rfl rfl rfl ⟨rfl, rfl, trivial⟩) rfl ?_
        refine Ops.ef rfl (ef_storeK rfl rfl rfl rfl) ?_
        rintro _ _ ⟨rfl, rfl⟩
        refine Ops.pv (pv_assign rfl) rfl ?_
        refine Ops.nil ?_
        refine Ends.seq ?_
        refine Wp.ret ?_
        exact absurd (by decide : (6 : Int) ≠ 0) h3
    · refine Wp.skip ?_
      refine Ends.seq ?_
      refine Wp.seq ?_
      refine Wp.seq ?_
      refine Wp.region ?_
      refine Ops.pv (pv_move rfl) rfl ?_
      refine Ops.pv (pv_neq rfl rfl) rfl ?_
      refine Ops.nil ?_
      refine Ends.seq ?_
      first | refine Wp.cond_dect rfl (fun h4 => ?_) (fun h4 => ?_) | refine Wp.cond_t rfl (fun h4 => ?_) (fun h4 => ?_)
      · refine Wp.seq ?_
        refine Wp.region ?_
        refine Ops.pv (pv_build rfl) rfl ?_
        refine Ops.pv (pv_move rfl) rfl ?_
        refine Ops.ef rfl (ef_storeK rfl rfl rfl rfl) ?_
        rintro _ _ ⟨rfl, rfl⟩
        refine Ops.pv (pv_assign rfl) rfl ?_
        refine Ops.nil ?_
        refine Ends.seq ?_
        refine Wp.ret ?_
        refine Ends.then_ret ?_
        exact absurd h1 h4
      · refine Wp.skip ?_
        refine Ends.seq ?_
        refine Wp.seq ?_
        refine Wp.region ?_
        refine Ops.pv (pv_loadK [_, _] rfl rfl rfl ⟨rfl, rfl, trivial⟩) rfl ?_
        refine Ops.ef rfl (ef_storeK rfl rfl rfl rfl) ?_
        rintro _ _ ⟨rfl, rfl⟩
        refine Ops.pv (pv_assign rfl) rfl ?_
        refine Ops.nil ?_
        refine Ends.seq ?_
        refine Wp.ret ?_
        exact Ends.ret (res_list (rs := [.cell 8 31, .tmp 9]) rfl ⟨_, _, rfl, rv_cellK [_, _] rfl rfl rfl ⟨rfl, rfl, trivial⟩, ⟨_, _, rfl, rv_tmp rfl, rfl⟩⟩ rfl) ⟨by rw [findM, if_neg h4, if_neg h2], rfl⟩
  · refine Ops.skipg ⟨_, _, rfl, rfl, rfl⟩ rfl ?_
    refine Ops.skipg ⟨_, _, rfl, rfl, rfl⟩ rfl ?_
    refine Ops.pv (pv_pick_false rfl rfl) rfl ?_
    refine Ops.nil ?_
    refine Ends.seq ?_
    refine Wp.cond_false rfl ?_
    refine Wp.skip ?_
    refine Ends.seq ?_
    refine Wp.seq ?_
    refine Wp.seq ?_
    refine Wp.region ?_
    refine Ops.pv (pv_move rfl) rfl ?_
    refine Ops.pv (pv_neq rfl rfl) rfl ?_
    refine Ops.nil ?_
    refine Ends.seq ?_
    first | refine Wp.cond_dect rfl (fun h5 => ?_) (fun h5 => ?_) | refine Wp.cond_t rfl (fun h5 => ?_) (fun h5 => ?_)
    · refine Wp.seq ?_
      refine Wp.region ?_
      refine Ops.pv (pv_build rfl) rfl ?_
      refine Ops.pv (pv_move rfl) rfl ?_
      refine Ops.ef rfl (ef_storeK rfl rfl rfl rfl) ?_
      rintro _ _ ⟨rfl, rfl⟩
      refine Ops.pv (pv_assign rfl) rfl ?_
      refine Ops.nil ?_
      refine Ends.seq ?_
      refine Wp.ret ?_
      refine Ends.then_ret ?_
      exact Ends.ret (res_list (rs := [.cell 8 31, .tmp 9]) rfl ⟨_, _, rfl, rv_cellK [_, _] rfl rfl rfl ⟨rfl, rfl, trivial⟩, ⟨_, _, rfl, rv_tmp rfl, rfl⟩⟩ rfl) ⟨by rw [findM, if_pos h1], rfl⟩
    · refine Wp.skip ?_
      refine Ends.seq ?_
      refine Wp.seq ?_
      refine Wp.region ?_
      refine Ops.pv (pv_loadK [_, _] rfl rfl rfl ⟨rfl, rfl, trivial⟩) rfl ?_
      refine Ops.ef rfl (ef_storeK rfl rfl rfl rfl) ?_
      rintro _ _ ⟨rfl, rfl⟩
      refine Ops.pv (pv_assign rfl) rfl ?_
      refine Ops.nil ?_
      refine Ends.seq ?_
      refine Wp.ret ?_
      exact absurd h1 h5

theorem tr_add_new (sb : Nat) (S : StoreM) (hS : S.nodes = []) (id : Int) (r : Nat) (h0 : 0 ≤ id) (h1 : id < 64) (h2 : 1 ≤ r) (h3 : r ≤ 4) : Tr Try.prog 16 [.pointer (some ⟨sb, 0, none⟩), .int .i64 id, .int .i64 r] (storeHp sb S) (fun v L' => v = .int .i64 0 ∧ ∃ b, L' = storeHp sb (S.addNode id b r)) :=
  (tr_add sb S id r).mono fun v L' ⟨hv, h⟩ => by
    have e : addErr S id r = 0 := by unfold addErr; rw [if_neg (by omega), hS]; rfl
    rcases h with ⟨h, _⟩ | ⟨_, b, h⟩
    · exact absurd e h
    · exact ⟨by rw [hv, e], b, by simpa using h⟩

theorem tr_works  : TrR Try.prog 14 [] ([]) (.bool true) := by
  refine Tr.enter Try.func14 rfl Try.ntmps14 rfl (fun W F => ?_)
  refine Wp.app ?_
  refine Wp.seq ?_
  refine Wp.region ?_
  refine Ops.pv (pv_assign rfl) rfl ?_
  refine Ops.nil ?_
  refine Ends.seq ?_
  refine Wp.seq ?_
  refine Wp.region ?_
  refine Ops.ef rfl (ef_call (tr_slotsNew) rfl rfl) ?_
  rintro _ _ ⟨_, _, ⟨sb1, S1, rfl, rfl, hS1⟩, rfl, rfl⟩
  refine Ops.app ?_
  refine Ops.pv (pv_assign rfl) rfl ?_
  refine Ops.nil ?_
  refine Ends.seq ?_
  refine Wp.seq ?_
  refine Wp.seq ?_
  refine Wp.region ?_
  refine Ops.pv (pv_move rfl) rfl ?_
  refine Ops.pv (pv_eql_nil rfl rfl) rfl ?_
  refine Ops.pv (pv_move rfl) rfl ?_
  refine Ops.pvg ⟨_, _, rfl, rfl, rfl⟩ (pv_move rfl) rfl ?_
  refine Ops.efg ⟨_, _, rfl, rfl, rfl⟩ (ef_call (tr_add_new sb1 S1 hS1 1 2 (by decide) (by decide) (by decide) (by decide)) rfl rfl) ?_
  rintro _ _ ⟨_, _, ⟨rfl, b1, rfl⟩, rfl, rfl⟩
  refine Ops.app ?_
  refine Ops.pvg ⟨_, _, rfl, rfl, rfl⟩ (pv_neq rfl rfl) rfl ?_
  refine Ops.pv (pv_pick_false rfl rfl) rfl ?_
  refine Ops.nil ?_
  refine Ends.seq ?_
  refine Wp.cond_false rfl ?_
  refine Wp.skip ?_
  refine Ends.seq ?_
  refine Wp.seq ?_
  refine Wp.region ?_
  refine Ops.pv (pv_build rfl) rfl ?_
  refine Ops.ef rfl (ef_allocK tyZ29 rfl) ?_
  rintro _ _ ⟨b2, rfl, rfl⟩
  refine Ops.ef rfl (ef_storeK rfl rfl rfl rfl) ?_
  rintro _ _ ⟨rfl, rfl⟩
  refine Ops.nil ?_
  refine Ends.seq ?_
  refine Wp.seq ?_
  refine Wp.region ?_
  refine Ops.pv (pv_move rfl) rfl ?_
  refine Ops.pv (pv_loadK [_, _, _, _, _, _] rfl rfl rfl ⟨rfl, rfl, rfl, rfl, rfl, rfl, trivial⟩) rfl ?_
  refine Ops.ef rfl (ef_callr ((tr_find sb1 (S1.addNode 1 b1 2) ⟨2, 1, 0, 0, 5, 3⟩ 22 5 (add_wf hS1 1 b1 2 (by decide) (by decide) (by decide) (by decide)) (by decide)).eq (r' := .tuple #[slotV (1, 2), .int .i64 0]) (by rw [(works_find hS1 b1).1])) rfl rfl) ?_
  rintro _ _ ⟨rfl, rfl⟩
  refine Ops.pv (pv_move rfl) rfl ?_
  refine Ops.pv (pv_extract rfl rfl) rfl ?_
  refine Ops.pv (pv_extract rfl rfl) rfl ?_
  refine Ops.ef rfl (ef_allocK tyZ31 rfl) ?_
  rintro _ _ ⟨b3, rfl, rfl⟩
  refine Ops.ef rfl (ef_storeK rfl rfl rfl rfl) ?_
  rintro _ _ ⟨rfl, rfl⟩
  refine Ops.pv (pv_assign rfl) rfl ?_
  refine Ops.nil ?_
  refine Ends.seq ?_
  refine Wp.seq ?_
  refine Wp.region ?_
  first | refine Ops.pv (pv_fieldAddr0 rfl rfl) rfl ?_ | refine Ops.pv (pv_fieldAddr rfl rfl) rfl ?_
  refine Ops.ef rfl (ef_store1 rfl rfl (by first | rfl | assumption) (by first | rfl | assumption)) ?_
  rintro _ _ ⟨rfl, rfl⟩
  refine Ops.nil ?_
  refine Ends.seq ?_
  refine Wp.seq ?_
  refine Wp.region ?_
  refine Ops.pv (pv_move rfl) rfl ?_
  refine Ops.pv (pv_loadK [_, _, _, _, _, _] rfl rfl rfl ⟨rfl, rfl, rfl, rfl, rfl, rfl, trivial⟩) rfl ?_
  refine Ops.ef rfl (ef_callr ((tr_find sb1 (S1.addNode 1 b1 2) ⟨2, 1, 0, 0, 4, 3⟩ 22 5 (add_wf hS1 1 b1 2 (by decide) (by decide) (by decide) (by decide)) (by decide)).eq (r' := .tuple #[slotV (0, 0), .int .i64 6]) (by rw [(works_find hS1 b1).2.1])) rfl rfl) ?_
  rintro _ _ ⟨rfl, rfl⟩
  refine Ops.pv (pv_move rfl) rfl ?_
  refine Ops.pv (pv_extract rfl rfl) rfl ?_
  refine Ops.pv (pv_extract rfl rfl) rfl ?_
  refine Ops.ef rfl (ef_allocK tyZ31 rfl) ?_
  rintro _ _ ⟨b4, rfl, rfl⟩
  refine Ops.ef rfl (ef_storeK rfl rfl rfl rfl) ?_
  rintro _ _ ⟨rfl, rfl⟩
  refine Ops.pv (pv_assign rfl) rfl ?_
  refine Ops.nil ?_
  refine Ends.seq ?_
  refine Wp.seq ?_
  refine Wp.region ?_
  refine Ops.pv (pv_move rfl) rfl ?_
  refine Ops.pv (pv_build rfl) rfl ?_
  refine Ops.ef rfl (ef_callr ((tr_find sb1 (S1.addNode 1 b1 2) ⟨6, 0, 0, 0, 0, 0⟩ 22 5 (add_wf hS1 1 b1 2 (by decide) (by decide) (by decide) (by decide)) (by decide)).eq (r' := .tuple #[slotV (0, 0), .int .i64 2]) (by rw [(works_find hS1 b1).2.2.1])) rfl rfl) ?_
  rintro _ _ ⟨rfl, rfl⟩
  refine Ops.pv (pv_move rfl) rfl ?_
  refine Ops.pv (pv_extract rfl rfl) rfl ?_
  refine Ops.pv (pv_extract rfl rfl) rfl ?_
  refine Ops.ef rfl (ef_allocK tyZ31 rfl) ?_
  rintro _ _ ⟨b5, rfl, rfl⟩
  refine Ops.ef rfl (ef_storeK rfl rfl rfl rfl) ?_
  rintro _ _ ⟨rfl, rfl⟩
  refine Ops.pv (pv_assign rfl) rfl ?_
  refine Ops.nil ?_
  refine Ends.seq ?_
  refine Wp.seq ?_
  refine Wp.region ?_
  refine Ops.pv (pv_move rfl) rfl ?_
  refine Ops.pv (pv_loadK [_, _, _, _, _, _] rfl rfl rfl ⟨rfl, rfl, rfl, rfl, rfl, rfl, trivial⟩) rfl ?_
  refine Ops.ef rfl (ef_callr ((tr_find sb1 (S1.addNode 1 b1 2) ⟨2, 1, 0, 0, 4, 3⟩ 32 5 (add_wf hS1 1 b1 2 (by decide) (by decide) (by decide) (by decide)) (by decide)).eq (r' := .tuple #[slotV (0, 0), .int .i64 1]) (by rw [(works_find hS1 b1).2.2.2])) rfl rfl) ?_
  rintro _ _ ⟨rfl, rfl⟩
  refine Ops.pv (pv_move rfl) rfl ?_
  refine Ops.pv (pv_extract rfl rfl) rfl ?_
  refine Ops.pv (pv_extract rfl rfl) rfl ?_
  refine Ops.ef rfl (ef_allocK tyZ31 rfl) ?_
  rintro _ _ ⟨b6, rfl, rfl⟩
  refine Ops.ef rfl (ef_storeK rfl rfl rfl rfl) ?_
  rintro _ _ ⟨rfl, rfl⟩
  refine Ops.pv (pv_assign rfl) rfl ?_
  refine Ops.nil ?_
  refine Ends.seq ?_
  refine Wp.seq ?_
  refine Wp.region ?_
  refine Ops.pv (pv_loadK [_, _] rfl rfl rfl ⟨rfl, rfl, trivial⟩) rfl ?_
  refine Ops.pv (pv_build rfl) rfl ?_
  refine Ops.pv ((pv_eql_slot (a := (1, 2)) (b := (1, 2)) rfl rfl).tru rfl) rfl ?_
  refine Ops.pv (pv_move rfl) rfl ?_
  refine Ops.pvg ⟨_, _, rfl, rfl, rfl⟩ (pv_move rfl) rfl ?_
  refine Ops.pvg ⟨_, _, rfl, rfl, rfl⟩ ((pv_eql rfl rfl).tru (by first | rfl | decide | omega | assumption | (simp; done) | (simp; omega))) rfl ?_
  refine Ops.pv (pv_pick_true rfl rfl) rfl ?_
  refine Ops.pv (pv_move rfl) rfl ?_
  refine Ops.pvg ⟨_, _, rfl, rfl, rfl⟩ (pv_move rfl) rfl ?_
  refine Ops.pvg ⟨_, _, rfl, rfl, rfl⟩ ((pv_eql rfl rfl).tru (by first | rfl | decide | omega | assumption | (simp; done) | (simp; omega))) rfl ?_
  refine Ops.pv (pv_pick_true rfl rfl) rfl ?_
  refine Ops.pv (pv_move rfl) rfl ?_
  refine Ops.pvg ⟨_, _, rfl, rfl, rfl⟩ (pv_move rfl) rfl ?_
  refine Ops.pvg ⟨_, _, rfl, rfl, rfl⟩ ((pv_eql rfl rfl).tru (by first | rfl | decide | omega | assumption | (simp; done) | (simp; omega))) rfl ?_
  refine Ops.pv (pv_pick_true rfl rfl) rfl ?_
  refine Ops.pv (pv_move rfl) rfl ?_
  refine Ops.pvg ⟨_, _, rfl, rfl, rfl⟩ (pv_move rfl) rfl ?_
  refine Ops.pvg ⟨_, _, rfl, rfl, rfl⟩ ((pv_eql rfl rfl).tru (by first | rfl | decide | omega | assumption | (simp; done) | (simp; omega))) rfl ?_
  refine Ops.pv (pv_pick_true rfl rfl) rfl ?_
  refine Ops.pv (pv_assign rfl) rfl ?_
  refine Ops.nil ?_
  refine Ends.seq ?_
  refine Wp.ret ?_
  exact Ends.ret (res1 rfl rfl) ⟨rfl, rfl⟩

set_option maxHeartbeats 2000000 in
theorem tr_guardLeft (radix : Int) (g0 : Nat) (n0 at0 more : Int) (hg0 : g0 < 2 ^ 64) : TrR Try.prog 3 [.int .i64 radix, .int .u64 g0, .int .i64 n0, .int .i64 at0, .int .i64 more] ([]) (.bool true) := by
  obtain ⟨r, hr⟩ : ∃ r, r = 1 + uI radix % 4 := ⟨_, rfl⟩
  obtain ⟨n, hn⟩ : ∃ n, n = uI n0 % 5 := ⟨_, rfl⟩
  obtain ⟨m, hm⟩ : ∃ m, m = 1 + uI more % 6 := ⟨_, rfl⟩
  obtain ⟨g, hg⟩ : ∃ g, g = g0 % 2 ^ n := ⟨_, rfl⟩
  obtain ⟨t, ht⟩ : ∃ t, t = uI at0 % 2 ^ r := ⟨_, rfl⟩
  have hpr := Nat.two_pow_pos r
  have hpn := Nat.two_pow_pos n
  have hgl : g < 2 ^ n := by rw [hg]; exact Nat.mod_lt _ hpn
  have htl : t < 2 ^ r := by rw [ht]; exact Nat.mod_lt _ hpr
  have hgI : (g0 : Int).tmod ((2 ^ n : Nat) : Int) = (g : Int) := by rw [hg]; exact tmod_nat rfl
  have htI : (uI at0 : Int).tmod ((2 ^ r : Nat) : Int) = (t : Int) := by rw [ht]; exact tmod_nat rfl
  have h2r : 2 ^ r ≤ 2 ^ 4 := Nat.pow_le_pow_right (by omega) (by omega)
  have h2n : 2 ^ n ≤ 2 ^ 4 := Nat.pow_le_pow_right (by omega) (by omega)
  have hb0 : g * 2 ^ r ≤ 16 * 2 ^ 4 := Nat.mul_le_mul (by omega) h2r
  have hb : g * 2 ^ r + t < 16 * 16 + 16 := by omega
  have h2m : 2 ^ m ≤ 2 ^ 6 := Nat.pow_le_pow_right (by omega) (by omega)
  have hbm : (g * 2 ^ r + t) * 2 ^ m ≤ 272 * 2 ^ 6 := Nat.mul_le_mul (by omega) h2m
  refine Tr.enter Try.func3 rfl Try.ntmps3 rfl (fun W F => ?_)
  refine Wp.app ?_
  refine Wp.seq ?_
  refine Wp.region ?_
  refine Ops.pv (pv_assign rfl) rfl ?_
  refine Ops.nil ?_
  refine Ends.seq ?_
  refine Wp.seq ?_
  refine Wp.seq ?_
  refine Wp.region ?_
  refine Ops.ef rfl (ef_callr (tr_works) rfl rfl) ?_
  rintro _ _ ⟨rfl, rfl⟩
  first | refine Ops.pv (pv_not_dec rfl) rfl ?_ | refine Ops.pv (pv_not rfl) rfl ?_
  refine Ops.nil ?_
  refine Ends.seq ?_
  refine Wp.cond_false rfl ?_
  refine Wp.skip ?_
  refine Ends.seq ?_
  refine Wp.seq ?_
  refine Wp.region ?_
  refine Ops.pv (pv_move rfl) rfl ?_
  refine Ops.pv (pv_conv rfl (uI_eq radix)) rfl ?_
  refine Ops.pv (pv_rem rfl rfl (by decide) (tmod_nat (b := 4) rfl)) rfl ?_
  first | refine Ops.pv (pv_conv rfl (w64 (by omega) (by omega))) rfl ?_ | refine Ops.pv (pv_conv rfl rfl) rfl ?_
  refine Ops.pv (pv_add rfl rfl (w64n (k := r) (by omega) (by omega))) rfl ?_
  refine Ops.pv (pv_move rfl) rfl ?_
  refine Ops.pv (pv_conv rfl (uI_eq n0)) rfl ?_
  refine Ops.pv (pv_rem rfl rfl (by decide) (tmod_nat (b := 5) rfl)) rfl ?_
  refine Ops.pv (pv_conv rfl (w64n (k := n) (by omega) (by omega))) rfl ?_
  refine Ops.pv (pv_move rfl) rfl ?_
  refine Ops.pv (pv_conv rfl (uI_eq more)) rfl ?_
  refine Ops.pv (pv_rem rfl rfl (by decide) (tmod_nat (b := 6) rfl)) rfl ?_
  first | refine Ops.pv (pv_conv rfl (w64 (by omega) (by omega))) rfl ?_ | refine Ops.pv (pv_conv rfl rfl) rfl ?_
  refine Ops.pv (pv_add rfl rfl (w64n (k := m) (by omega) (by omega))) rfl ?_
  refine Ops.pv (pv_assign rfl) rfl ?_
  refine Ops.pv (pv_assign rfl) rfl ?_
  refine Ops.pv (pv_assign rfl) rfl ?_
  refine Ops.nil ?_
  refine Ends.seq ?_
  refine Wp.seq ?_
  refine Wp.region ?_
  refine Ops.pv (pv_move rfl) rfl ?_
  refine Ops.pv (pv_move rfl) rfl ?_
  refine Ops.pv (pv_shl rfl rfl (by omega) (shl1 (by omega))) rfl ?_
  refine Ops.pv (pv_rem rfl rfl (by omega) hgI) rfl ?_
  refine Ops.pv (pv_assign rfl) rfl ?_
  refine Ops.nil ?_
  refine Ends.seq ?_
  refine Wp.seq ?_
  refine Wp.region ?_
  refine Ops.pv (pv_move rfl) rfl ?_
  refine Ops.pv (pv_conv rfl (uI_eq at0)) rfl ?_
  refine Ops.pv (pv_move rfl) rfl ?_
  refine Ops.pv (pv_shl rfl rfl (by omega) (shl1 (by omega))) rfl ?_
  refine Ops.pv (pv_rem rfl rfl (by omega) htI) rfl ?_
  refine Ops.pv (pv_conv rfl (w64n (k := t) rfl (by omega))) rfl ?_
  refine Ops.pv (pv_assign rfl) rfl ?_
  refine Ops.nil ?_
  refine Ends.seq ?_
  refine Wp.seq ?_
  refine Wp.region ?_
  refine Ops.ef rfl (ef_call (tr_slotsNew) rfl rfl) ?_
  rintro _ _ ⟨_, _, ⟨sb1, S1, rfl, rfl, hS1⟩, rfl, rfl⟩
  refine Ops.app ?_
  refine Ops.pv (pv_assign rfl) rfl ?_
  refine Ops.nil ?_
  refine Ends.seq ?_
  refine Wp.seq ?_
  refine Wp.seq ?_
  refine Wp.region ?_
  refine Ops.pv (pv_move rfl) rfl ?_
  refine Ops.pv (pv_move rfl) rfl ?_
  refine Ops.ef rfl (ef_call (tr_add_new sb1 S1 hS1 5 r (by decide) (by decide) (by omega) (by omega)) rfl rfl) ?_
  rintro _ _ ⟨_, _, ⟨rfl, b1, rfl⟩, rfl, rfl⟩
  refine Ops.app ?_
  have hrr : (S1.addNode 5 b1 r).radix 5 = (r : Int) := by rw [add_radix hS1]; rfl
  have hkk := add_get hS1 5 b1 r
  refine Ops.pv ((pv_neq rfl rfl).fls (by first | exact fun h => h rfl | decide | omega | assumption)) rfl ?_
  refine Ops.nil ?_
  refine Ends.seq ?_
  refine Wp.cond_false rfl ?_
  refine Wp.skip ?_
  refine Ends.seq ?_
  refine Wp.seq ?_
  refine Wp.region ?_
  refine Ops.pv (pv_move rfl) rfl ?_
  refine Ops.pv (pv_move rfl) rfl ?_
  refine Ops.pv (pv_build rfl) rfl ?_
  refine Ops.ef rfl (ef_allocK tyZ29 rfl) ?_
  rintro _ _ ⟨b2, rfl, rfl⟩
  refine Ops.ef rfl (ef_storeK rfl rfl rfl rfl) ?_
  rintro _ _ ⟨rfl, rfl⟩
  refine Ops.nil ?_
  refine Ends.seq ?_
  refine Wp.seq ?_
  refine Wp.region ?_
  refine Ops.pv (pv_move rfl) rfl ?_
  refine Ops.pv (pv_move rfl) rfl ?_
  refine Ops.pv (pv_shl rfl rfl (by omega) (shln (by omega) (by omega))) rfl ?_
  refine Ops.pv (pv_move rfl) rfl ?_
  refine Ops.pv (pv_conv rfl (u64n (k := t) rfl (by omega))) rfl ?_
  refine Ops.pv (pv_add rfl rfl (u64n (k := g * 2 ^ r + t) (by omega) (by omega))) rfl ?_
  refine Ops.pv (pv_assign rfl) rfl ?_
  refine Ops.nil ?_
  refine Ends.seq ?_
  refine Wp.seq ?_
  refine Wp.region ?_
  refine Ops.pv (pv_move rfl) rfl ?_
  refine Ops.pv (pv_loadK [_, _, _, _, _, _] rfl rfl rfl ⟨rfl, rfl, rfl, rfl, rfl, rfl, trivial⟩) rfl ?_
  refine Ops.pv (pv_move rfl) rfl ?_
  refine Ops.pv (pv_move rfl) rfl ?_
  refine Ops.pv (pv_move rfl) rfl ?_
  refine Ops.pv (pv_add rfl rfl (w64n (k := n + r) (by omega) (by omega))) rfl ?_
  refine Ops.ef rfl (ef_callr ((tr_find sb1 (S1.addNode 5 b1 r) ⟨2, 5, 0, 0, g, n⟩ (g * 2 ^ r + t) ((n + r : Nat) : Int) (add_wf hS1 5 b1 r (by decide) (by decide) (by omega) (by omega)) (by omega)).eq (r' := .tuple #[slotV (5, (t : Int)), .int .i64 0]) (by rw [find_one0 hrr hkk (by omega) hgl htl (by omega)])) rfl rfl) ?_
  rintro _ _ ⟨rfl, rfl⟩
  refine Ops.pv (pv_move rfl) rfl ?_
  refine Ops.pv (pv_extract rfl rfl) rfl ?_
  refine Ops.pv (pv_extract rfl rfl) rfl ?_
  refine Ops.ef rfl (ef_allocK tyZ31 rfl) ?_
  rintro _ _ ⟨b3, rfl, rfl⟩
  refine Ops.ef rfl (ef_storeK rfl rfl rfl rfl) ?_
  rintro _ _ ⟨rfl, rfl⟩
  refine Ops.pv (pv_assign rfl) rfl ?_
  refine Ops.nil ?_
  refine Ends.seq ?_
  refine Wp.seq ?_
  refine AnyH.startL 19 rfl ?_
  refine AnyH.take 0 rfl (by kernel_rfl) (by kernel_rfl) (by kernel_rfl) PF.pf rfl (pv_move rfl) rfl ?_
  refine AnyH.take 1 rfl (by kernel_rfl) (by kernel_rfl) (by kernel_rfl) PF.pf rfl (pv_loadK [_, _, _, _, _, _] rfl rfl rfl ⟨rfl, rfl, rfl, rfl, rfl, rfl, trivial⟩) rfl ?_
  refine AnyH.take 2 rfl (by kernel_rfl) (by kernel_rfl) (by kernel_rfl) PF.pf rfl (pv_move rfl) rfl ?_
  refine AnyH.take 3 rfl (by kernel_rfl) (by kernel_rfl) (by kernel_rfl) PF.pf rfl (pv_move rfl) rfl ?_
  refine AnyH.take 4 rfl (by kernel_rfl) (by kernel_rfl) (by kernel_rfl) PF.pf rfl (pv_shl rfl rfl (by omega) (shln (by omega) (by omega))) rfl ?_
  refine AnyH.take 5 rfl (by kernel_rfl) (by kernel_rfl) (by kernel_rfl) PF.pf rfl (pv_move rfl) rfl ?_
  refine AnyH.take 6 rfl (by kernel_rfl) (by kernel_rfl) (by kernel_rfl) PF.pf rfl (pv_move rfl) rfl ?_
  refine AnyH.take 7 rfl (by kernel_rfl) (by kernel_rfl) (by kernel_rfl) PF.pf rfl (pv_add rfl rfl (w64n (k := n + r) (by omega) (by omega))) rfl ?_
  refine AnyH.take 8 rfl (by kernel_rfl) (by kernel_rfl) (by kernel_rfl) PF.pf rfl (pv_move rfl) rfl ?_
  refine AnyH.take 9 rfl (by kernel_rfl) (by kernel_rfl) (by kernel_rfl) PF.pf rfl (pv_add rfl rfl (w64n (k := n + r + m) (by omega) (by omega))) rfl ?_
  refine AnyH.two 10 15 (by kernel_rfl) ?_ ?_
  · refine Turn.ef rfl rfl (ef_callr ((tr_resolve sb1 (S1.addNode 5 b1 r) ⟨2, 5, 0, 0, g, n⟩ ((g * 2 ^ r + t) * 2 ^ m) ((n + r + m : Nat) : Int) (add_wf hS1 5 b1 r (by decide) (by decide) (by omega) (by omega)) (by omega)).eq (r' := .tuple #[slotV (5, (t : Int)), .int .i64 m, .int .i64 0]) (by rw [resolve_one hrr hkk (by omega) hgl htl (by omega)])) rfl rfl) ?_ ?_
    · rintro _ _ ⟨rfl, rfl⟩; infer_instance
    rintro _ _ ⟨rfl, rfl⟩
    refine AnyH.take 11 rfl (by kernel_rfl) (by kernel_rfl) (by kernel_rfl) PF.pf rfl (pv_move rfl) rfl ?_
    refine AnyH.take 12 rfl (by kernel_rfl) (by kernel_rfl) (by kernel_rfl) PF.pf rfl (pv_extract rfl rfl) rfl ?_
    refine AnyH.take 13 rfl (by kernel_rfl) (by kernel_rfl) (by kernel_rfl) PF.pf rfl (pv_extract rfl rfl) rfl ?_
    refine AnyH.take 14 rfl (by kernel_rfl) (by kernel_rfl) (by kernel_rfl) PF.pf rfl (pv_extract rfl rfl) rfl ?_
    refine AnyH.one 15 (by kernel_rfl) ?_
    refine Turn.ef rfl rfl (ef_allocK tyZ31 rfl) ?_ ?_
    · rintro _ _ ⟨b4, rfl, rfl⟩; infer_instance
    rintro _ _ ⟨b4, rfl, rfl⟩
    refine AnyH.one 16 (by kernel_rfl) ?_
    refine Turn.ef rfl rfl (ef_storeK rfl rfl rfl rfl) ?_ ?_
    · rintro _ _ ⟨rfl, rfl⟩; infer_instance
    rintro _ _ ⟨rfl, rfl⟩
    refine AnyH.take 17 rfl (by kernel_rfl) (by kernel_rfl) (by kernel_rfl) PF.pf rfl (pv_assign rfl) rfl ?_
    refine AnyH.take 18 rfl (by kernel_rfl) (by kernel_rfl) (by kernel_rfl) PF.pf rfl (pv_assign rfl) rfl ?_
    refine AnyH.done (by kernel_rfl) ?_
    refine Ends.seq ?_
    refine Wp.seq ?_
    refine AnyH.startL 17 rfl ?_
    refine AnyH.take 0 rfl (by kernel_rfl) (by kernel_rfl) (by kernel_rfl) PF.pf rfl (pv_move rfl) rfl ?_
    refine AnyH.take 1 rfl (by kernel_rfl) (by kernel_rfl) (by kernel_rfl) PF.pf rfl (pv_loadK [_, _, _, _, _, _] rfl rfl rfl ⟨rfl, rfl, rfl, rfl, rfl, rfl, trivial⟩) rfl ?_
    refine AnyH.take 2 rfl (by kernel_rfl) (by kernel_rfl) (by kernel_rfl) PF.pf rfl (pv_move rfl) rfl ?_
    refine AnyH.take 3 rfl (by kernel_rfl) (by kernel_rfl) (by kernel_rfl) PF.pf rfl (pv_move rfl) rfl ?_
    refine AnyH.take 4 rfl (by kernel_rfl) (by kernel_rfl) (by kernel_rfl) PF.pf rfl (pv_shl rfl rfl (by omega) (shln (by omega) (by omega))) rfl ?_
    refine AnyH.take 5 rfl (by kernel_rfl) (by kernel_rfl) (by kernel_rfl) PF.pf rfl (pv_move rfl) rfl ?_
    refine AnyH.take 6 rfl (by kernel_rfl) (by kernel_rfl) (by kernel_rfl) PF.pf rfl (pv_move rfl) rfl ?_
    refine AnyH.take 7 rfl (by kernel_rfl) (by kernel_rfl) (by kernel_rfl) PF.pf rfl (pv_add rfl rfl (w64n (k := n + r) (by omega) (by omega))) rfl ?_
    refine AnyH.take 8 rfl (by kernel_rfl) (by kernel_rfl) (by kernel_rfl) PF.pf rfl (pv_move rfl) rfl ?_
    refine AnyH.take 9 rfl (by kernel_rfl) (by kernel_rfl) (by kernel_rfl) PF.pf rfl (pv_add rfl rfl (w64n (k := n + r + m) (by omega) (by omega))) rfl ?_
    refine AnyH.two 10 14 (by kernel_rfl) ?_ ?_
    · refine Turn.ef rfl rfl (ef_callr ((tr_find sb1 (S1.addNode 5 b1 r) ⟨2, 5, 0, 0, g, n⟩ ((g * 2 ^ r + t) * 2 ^ m) ((n + r + m : Nat) : Int) (add_wf hS1 5 b1 r (by decide) (by decide) (by omega) (by omega)) (by omega)).eq (r' := .tuple #[slotV (0, 0), .int .i64 6]) (by rw [find_one hrr hkk (by omega) hgl htl (by omega), if_neg (by omega)])) rfl rfl) ?_ ?_
      · rintro _ _ ⟨rfl, rfl⟩; infer_instance
      rintro _ _ ⟨rfl, rfl⟩
      refine AnyH.take 11 rfl (by kernel_rfl) (by kernel_rfl) (by kernel_rfl) PF.pf rfl (pv_move rfl) rfl ?_
      refine AnyH.take 12 rfl (by kernel_rfl) (by kernel_rfl) (by kernel_rfl) PF.pf rfl (pv_extract rfl rfl) rfl ?_
      refine AnyH.take 13 rfl (by kernel_rfl) (by kernel_rfl) (by kernel_rfl) PF.pf rfl (pv_extract rfl rfl) rfl ?_
      refine AnyH.one 14 (by kernel_rfl) ?_
      refine Turn.ef rfl rfl (ef_allocK tyZ31 rfl) ?_ ?_
      · rintro _ _ ⟨b5, rfl, rfl⟩; infer_instance
      rintro _ _ ⟨b5, rfl, rfl⟩
      refine AnyH.one 15 (by kernel_rfl) ?_
      refine Turn.ef rfl rfl (ef_storeK rfl rfl rfl rfl) ?_ ?_
      · rintro _ _ ⟨rfl, rfl⟩; infer_instance
      rintro _ _ ⟨rfl, rfl⟩
      refine AnyH.take 16 rfl (by kernel_rfl) (by kernel_rfl) (by kernel_rfl) PF.pf rfl (pv_assign rfl) rfl ?_
      refine AnyH.done (by kernel_rfl) ?_
      refine Ends.seq ?_
      refine Wp.seq ?_
      refine Wp.region ?_
      refine Ops.pv (pv_move rfl) rfl ?_
      refine Ops.pv ((pv_eql rfl rfl).tru (by first | rfl | decide | omega | assumption | (simp; done) | (simp; omega))) rfl ?_
      refine Ops.pv (pv_move rfl) rfl ?_
      refine Ops.pvg ⟨_, _, rfl, rfl, rfl⟩ (pv_loadK [_, _] rfl rfl rfl ⟨rfl, rfl, trivial⟩) rfl ?_
      refine Ops.pvg ⟨_, _, rfl, rfl, rfl⟩ (pv_move rfl) rfl ?_
      refine Ops.pvg ⟨_, _, rfl, rfl, rfl⟩ (pv_build rfl) rfl ?_
      refine Ops.pvg ⟨_, _, rfl, rfl, rfl⟩ ((pv_eql_slot (a := (5, (t : Int))) (b := (5, (t : Int))) rfl rfl).tru rfl) rfl ?_
      refine Ops.pv (pv_pick_true rfl rfl) rfl ?_
      refine Ops.pv (pv_move rfl) rfl ?_
      refine Ops.pvg ⟨_, _, rfl, rfl, rfl⟩ (pv_loadK [_, _] rfl rfl rfl ⟨rfl, rfl, trivial⟩) rfl ?_
      refine Ops.pvg ⟨_, _, rfl, rfl, rfl⟩ (pv_loadK [_, _] rfl rfl rfl ⟨rfl, rfl, trivial⟩) rfl ?_
      refine Ops.pvg ⟨_, _, rfl, rfl, rfl⟩ ((pv_eql_slot (a := (5, (t : Int))) (b := (5, (t : Int))) rfl rfl).tru rfl) rfl ?_
      refine Ops.pv (pv_pick_true rfl rfl) rfl ?_
      refine Ops.pv (pv_move rfl) rfl ?_
      refine Ops.pvg ⟨_, _, rfl, rfl, rfl⟩ (pv_move rfl) rfl ?_
      refine Ops.pvg ⟨_, _, rfl, rfl, rfl⟩ (pv_move rfl) rfl ?_
      refine Ops.pvg ⟨_, _, rfl, rfl, rfl⟩ ((pv_eql rfl rfl).tru rfl) rfl ?_
      refine Ops.pv (pv_pick_true rfl rfl) rfl ?_
      refine Ops.pv (pv_move rfl) rfl ?_
      refine Ops.pvg ⟨_, _, rfl, rfl, rfl⟩ (pv_move rfl) rfl ?_
      refine Ops.pvg ⟨_, _, rfl, rfl, rfl⟩ ((pv_eql rfl rfl).tru (by first | rfl | decide | omega | assumption | (simp; done) | (simp; omega))) rfl ?_
      refine Ops.pv (pv_pick_true rfl rfl) rfl ?_
      refine Ops.pv (pv_move rfl) rfl ?_
      refine Ops.pvg ⟨_, _, rfl, rfl, rfl⟩ (pv_move rfl) rfl ?_
      refine Ops.pvg ⟨_, _, rfl, rfl, rfl⟩ ((pv_eql rfl rfl).tru (by first | rfl | decide | omega | assumption | (simp; done) | (simp; omega))) rfl ?_
      refine Ops.pv (pv_pick_true rfl rfl) rfl ?_
      refine Ops.pv (pv_assign rfl) rfl ?_
      refine Ops.nil ?_
      refine Ends.seq ?_
      refine Wp.ret ?_
      exact Ends.ret (res1 rfl rfl) ⟨rfl, rfl⟩
    · refine Turn.ef rfl rfl (ef_allocK tyZ31 rfl) ?_ ?_
      · rintro _ _ ⟨b6, rfl, rfl⟩; infer_instance
      rintro _ _ ⟨b6, rfl, rfl⟩
      refine AnyH.one 10 (by kernel_rfl) ?_
      refine Turn.ef rfl rfl (ef_callr ((tr_find sb1 (S1.addNode 5 b1 r) ⟨2, 5, 0, 0, g, n⟩ ((g * 2 ^ r + t) * 2 ^ m) ((n + r + m : Nat) : Int) (add_wf hS1 5 b1 r (by decide) (by decide) (by omega) (by omega)) (by omega)).eq (r' := .tuple #[slotV (0, 0), .int .i64 6]) (by rw [find_one hrr hkk (by omega) hgl htl (by omega), if_neg (by omega)])) rfl rfl) ?_ ?_
      · rintro _ _ ⟨rfl, rfl⟩; infer_instance
      rintro _ _ ⟨rfl, rfl⟩
      refine AnyH.take 11 rfl (by kernel_rfl) (by kernel_rfl) (by kernel_rfl) PF.pf rfl (pv_move rfl) rfl ?_
      refine AnyH.take 12 rfl (by kernel_rfl) (by kernel_rfl) (by kernel_rfl) PF.pf rfl (pv_extract rfl rfl) rfl ?_
      refine AnyH.take 13 rfl (by kernel_rfl) (by kernel_rfl) (by kernel_rfl) PF.pf rfl (pv_extract rfl rfl) rfl ?_
      refine AnyH.one 15 (by kernel_rfl) ?_
      refine Turn.ef rfl rfl (ef_storeK rfl rfl rfl rfl) ?_ ?_
      · rintro _ _ ⟨rfl, rfl⟩; infer_instance
      rintro _ _ ⟨rfl, rfl⟩
      refine AnyH.take 16 rfl (by kernel_rfl) (by kernel_rfl) (by kernel_rfl) PF.pf rfl (pv_assign rfl) rfl ?_
      refine AnyH.done (by kernel_rfl) ?_
      refine Ends.seq ?_
      refine Wp.seq ?_
      refine Wp.region ?_
      refine Ops.pv (pv_move rfl) rfl ?_
      refine Ops.pv ((pv_eql rfl rfl).tru (by first | rfl | decide | omega | assumption | (simp; done) | (simp; omega))) rfl ?_
      refine Ops.pv (pv_move rfl) rfl ?_
      refine Ops.pvg ⟨_, _, rfl, rfl, rfl⟩ (pv_loadK [_, _] rfl rfl rfl ⟨rfl, rfl, trivial⟩) rfl ?_
      refine Ops.pvg ⟨_, _, rfl, rfl, rfl⟩ (pv_move rfl) rfl ?_
      refine Ops.pvg ⟨_, _, rfl, rfl, rfl⟩ (pv_build rfl) rfl ?_
      refine Ops.pvg ⟨_, _, rfl, rfl, rfl⟩ ((pv_eql_slot (a := (5, (t : Int))) (b := (5, (t : Int))) rfl rfl).tru rfl) rfl ?_
      refine Ops.pv (pv_pick_true rfl rfl) rfl ?_
      refine Ops.pv (pv_move rfl) rfl ?_
      refine Ops.pvg ⟨_, _, rfl, rfl, rfl⟩ (pv_loadK [_, _] rfl rfl rfl ⟨rfl, rfl, trivial⟩) rfl ?_
      refine Ops.pvg ⟨_, _, rfl, rfl, rfl⟩ (pv_loadK [_, _] rfl rfl rfl ⟨rfl, rfl, trivial⟩) rfl ?_
      refine Ops.pvg ⟨_, _, rfl, rfl, rfl⟩ ((pv_eql_slot (a := (5, (t : Int))) (b := (5, (t : Int))) rfl rfl).tru rfl) rfl ?_
      refine Ops.pv (pv_pick_true rfl rfl) rfl ?_
      refine Ops.pv (pv_move rfl) rfl ?_
      refine Ops.pvg ⟨_, _, rfl, rfl, rfl⟩ (pv_move rfl) rfl ?_
      refine Ops.pvg ⟨_, _, rfl, rfl, rfl⟩ (pv_move rfl) rfl ?_
      refine Ops.pvg ⟨_, _, rfl, rfl, rfl⟩ ((pv_eql rfl rfl).tru rfl) rfl ?_
      refine Ops.pv (pv_pick_true rfl rfl) rfl ?_
      refine Ops.pv (pv_move rfl) rfl ?_
      refine Ops.pvg ⟨_, _, rfl, rfl, rfl⟩ (pv_move rfl) rfl ?_
      refine Ops.pvg ⟨_, _, rfl, rfl, rfl⟩ ((pv_eql rfl rfl).tru (by first | rfl | decide | omega | assumption | (simp; done) | (simp; omega))) rfl ?_
      refine Ops.pv (pv_pick_true rfl rfl) rfl ?_
      refine Ops.pv (pv_move rfl) rfl ?_
      refine Ops.pvg ⟨_, _, rfl, rfl, rfl⟩ (pv_move rfl) rfl ?_
      refine Ops.pvg ⟨_, _, rfl, rfl, rfl⟩ ((pv_eql rfl rfl).tru (by first | rfl | decide | omega | assumption | (simp; done) | (simp; omega))) rfl ?_
      refine Ops.pv (pv_pick_true rfl rfl) rfl ?_
      refine Ops.pv (pv_assign rfl) rfl ?_
      refine Ops.nil ?_
      refine Ends.seq ?_
      refine Wp.ret ?_
      exact Ends.ret (res1 rfl rfl) ⟨rfl, rfl⟩
  · refine Turn.ef rfl rfl (ef_allocK tyZ31 rfl) ?_ ?_
    · rintro _ _ ⟨b7, rfl, rfl⟩; infer_instance
    rintro _ _ ⟨b7, rfl, rfl⟩
    refine AnyH.one 10 (by kernel_rfl) ?_
    refine Turn.ef rfl rfl (ef_callr ((tr_resolve sb1 (S1.addNode 5 b1 r) ⟨2, 5, 0, 0, g, n⟩ ((g * 2 ^ r + t) * 2 ^ m) ((n + r + m : Nat) : Int) (add_wf hS1 5 b1 r (by decide) (by decide) (by omega) (by omega)) (by omega)).eq (r' := .tuple #[slotV (5, (t : Int)), .int .i64 m, .int .i64 0]) (by rw [resolve_one hrr hkk (by omega) hgl htl (by omega)])) rfl rfl) ?_ ?_
    · rintro _ _ ⟨rfl, rfl⟩; infer_instance
    rintro _ _ ⟨rfl, rfl⟩
    refine AnyH.take 11 rfl (by kernel_rfl) (by kernel_rfl) (by kernel_rfl) PF.pf rfl (pv_move rfl) rfl ?_
    refine AnyH.take 12 rfl (by kernel_rfl) (by kernel_rfl) (by kernel_rfl) PF.pf rfl (pv_extract rfl rfl) rfl ?_
    refine AnyH.take 13 rfl (by kernel_rfl) (by kernel_rfl) (by kernel_rfl) PF.pf rfl (pv_extract rfl rfl) rfl ?_
    refine AnyH.take 14 rfl (by kernel_rfl) (by kernel_rfl) (by kernel_rfl) PF.pf rfl (pv_extract rfl rfl) rfl ?_
    refine AnyH.one 16 (by kernel_rfl) ?_
    refine Turn.ef rfl rfl (ef_storeK rfl rfl rfl rfl) ?_ ?_
    · rintro _ _ ⟨rfl, rfl⟩; infer_instance
    rintro _ _ ⟨rfl, rfl⟩
    refine AnyH.take 17 rfl (by kernel_rfl) (by kernel_rfl) (by kernel_rfl) PF.pf rfl (pv_assign rfl) rfl ?_
    refine AnyH.take 18 rfl (by kernel_rfl) (by kernel_rfl) (by kernel_rfl) PF.pf rfl (pv_assign rfl) rfl ?_
    refine AnyH.done (by kernel_rfl) ?_
    refine Ends.seq ?_
    refine Wp.seq ?_
    refine AnyH.startL 17 rfl ?_
    refine AnyH.take 0 rfl (by kernel_rfl) (by kernel_rfl) (by kernel_rfl) PF.pf rfl (pv_move rfl) rfl ?_
    refine AnyH.take 1 rfl (by kernel_rfl) (by kernel_rfl) (by kernel_rfl) PF.pf rfl (pv_loadK [_, _, _, _, _, _] rfl rfl rfl ⟨rfl, rfl, rfl, rfl, rfl, rfl, trivial⟩) rfl ?_
    refine AnyH.take 2 rfl (by kernel_rfl) (by kernel_rfl) (by kernel_rfl) PF.pf rfl (pv_move rfl) rfl ?_
    refine AnyH.take 3 rfl (by kernel_rfl) (by kernel_rfl) (by kernel_rfl) PF.pf rfl (pv_move rfl) rfl ?_
    refine AnyH.take 4 rfl (by kernel_rfl) (by kernel_rfl) (by kernel_rfl) PF.pf rfl (pv_shl rfl rfl (by omega) (shln (by omega) (by omega))) rfl ?_
    refine AnyH.take 5 rfl (by kernel_rfl) (by kernel_rfl) (by kernel_rfl) PF.pf rfl (pv_move rfl) rfl ?_
    refine AnyH.take 6 rfl (by kernel_rfl) (by kernel_rfl) (by kernel_rfl) PF.pf rfl (pv_move rfl) rfl ?_
    refine AnyH.take 7 rfl (by kernel_rfl) (by kernel_rfl) (by kernel_rfl) PF.pf rfl (pv_add rfl rfl (w64n (k := n + r) (by omega) (by omega))) rfl ?_
    refine AnyH.take 8 rfl (by kernel_rfl) (by kernel_rfl) (by kernel_rfl) PF.pf rfl (pv_move rfl) rfl ?_
    refine AnyH.take 9 rfl (by kernel_rfl) (by kernel_rfl) (by kernel_rfl) PF.pf rfl (pv_add rfl rfl (w64n (k := n + r + m) (by omega) (by omega))) rfl ?_
    refine AnyH.two 10 14 (by kernel_rfl) ?_ ?_
    · refine Turn.ef rfl rfl (ef_callr ((tr_find sb1 (S1.addNode 5 b1 r) ⟨2, 5, 0, 0, g, n⟩ ((g * 2 ^ r + t) * 2 ^ m) ((n + r + m : Nat) : Int) (add_wf hS1 5 b1 r (by decide) (by decide) (by omega) (by omega)) (by omega)).eq (r' := .tuple #[slotV (0, 0), .int .i64 6]) (by rw [find_one hrr hkk (by omega) hgl htl (by omega), if_neg (by omega)])) rfl rfl) ?_ ?_
      · rintro _ _ ⟨rfl, rfl⟩; infer_instance
      rintro _ _ ⟨rfl, rfl⟩
      refine AnyH.take 11 rfl (by kernel_rfl) (by kernel_rfl) (by kernel_rfl) PF.pf rfl (pv_move rfl) rfl ?_
      refine AnyH.take 12 rfl (by kernel_rfl) (by kernel_rfl) (by kernel_rfl) PF.pf rfl (pv_extract rfl rfl) rfl ?_
      refine AnyH.take 13 rfl (by kernel_rfl) (by kernel_rfl) (by kernel_rfl) PF.pf rfl (pv_extract rfl rfl) rfl ?_
      refine AnyH.one 14 (by kernel_rfl) ?_
      refine Turn.ef rfl rfl (ef_allocK tyZ31 rfl) ?_ ?_
      · rintro _ _ ⟨b8, rfl, rfl⟩; infer_instance
      rintro _ _ ⟨b8, rfl, rfl⟩
      refine AnyH.one 15 (by kernel_rfl) ?_
      refine Turn.ef rfl rfl (ef_storeK rfl rfl rfl rfl) ?_ ?_
      · rintro _ _ ⟨rfl, rfl⟩; infer_instance
      rintro _ _ ⟨rfl, rfl⟩
      refine AnyH.take 16 rfl (by kernel_rfl) (by kernel_rfl) (by kernel_rfl) PF.pf rfl (pv_assign rfl) rfl ?_
      refine AnyH.done (by kernel_rfl) ?_
      refine Ends.seq ?_
      refine Wp.seq ?_
      refine Wp.region ?_
      refine Ops.pv (pv_move rfl) rfl ?_
      refine Ops.pv ((pv_eql rfl rfl).tru (by first | rfl | decide | omega | assumption | (simp; done) | (simp; omega))) rfl ?_
      refine Ops.pv (pv_move rfl) rfl ?_
      refine Ops.pvg ⟨_, _, rfl, rfl, rfl⟩ (pv_loadK [_, _] rfl rfl rfl ⟨rfl, rfl, trivial⟩) rfl ?_
      refine Ops.pvg ⟨_, _, rfl, rfl, rfl⟩ (pv_move rfl) rfl ?_
      refine Ops.pvg ⟨_, _, rfl, rfl, rfl⟩ (pv_build rfl) rfl ?_
      refine Ops.pvg ⟨_, _, rfl, rfl, rfl⟩ ((pv_eql_slot (a := (5, (t : Int))) (b := (5, (t : Int))) rfl rfl).tru rfl) rfl ?_
      refine Ops.pv (pv_pick_true rfl rfl) rfl ?_
      refine Ops.pv (pv_move rfl) rfl ?_
      refine Ops.pvg ⟨_, _, rfl, rfl, rfl⟩ (pv_loadK [_, _] rfl rfl rfl ⟨rfl, rfl, trivial⟩) rfl ?_
      refine Ops.pvg ⟨_, _, rfl, rfl, rfl⟩ (pv_loadK [_, _] rfl rfl rfl ⟨rfl, rfl, trivial⟩) rfl ?_
      refine Ops.pvg ⟨_, _, rfl, rfl, rfl⟩ ((pv_eql_slot (a := (5, (t : Int))) (b := (5, (t : Int))) rfl rfl).tru rfl) rfl ?_
      refine Ops.pv (pv_pick_true rfl rfl) rfl ?_
      refine Ops.pv (pv_move rfl) rfl ?_
      refine Ops.pvg ⟨_, _, rfl, rfl, rfl⟩ (pv_move rfl) rfl ?_
      refine Ops.pvg ⟨_, _, rfl, rfl, rfl⟩ (pv_move rfl) rfl ?_
      refine Ops.pvg ⟨_, _, rfl, rfl, rfl⟩ ((pv_eql rfl rfl).tru rfl) rfl ?_
      refine Ops.pv (pv_pick_true rfl rfl) rfl ?_
      refine Ops.pv (pv_move rfl) rfl ?_
      refine Ops.pvg ⟨_, _, rfl, rfl, rfl⟩ (pv_move rfl) rfl ?_
      refine Ops.pvg ⟨_, _, rfl, rfl, rfl⟩ ((pv_eql rfl rfl).tru (by first | rfl | decide | omega | assumption | (simp; done) | (simp; omega))) rfl ?_
      refine Ops.pv (pv_pick_true rfl rfl) rfl ?_
      refine Ops.pv (pv_move rfl) rfl ?_
      refine Ops.pvg ⟨_, _, rfl, rfl, rfl⟩ (pv_move rfl) rfl ?_
      refine Ops.pvg ⟨_, _, rfl, rfl, rfl⟩ ((pv_eql rfl rfl).tru (by first | rfl | decide | omega | assumption | (simp; done) | (simp; omega))) rfl ?_
      refine Ops.pv (pv_pick_true rfl rfl) rfl ?_
      refine Ops.pv (pv_assign rfl) rfl ?_
      refine Ops.nil ?_
      refine Ends.seq ?_
      refine Wp.ret ?_
      exact Ends.ret (res1 rfl rfl) ⟨rfl, rfl⟩
    · refine Turn.ef rfl rfl (ef_allocK tyZ31 rfl) ?_ ?_
      · rintro _ _ ⟨b9, rfl, rfl⟩; infer_instance
      rintro _ _ ⟨b9, rfl, rfl⟩
      refine AnyH.one 10 (by kernel_rfl) ?_
      refine Turn.ef rfl rfl (ef_callr ((tr_find sb1 (S1.addNode 5 b1 r) ⟨2, 5, 0, 0, g, n⟩ ((g * 2 ^ r + t) * 2 ^ m) ((n + r + m : Nat) : Int) (add_wf hS1 5 b1 r (by decide) (by decide) (by omega) (by omega)) (by omega)).eq (r' := .tuple #[slotV (0, 0), .int .i64 6]) (by rw [find_one hrr hkk (by omega) hgl htl (by omega), if_neg (by omega)])) rfl rfl) ?_ ?_
      · rintro _ _ ⟨rfl, rfl⟩; infer_instance
      rintro _ _ ⟨rfl, rfl⟩
      refine AnyH.take 11 rfl (by kernel_rfl) (by kernel_rfl) (by kernel_rfl) PF.pf rfl (pv_move rfl) rfl ?_
      refine AnyH.take 12 rfl (by kernel_rfl) (by kernel_rfl) (by kernel_rfl) PF.pf rfl (pv_extract rfl rfl) rfl ?_
      refine AnyH.take 13 rfl (by kernel_rfl) (by kernel_rfl) (by kernel_rfl) PF.pf rfl (pv_extract rfl rfl) rfl ?_
      refine AnyH.one 15 (by kernel_rfl) ?_
      refine Turn.ef rfl rfl (ef_storeK rfl rfl rfl rfl) ?_ ?_
      · rintro _ _ ⟨rfl, rfl⟩; infer_instance
      rintro _ _ ⟨rfl, rfl⟩
      refine AnyH.take 16 rfl (by kernel_rfl) (by kernel_rfl) (by kernel_rfl) PF.pf rfl (pv_assign rfl) rfl ?_
      refine AnyH.done (by kernel_rfl) ?_
      refine Ends.seq ?_
      refine Wp.seq ?_
      refine Wp.region ?_
      refine Ops.pv (pv_move rfl) rfl ?_
      refine Ops.pv ((pv_eql rfl rfl).tru (by first | rfl | decide | omega | assumption | (simp; done) | (simp; omega))) rfl ?_
      refine Ops.pv (pv_move rfl) rfl ?_
      refine Ops.pvg ⟨_, _, rfl, rfl, rfl⟩ (pv_loadK [_, _] rfl rfl rfl ⟨rfl, rfl, trivial⟩) rfl ?_
      refine Ops.pvg ⟨_, _, rfl, rfl, rfl⟩ (pv_move rfl) rfl ?_
      refine Ops.pvg ⟨_, _, rfl, rfl, rfl⟩ (pv_build rfl) rfl ?_
      refine Ops.pvg ⟨_, _, rfl, rfl, rfl⟩ ((pv_eql_slot (a := (5, (t : Int))) (b := (5, (t : Int))) rfl rfl).tru rfl) rfl ?_
      refine Ops.pv (pv_pick_true rfl rfl) rfl ?_
      refine Ops.pv (pv_move rfl) rfl ?_
      refine Ops.pvg ⟨_, _, rfl, rfl, rfl⟩ (pv_loadK [_, _] rfl rfl rfl ⟨rfl, rfl, trivial⟩) rfl ?_
      refine Ops.pvg ⟨_, _, rfl, rfl, rfl⟩ (pv_loadK [_, _] rfl rfl rfl ⟨rfl, rfl, trivial⟩) rfl ?_
      refine Ops.pvg ⟨_, _, rfl, rfl, rfl⟩ ((pv_eql_slot (a := (5, (t : Int))) (b := (5, (t : Int))) rfl rfl).tru rfl) rfl ?_
      refine Ops.pv (pv_pick_true rfl rfl) rfl ?_
      refine Ops.pv (pv_move rfl) rfl ?_
      refine Ops.pvg ⟨_, _, rfl, rfl, rfl⟩ (pv_move rfl) rfl ?_
      refine Ops.pvg ⟨_, _, rfl, rfl, rfl⟩ (pv_move rfl) rfl ?_
      refine Ops.pvg ⟨_, _, rfl, rfl, rfl⟩ ((pv_eql rfl rfl).tru rfl) rfl ?_
      refine Ops.pv (pv_pick_true rfl rfl) rfl ?_
      refine Ops.pv (pv_move rfl) rfl ?_
      refine Ops.pvg ⟨_, _, rfl, rfl, rfl⟩ (pv_move rfl) rfl ?_
      refine Ops.pvg ⟨_, _, rfl, rfl, rfl⟩ ((pv_eql rfl rfl).tru (by first | rfl | decide | omega | assumption | (simp; done) | (simp; omega))) rfl ?_
      refine Ops.pv (pv_pick_true rfl rfl) rfl ?_
      refine Ops.pv (pv_move rfl) rfl ?_
      refine Ops.pvg ⟨_, _, rfl, rfl, rfl⟩ (pv_move rfl) rfl ?_
      refine Ops.pvg ⟨_, _, rfl, rfl, rfl⟩ ((pv_eql rfl rfl).tru (by first | rfl | decide | omega | assumption | (simp; done) | (simp; omega))) rfl ?_
      refine Ops.pv (pv_pick_true rfl rfl) rfl ?_
      refine Ops.pv (pv_assign rfl) rfl ?_
      refine Ops.nil ?_
      refine Ends.seq ?_
      refine Wp.ret ?_
      exact Ends.ret (res1 rfl rfl) ⟨rfl, rfl⟩

set_option maxHeartbeats 2000000 in
theorem tr_guardWrong (radix : Int) (g0 : Nat) (n0 at0 bit : Int) (hg0 : g0 < 2 ^ 64) : TrR Try.prog 4 [.int .i64 radix, .int .u64 g0, .int .i64 n0, .int .i64 at0, .int .i64 bit] ([]) (.bool true) := by
  obtain ⟨r, hr⟩ : ∃ r, r = 1 + uI radix % 4 := ⟨_, rfl⟩
  obtain ⟨n, hn⟩ : ∃ n, n = 1 + uI n0 % 8 := ⟨_, rfl⟩
  obtain ⟨g, hg⟩ : ∃ g, g = g0 % 2 ^ n := ⟨_, rfl⟩
  obtain ⟨t, ht⟩ : ∃ t, t = uI at0 % 2 ^ r := ⟨_, rfl⟩
  have hpr := Nat.two_pow_pos r
  have hpn := Nat.two_pow_pos n
  have hgl : g < 2 ^ n := by rw [hg]; exact Nat.mod_lt _ hpn
  have htl : t < 2 ^ r := by rw [ht]; exact Nat.mod_lt _ hpr
  have hgI : (g0 : Int).tmod ((2 ^ n : Nat) : Int) = (g : Int) := by rw [hg]; exact tmod_nat rfl
  have htI : (uI at0 : Int).tmod ((2 ^ r : Nat) : Int) = (t : Int) := by rw [ht]; exact tmod_nat rfl
  have h2r : 2 ^ r ≤ 2 ^ 4 := Nat.pow_le_pow_right (by omega) (by omega)
  have h2n : 2 ^ n ≤ 2 ^ 8 := Nat.pow_le_pow_right (by omega) (by omega)
  have hb0 : g * 2 ^ r ≤ 256 * 2 ^ 4 := Nat.mul_le_mul (by omega) h2r
  have hb : g * 2 ^ r + t < 256 * 16 + 16 := by omega
  obtain ⟨i, hi⟩ : ∃ i, i = uI bit % n := ⟨_, rfl⟩
  have hil : i < n := by rw [hi]; exact Nat.mod_lt _ (by omega)
  have hiI : (uI bit : Int).tmod (n : Int) = (i : Int) := by rw [hi]; exact tmod_nat rfl
  have h2i : 2 ^ i < 2 ^ n := Nat.pow_lt_pow_right (by omega) hil
  obtain ⟨x, hx⟩ : ∃ x, x = g ^^^ 2 ^ i := ⟨_, rfl⟩
  have hxl : x < 2 ^ n := by rw [hx]; exact Nat.xor_lt_two_pow hgl h2i
  have hxg : x ≠ g := by rw [hx]; exact xor_pow_ne g i
  have hb1 : x * 2 ^ r ≤ 256 * 2 ^ 4 := Nat.mul_le_mul (by omega) h2r
  refine Tr.enter Try.func4 rfl Try.ntmps4 rfl (fun W F => ?_)
  refine Wp.app ?_
  refine Wp.seq ?_
  refine Wp.region ?_
  refine Ops.pv (pv_assign rfl) rfl ?_
  refine Ops.nil ?_
  refine Ends.seq ?_
  refine Wp.seq ?_
  refine Wp.seq ?_
  refine Wp.region ?_
  refine Ops.ef rfl (ef_callr (tr_works) rfl rfl) ?_
  rintro _ _ ⟨rfl, rfl⟩
  first | refine Ops.pv (pv_not_dec rfl) rfl ?_ | refine Ops.pv (pv_not rfl) rfl ?_
  refine Ops.nil ?_
  refine Ends.seq ?_
  refine Wp.cond_false rfl ?_
  refine Wp.skip ?_
  refine Ends.seq ?_
  refine Wp.seq ?_
  refine Wp.region ?_
  refine Ops.pv (pv_move rfl) rfl ?_
  refine Ops.pv (pv_conv rfl (uI_eq radix)) rfl ?_
  refine Ops.pv (pv_rem rfl rfl (by decide) (tmod_nat (b := 4) rfl)) rfl ?_
  first | refine Ops.pv (pv_conv rfl (w64 (by omega) (by omega))) rfl ?_ | refine Ops.pv (pv_conv rfl rfl) rfl ?_
  refine Ops.pv (pv_add rfl rfl (w64n (k := r) (by omega) (by omega))) rfl ?_
  refine Ops.pv (pv_move rfl) rfl ?_
  refine Ops.pv (pv_conv rfl (uI_eq n0)) rfl ?_
  refine Ops.pv (pv_rem rfl rfl (by decide) (tmod_nat (b := 8) rfl)) rfl ?_
  first | refine Ops.pv (pv_conv rfl (w64 (by omega) (by omega))) rfl ?_ | refine Ops.pv (pv_conv rfl rfl) rfl ?_
  refine Ops.pv (pv_add rfl rfl (w64n (k := n) (by omega) (by omega))) rfl ?_
  refine Ops.pv (pv_assign rfl) rfl ?_
  refine Ops.pv (pv_assign rfl) rfl ?_
  refine Ops.nil ?_
  refine Ends.seq ?_
  refine Wp.seq ?_
  refine Wp.region ?_
  refine Ops.pv (pv_move rfl) rfl ?_
  refine Ops.pv (pv_move rfl) rfl ?_
  refine Ops.pv (pv_shl rfl rfl (by omega) (shl1 (by omega))) rfl ?_
  refine Ops.pv (pv_rem rfl rfl (by omega) hgI) rfl ?_
  refine Ops.pv (pv_assign rfl) rfl ?_
  refine Ops.nil ?_
  refine Ends.seq ?_
  refine Wp.seq ?_
  refine Wp.region ?_
  refine Ops.pv (pv_move rfl) rfl ?_
  refine Ops.pv (pv_conv rfl (uI_eq at0)) rfl ?_
  refine Ops.pv (pv_move rfl) rfl ?_
  refine Ops.pv (pv_shl rfl rfl (by omega) (shl1 (by omega))) rfl ?_
  refine Ops.pv (pv_rem rfl rfl (by omega) htI) rfl ?_
  refine Ops.pv (pv_conv rfl (w64n (k := t) rfl (by omega))) rfl ?_
  refine Ops.pv (pv_assign rfl) rfl ?_
  refine Ops.nil ?_
  refine Ends.seq ?_
  refine Wp.seq ?_
  refine Wp.region ?_
  refine Ops.ef rfl (ef_call (tr_slotsNew) rfl rfl) ?_
  rintro _ _ ⟨_, _, ⟨sb1, S1, rfl, rfl, hS1⟩, rfl, rfl⟩
  refine Ops.app ?_
  refine Ops.pv (pv_assign rfl) rfl ?_
  refine Ops.nil ?_
  refine Ends.seq ?_
  refine Wp.seq ?_
  refine Wp.region ?_
  refine Ops.pv (pv_move rfl) rfl ?_
  refine Ops.pv (pv_move rfl) rfl ?_
  refine Ops.ef rfl (ef_call (tr_add_new sb1 S1 hS1 5 r (by decide) (by decide) (by omega) (by omega)) rfl rfl) ?_
  rintro _ _ ⟨_, _, ⟨rfl, b1, rfl⟩, rfl, rfl⟩
  refine Ops.app ?_
  have hrr : (S1.addNode 5 b1 r).radix 5 = (r : Int) := by rw [add_radix hS1]; rfl
  have hkk := add_get hS1 5 b1 r
  refine Ops.nil ?_
  refine Ends.seq ?_
  refine Wp.seq ?_
  refine Wp.region ?_
  refine Ops.pv (pv_move rfl) rfl ?_
  refine Ops.pv (pv_move rfl) rfl ?_
  refine Ops.pv (pv_build rfl) rfl ?_
  refine Ops.ef rfl (ef_allocK tyZ29 rfl) ?_
  rintro _ _ ⟨b2, rfl, rfl⟩
  refine Ops.ef rfl (ef_storeK rfl rfl rfl rfl) ?_
  rintro _ _ ⟨rfl, rfl⟩
  refine Ops.nil ?_
  refine Ends.seq ?_
  refine Wp.seq ?_
  refine Wp.region ?_
  refine Ops.pv (pv_move rfl) rfl ?_
  refine Ops.pv (pv_move rfl) rfl ?_
  refine Ops.pv (pv_conv rfl (uI_eq bit)) rfl ?_
  refine Ops.pv (pv_move rfl) rfl ?_
  refine Ops.pv (pv_conv rfl (u64n (k := n) rfl (by omega))) rfl ?_
  refine Ops.pv (pv_rem rfl rfl (by omega) hiI) rfl ?_
  refine Ops.pv (pv_shl rfl rfl (by omega) (shl1 (by omega))) rfl ?_
  refine Ops.pv (pv_xor rfl rfl ((xor_nat (by omega) (by omega)).trans (congrArg Nat.cast hx.symm))) rfl ?_
  refine Ops.pv (pv_assign rfl) rfl ?_
  refine Ops.nil ?_
  refine Ends.seq ?_
  refine Wp.seq ?_
  refine AnyH.startL 18 rfl ?_
  refine AnyH.take 0 rfl (by kernel_rfl) (by kernel_rfl) (by kernel_rfl) PF.pf rfl (pv_move rfl) rfl ?_
  refine AnyH.take 1 rfl (by kernel_rfl) (by kernel_rfl) (by kernel_rfl) PF.pf rfl (pv_loadK [_, _, _, _, _, _] rfl rfl rfl ⟨rfl, rfl, rfl, rfl, rfl, rfl, trivial⟩) rfl ?_
  refine AnyH.take 2 rfl (by kernel_rfl) (by kernel_rfl) (by kernel_rfl) PF.pf rfl (pv_move rfl) rfl ?_
  refine AnyH.take 3 rfl (by kernel_rfl) (by kernel_rfl) (by kernel_rfl) PF.pf rfl (pv_move rfl) rfl ?_
  refine AnyH.take 4 rfl (by kernel_rfl) (by kernel_rfl) (by kernel_rfl) PF.pf rfl (pv_shl rfl rfl (by omega) (shln (by omega) (by omega))) rfl ?_
  refine AnyH.take 5 rfl (by kernel_rfl) (by kernel_rfl) (by kernel_rfl) PF.pf rfl (pv_move rfl) rfl ?_
  refine AnyH.take 6 rfl (by kernel_rfl) (by kernel_rfl) (by kernel_rfl) PF.pf rfl (pv_conv rfl (u64n (k := t) rfl (by omega))) rfl ?_
  refine AnyH.take 7 rfl (by kernel_rfl) (by kernel_rfl) (by kernel_rfl) PF.pf rfl (pv_add rfl rfl (u64n (k := g * 2 ^ r + t) (by omega) (by omega))) rfl ?_
  refine AnyH.take 8 rfl (by kernel_rfl) (by kernel_rfl) (by kernel_rfl) PF.pf rfl (pv_move rfl) rfl ?_
  refine AnyH.take 9 rfl (by kernel_rfl) (by kernel_rfl) (by kernel_rfl) PF.pf rfl (pv_move rfl) rfl ?_
  refine AnyH.take 10 rfl (by kernel_rfl) (by kernel_rfl) (by kernel_rfl) PF.pf rfl (pv_add rfl rfl (w64n (k := n + r) (by omega) (by omega))) rfl ?_
  refine AnyH.two 11 15 (by kernel_rfl) ?_ ?_
  · refine Turn.ef rfl rfl (ef_callr ((tr_find sb1 (S1.addNode 5 b1 r) ⟨2, 5, 0, 0, g, n⟩ (g * 2 ^ r + t) ((n + r : Nat) : Int) (add_wf hS1 5 b1 r (by decide) (by decide) (by omega) (by omega)) (by omega)).eq (r' := .tuple #[slotV (5, (t : Int)), .int .i64 0]) (by rw [find_one0 hrr hkk (by omega) hgl htl (by omega)])) rfl rfl) ?_ ?_
    · rintro _ _ ⟨rfl, rfl⟩; infer_instance
    rintro _ _ ⟨rfl, rfl⟩
    refine AnyH.take 12 rfl (by kernel_rfl) (by kernel_rfl) (by kernel_rfl) PF.pf rfl (pv_move rfl) rfl ?_
    refine AnyH.take 13 rfl (by kernel_rfl) (by kernel_rfl) (by kernel_rfl) PF.pf rfl (pv_extract rfl rfl) rfl ?_
    refine AnyH.take 14 rfl (by kernel_rfl) (by kernel_rfl) (by kernel_rfl) PF.pf rfl (pv_extract rfl rfl) rfl ?_
    refine AnyH.one 15 (by kernel_rfl) ?_
    refine Turn.ef rfl rfl (ef_allocK tyZ31 rfl) ?_ ?_
    · rintro _ _ ⟨b3, rfl, rfl⟩; infer_instance
    rintro _ _ ⟨b3, rfl, rfl⟩
    refine AnyH.one 16 (by kernel_rfl) ?_
    refine Turn.ef rfl rfl (ef_storeK rfl rfl rfl rfl) ?_ ?_
    · rintro _ _ ⟨rfl, rfl⟩; infer_instance
    rintro _ _ ⟨rfl, rfl⟩
    refine AnyH.take 17 rfl (by kernel_rfl) (by kernel_rfl) (by kernel_rfl) PF.pf rfl (pv_assign rfl) rfl ?_
    refine AnyH.done (by kernel_rfl) ?_
    refine Ends.seq ?_
    refine Wp.seq ?_
    refine AnyH.startL 18 rfl ?_
    refine AnyH.take 0 rfl (by kernel_rfl) (by kernel_rfl) (by kernel_rfl) PF.pf rfl (pv_move rfl) rfl ?_
    refine AnyH.take 1 rfl (by kernel_rfl) (by kernel_rfl) (by kernel_rfl) PF.pf rfl (pv_loadK [_, _, _, _, _, _] rfl rfl rfl ⟨rfl, rfl, rfl, rfl, rfl, rfl, trivial⟩) rfl ?_
    refine AnyH.take 2 rfl (by kernel_rfl) (by kernel_rfl) (by kernel_rfl) PF.pf rfl (pv_move rfl) rfl ?_
    refine AnyH.take 3 rfl (by kernel_rfl) (by kernel_rfl) (by kernel_rfl) PF.pf rfl (pv_move rfl) rfl ?_
    refine AnyH.take 4 rfl (by kernel_rfl) (by kernel_rfl) (by kernel_rfl) PF.pf rfl (pv_shl rfl rfl (by omega) (shln (by omega) (by omega))) rfl ?_
    refine AnyH.take 5 rfl (by kernel_rfl) (by kernel_rfl) (by kernel_rfl) PF.pf rfl (pv_move rfl) rfl ?_
    refine AnyH.take 6 rfl (by kernel_rfl) (by kernel_rfl) (by kernel_rfl) PF.pf rfl (pv_conv rfl (u64n (k := t) rfl (by omega))) rfl ?_
    refine AnyH.take 7 rfl (by kernel_rfl) (by kernel_rfl) (by kernel_rfl) PF.pf rfl (pv_add rfl rfl (u64n (k := x * 2 ^ r + t) (by omega) (by omega))) rfl ?_
    refine AnyH.take 8 rfl (by kernel_rfl) (by kernel_rfl) (by kernel_rfl) PF.pf rfl (pv_move rfl) rfl ?_
    refine AnyH.take 9 rfl (by kernel_rfl) (by kernel_rfl) (by kernel_rfl) PF.pf rfl (pv_move rfl) rfl ?_
    refine AnyH.take 10 rfl (by kernel_rfl) (by kernel_rfl) (by kernel_rfl) PF.pf rfl (pv_add rfl rfl (w64n (k := n + r) (by omega) (by omega))) rfl ?_
    refine AnyH.two 11 15 (by kernel_rfl) ?_ ?_
    · refine Turn.ef rfl rfl (ef_callr ((tr_find sb1 (S1.addNode 5 b1 r) ⟨2, 5, 0, 0, g, n⟩ (x * 2 ^ r + t) ((n + r : Nat) : Int) (add_wf hS1 5 b1 r (by decide) (by decide) (by omega) (by omega)) (by omega)).eq (r' := .tuple #[slotV (0, 0), .int .i64 6]) (by rw [find_wrong hrr (by omega) hxl hxg htl (by omega)])) rfl rfl) ?_ ?_
      · rintro _ _ ⟨rfl, rfl⟩; infer_instance
      rintro _ _ ⟨rfl, rfl⟩
      refine AnyH.take 12 rfl (by kernel_rfl) (by kernel_rfl) (by kernel_rfl) PF.pf rfl (pv_move rfl) rfl ?_
      refine AnyH.take 13 rfl (by kernel_rfl) (by kernel_rfl) (by kernel_rfl) PF.pf rfl (pv_extract rfl rfl) rfl ?_
      refine AnyH.take 14 rfl (by kernel_rfl) (by kernel_rfl) (by kernel_rfl) PF.pf rfl (pv_extract rfl rfl) rfl ?_
      refine AnyH.one 15 (by kernel_rfl) ?_
      refine Turn.ef rfl rfl (ef_allocK tyZ31 rfl) ?_ ?_
      · rintro _ _ ⟨b4, rfl, rfl⟩; infer_instance
      rintro _ _ ⟨b4, rfl, rfl⟩
      refine AnyH.one 16 (by kernel_rfl) ?_
      refine Turn.ef rfl rfl (ef_storeK rfl rfl rfl rfl) ?_ ?_
      · rintro _ _ ⟨rfl, rfl⟩; infer_instance
      rintro _ _ ⟨rfl, rfl⟩
      refine AnyH.take 17 rfl (by kernel_rfl) (by kernel_rfl) (by kernel_rfl) PF.pf rfl (pv_assign rfl) rfl ?_
      refine AnyH.done (by kernel_rfl) ?_
      refine Ends.seq ?_
      refine Wp.seq ?_
      refine Wp.region ?_
      refine Ops.pv (pv_move rfl) rfl ?_
      refine Ops.pv ((pv_eql rfl rfl).tru (by first | rfl | decide | omega | assumption | (simp; done) | (simp; omega))) rfl ?_
      refine Ops.pv (pv_move rfl) rfl ?_
      refine Ops.pvg ⟨_, _, rfl, rfl, rfl⟩ (pv_move rfl) rfl ?_
      refine Ops.pvg ⟨_, _, rfl, rfl, rfl⟩ ((pv_eql rfl rfl).tru (by first | rfl | decide | omega | assumption | (simp; done) | (simp; omega))) rfl ?_
      refine Ops.pv (pv_pick_true rfl rfl) rfl ?_
      refine Ops.pv (pv_assign rfl) rfl ?_
      refine Ops.nil ?_
      refine Ends.seq ?_
      refine Wp.ret ?_
      exact Ends.ret (res1 rfl rfl) ⟨rfl, rfl⟩
    · refine Turn.ef rfl rfl (ef_allocK tyZ31 rfl) ?_ ?_
      · rintro _ _ ⟨b5, rfl, rfl⟩; infer_instance
      rintro _ _ ⟨b5, rfl, rfl⟩
      refine AnyH.one 11 (by kernel_rfl) ?_
      refine Turn.ef rfl rfl (ef_callr ((tr_find sb1 (S1.addNode 5 b1 r) ⟨2, 5, 0, 0, g, n⟩ (x * 2 ^ r + t) ((n + r : Nat) : Int) (add_wf hS1 5 b1 r (by decide) (by decide) (by omega) (by omega)) (by omega)).eq (r' := .tuple #[slotV (0, 0), .int .i64 6]) (by rw [find_wrong hrr (by omega) hxl hxg htl (by omega)])) rfl rfl) ?_ ?_
      · rintro _ _ ⟨rfl, rfl⟩; infer_instance
      rintro _ _ ⟨rfl, rfl⟩
      refine AnyH.take 12 rfl (by kernel_rfl) (by kernel_rfl) (by kernel_rfl) PF.pf rfl (pv_move rfl) rfl ?_
      refine AnyH.take 13 rfl (by kernel_rfl) (by kernel_rfl) (by kernel_rfl) PF.pf rfl (pv_extract rfl rfl) rfl ?_
      refine AnyH.take 14 rfl (by kernel_rfl) (by kernel_rfl) (by kernel_rfl) PF.pf rfl (pv_extract rfl rfl) rfl ?_
      refine AnyH.one 16 (by kernel_rfl) ?_
      refine Turn.ef rfl rfl (ef_storeK rfl rfl rfl rfl) ?_ ?_
      · rintro _ _ ⟨rfl, rfl⟩; infer_instance
      rintro _ _ ⟨rfl, rfl⟩
      refine AnyH.take 17 rfl (by kernel_rfl) (by kernel_rfl) (by kernel_rfl) PF.pf rfl (pv_assign rfl) rfl ?_
      refine AnyH.done (by kernel_rfl) ?_
      refine Ends.seq ?_
      refine Wp.seq ?_
      refine Wp.region ?_
      refine Ops.pv (pv_move rfl) rfl ?_
      refine Ops.pv ((pv_eql rfl rfl).tru (by first | rfl | decide | omega | assumption | (simp; done) | (simp; omega))) rfl ?_
      refine Ops.pv (pv_move rfl) rfl ?_
      refine Ops.pvg ⟨_, _, rfl, rfl, rfl⟩ (pv_move rfl) rfl ?_
      refine Ops.pvg ⟨_, _, rfl, rfl, rfl⟩ ((pv_eql rfl rfl).tru (by first | rfl | decide | omega | assumption | (simp; done) | (simp; omega))) rfl ?_
      refine Ops.pv (pv_pick_true rfl rfl) rfl ?_
      refine Ops.pv (pv_assign rfl) rfl ?_
      refine Ops.nil ?_
      refine Ends.seq ?_
      refine Wp.ret ?_
      exact Ends.ret (res1 rfl rfl) ⟨rfl, rfl⟩
  · refine Turn.ef rfl rfl (ef_allocK tyZ31 rfl) ?_ ?_
    · rintro _ _ ⟨b6, rfl, rfl⟩; infer_instance
    rintro _ _ ⟨b6, rfl, rfl⟩
    refine AnyH.one 11 (by kernel_rfl) ?_
    refine Turn.ef rfl rfl (ef_callr ((tr_find sb1 (S1.addNode 5 b1 r) ⟨2, 5, 0, 0, g, n⟩ (g * 2 ^ r + t) ((n + r : Nat) : Int) (add_wf hS1 5 b1 r (by decide) (by decide) (by omega) (by omega)) (by omega)).eq (r' := .tuple #[slotV (5, (t : Int)), .int .i64 0]) (by rw [find_one0 hrr hkk (by omega) hgl htl (by omega)])) rfl rfl) ?_ ?_
    · rintro _ _ ⟨rfl, rfl⟩; infer_instance
    rintro _ _ ⟨rfl, rfl⟩
    refine AnyH.take 12 rfl (by kernel_rfl) (by kernel_rfl) (by kernel_rfl) PF.pf rfl (pv_move rfl) rfl ?_
    refine AnyH.take 13 rfl (by kernel_rfl) (by kernel_rfl) (by kernel_rfl) PF.pf rfl (pv_extract rfl rfl) rfl ?_
    refine AnyH.take 14 rfl (by kernel_rfl) (by kernel_rfl) (by kernel_rfl) PF.pf rfl (pv_extract rfl rfl) rfl ?_
    refine AnyH.one 16 (by kernel_rfl) ?_
    refine Turn.ef rfl rfl (ef_storeK rfl rfl rfl rfl) ?_ ?_
    · rintro _ _ ⟨rfl, rfl⟩; infer_instance
    rintro _ _ ⟨rfl, rfl⟩
    refine AnyH.take 17 rfl (by kernel_rfl) (by kernel_rfl) (by kernel_rfl) PF.pf rfl (pv_assign rfl) rfl ?_
    refine AnyH.done (by kernel_rfl) ?_
    refine Ends.seq ?_
    refine Wp.seq ?_
    refine AnyH.startL 18 rfl ?_
    refine AnyH.take 0 rfl (by kernel_rfl) (by kernel_rfl) (by kernel_rfl) PF.pf rfl (pv_move rfl) rfl ?_
    refine AnyH.take 1 rfl (by kernel_rfl) (by kernel_rfl) (by kernel_rfl) PF.pf rfl (pv_loadK [_, _, _, _, _, _] rfl rfl rfl ⟨rfl, rfl, rfl, rfl, rfl, rfl, trivial⟩) rfl ?_
    refine AnyH.take 2 rfl (by kernel_rfl) (by kernel_rfl) (by kernel_rfl) PF.pf rfl (pv_move rfl) rfl ?_
    refine AnyH.take 3 rfl (by kernel_rfl) (by kernel_rfl) (by kernel_rfl) PF.pf rfl (pv_move rfl) rfl ?_
    refine AnyH.take 4 rfl (by kernel_rfl) (by kernel_rfl) (by kernel_rfl) PF.pf rfl (pv_shl rfl rfl (by omega) (shln (by omega) (by omega))) rfl ?_
    refine AnyH.take 5 rfl (by kernel_rfl) (by kernel_rfl) (by kernel_rfl) PF.pf rfl (pv_move rfl) rfl ?_
    refine AnyH.take 6 rfl (by kernel_rfl) (by kernel_rfl) (by kernel_rfl) PF.pf rfl (pv_conv rfl (u64n (k := t) rfl (by omega))) rfl ?_
    refine AnyH.take 7 rfl (by kernel_rfl) (by kernel_rfl) (by kernel_rfl) PF.pf rfl (pv_add rfl rfl (u64n (k := x * 2 ^ r + t) (by omega) (by omega))) rfl ?_
    refine AnyH.take 8 rfl (by kernel_rfl) (by kernel_rfl) (by kernel_rfl) PF.pf rfl (pv_move rfl) rfl ?_
    refine AnyH.take 9 rfl (by kernel_rfl) (by kernel_rfl) (by kernel_rfl) PF.pf rfl (pv_move rfl) rfl ?_
    refine AnyH.take 10 rfl (by kernel_rfl) (by kernel_rfl) (by kernel_rfl) PF.pf rfl (pv_add rfl rfl (w64n (k := n + r) (by omega) (by omega))) rfl ?_
    refine AnyH.two 11 15 (by kernel_rfl) ?_ ?_
    · refine Turn.ef rfl rfl (ef_callr ((tr_find sb1 (S1.addNode 5 b1 r) ⟨2, 5, 0, 0, g, n⟩ (x * 2 ^ r + t) ((n + r : Nat) : Int) (add_wf hS1 5 b1 r (by decide) (by decide) (by omega) (by omega)) (by omega)).eq (r' := .tuple #[slotV (0, 0), .int .i64 6]) (by rw [find_wrong hrr (by omega) hxl hxg htl (by omega)])) rfl rfl) ?_ ?_
      · rintro _ _ ⟨rfl, rfl⟩; infer_instance
      rintro _ _ ⟨rfl, rfl⟩
      refine AnyH.take 12 rfl (by kernel_rfl) (by kernel_rfl) (by kernel_rfl) PF.pf rfl (pv_move rfl) rfl ?_
      refine AnyH.take 13 rfl (by kernel_rfl) (by kernel_rfl) (by kernel_rfl) PF.pf rfl (pv_extract rfl rfl) rfl ?_
      refine AnyH.take 14 rfl (by kernel_rfl) (by kernel_rfl) (by kernel_rfl) PF.pf rfl (pv_extract rfl rfl) rfl ?_
      refine AnyH.one 15 (by kernel_rfl) ?_
      refine Turn.ef rfl rfl (ef_allocK tyZ31 rfl) ?_ ?_
      · rintro _ _ ⟨b7, rfl, rfl⟩; infer_instance
      rintro _ _ ⟨b7, rfl, rfl⟩
      refine AnyH.one 16 (by kernel_rfl) ?_
      refine Turn.ef rfl rfl (ef_storeK rfl rfl rfl rfl) ?_ ?_
      · rintro _ _ ⟨rfl, rfl⟩; infer_instance
      rintro _ _ ⟨rfl, rfl⟩
      refine AnyH.take 17 rfl (by kernel_rfl) (by kernel_rfl) (by kernel_rfl) PF.pf rfl (pv_assign rfl) rfl ?_
      refine AnyH.done (by kernel_rfl) ?_
      refine Ends.seq ?_
      refine Wp.seq ?_
      refine Wp.region ?_
      refine Ops.pv (pv_move rfl) rfl ?_
      refine Ops.pv ((pv_eql rfl rfl).tru (by first | rfl | decide | omega | assumption | (simp; done) | (simp; omega))) rfl ?_
      refine Ops.pv (pv_move rfl) rfl ?_
      refine Ops.pvg ⟨_, _, rfl, rfl, rfl⟩ (pv_move rfl) rfl ?_
      refine Ops.pvg ⟨_, _, rfl, rfl, rfl⟩ ((pv_eql rfl rfl).tru (by first | rfl | decide | omega | assumption | (simp; done) | (simp; omega))) rfl ?_
      refine Ops.pv (pv_pick_true rfl rfl) rfl ?_
      refine Ops.pv (pv_assign rfl) rfl ?_
      refine Ops.nil ?_
      refine Ends.seq ?_
      refine Wp.ret ?_
      exact Ends.ret (res1 rfl rfl) ⟨rfl, rfl⟩
    · refine Turn.ef rfl rfl (ef_allocK tyZ31 rfl) ?_ ?_
      · rintro _ _ ⟨b8, rfl, rfl⟩; infer_instance
      rintro _ _ ⟨b8, rfl, rfl⟩
      refine AnyH.one 11 (by kernel_rfl) ?_
      refine Turn.ef rfl rfl (ef_callr ((tr_find sb1 (S1.addNode 5 b1 r) ⟨2, 5, 0, 0, g, n⟩ (x * 2 ^ r + t) ((n + r : Nat) : Int) (add_wf hS1 5 b1 r (by decide) (by decide) (by omega) (by omega)) (by omega)).eq (r' := .tuple #[slotV (0, 0), .int .i64 6]) (by rw [find_wrong hrr (by omega) hxl hxg htl (by omega)])) rfl rfl) ?_ ?_
      · rintro _ _ ⟨rfl, rfl⟩; infer_instance
      rintro _ _ ⟨rfl, rfl⟩
      refine AnyH.take 12 rfl (by kernel_rfl) (by kernel_rfl) (by kernel_rfl) PF.pf rfl (pv_move rfl) rfl ?_
      refine AnyH.take 13 rfl (by kernel_rfl) (by kernel_rfl) (by kernel_rfl) PF.pf rfl (pv_extract rfl rfl) rfl ?_
      refine AnyH.take 14 rfl (by kernel_rfl) (by kernel_rfl) (by kernel_rfl) PF.pf rfl (pv_extract rfl rfl) rfl ?_
      refine AnyH.one 16 (by kernel_rfl) ?_
      refine Turn.ef rfl rfl (ef_storeK rfl rfl rfl rfl) ?_ ?_
      · rintro _ _ ⟨rfl, rfl⟩; infer_instance
      rintro _ _ ⟨rfl, rfl⟩
      refine AnyH.take 17 rfl (by kernel_rfl) (by kernel_rfl) (by kernel_rfl) PF.pf rfl (pv_assign rfl) rfl ?_
      refine AnyH.done (by kernel_rfl) ?_
      refine Ends.seq ?_
      refine Wp.seq ?_
      refine Wp.region ?_
      refine Ops.pv (pv_move rfl) rfl ?_
      refine Ops.pv ((pv_eql rfl rfl).tru (by first | rfl | decide | omega | assumption | (simp; done) | (simp; omega))) rfl ?_
      refine Ops.pv (pv_move rfl) rfl ?_
      refine Ops.pvg ⟨_, _, rfl, rfl, rfl⟩ (pv_move rfl) rfl ?_
      refine Ops.pvg ⟨_, _, rfl, rfl, rfl⟩ ((pv_eql rfl rfl).tru (by first | rfl | decide | omega | assumption | (simp; done) | (simp; omega))) rfl ?_
      refine Ops.pv (pv_pick_true rfl rfl) rfl ?_
      refine Ops.pv (pv_assign rfl) rfl ?_
      refine Ops.nil ?_
      refine Ends.seq ?_
      refine Wp.ret ?_
      exact Ends.ret (res1 rfl rfl) ⟨rfl, rfl⟩

end Go.Proofs.Ytpoamckpdpkpoaa
