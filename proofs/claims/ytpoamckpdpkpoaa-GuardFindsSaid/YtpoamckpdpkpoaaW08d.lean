/- Walks of layer 8: the document's way through an address, capabilities by addresses, and GuardFinds. No condition. -/
import Derived.Test.YtpoamckpdpkpoaaM08d
import Derived.Test.YtpoamckpdpkpoaaW08
import Derived.Test.YtpoamckpdpkpoaaW07v
set_option linter.unusedVariables false
set_option linter.unusedSimpArgs false
namespace Go.Proofs.Ytpoamckpdpkpoaa
open Go.SL

theorem tr_front (p l : Nat) (n : Int) (h : 0 ≤ n ∧ n ≤ (l : Int)) (hl : l ≤ 16) : TrR Try.prog 74 [.int .u64 p, .int .i64 l, .int .i64 n] ([]) (.int .u64 (nxtV p l n)) := by
  refine Tr.enter Try.func74 rfl Try.ntmps74 rfl (fun W F => ?_)
  refine Wp.app ?_
  refine Wp.seq ?_
  refine Wp.region ?_
  refine Ops.pv (pv_assign rfl) rfl ?_
  refine Ops.nil ?_
  refine Ends.seq ?_
  refine Wp.seq ?_
  refine AnyH.startL 9 rfl ?_
  refine AnyH.take 0 rfl (by kernel_rfl) (by kernel_rfl) (by kernel_rfl) PF.pf rfl (pv_move rfl) rfl ?_
  refine AnyH.take 1 rfl (by kernel_rfl) (by kernel_rfl) (by kernel_rfl) PF.pf rfl (pv_move rfl) rfl ?_
  refine AnyH.take 2 rfl (by kernel_rfl) (by kernel_rfl) (by kernel_rfl) PF.pf rfl (pv_move rfl) rfl ?_
  refine AnyH.take 3 rfl (by kernel_rfl) (by kernel_rfl) (by kernel_rfl) PF.pf rfl (pv_sub rfl rfl (w64 (by omega) (by omega))) rfl ?_
  refine AnyH.take 4 rfl (by kernel_rfl) (by kernel_rfl) (by kernel_rfl) PF.pf rfl (pv_shr rfl rfl (by omega) rfl) rfl ?_
  refine AnyH.take 5 rfl (by kernel_rfl) (by kernel_rfl) (by kernel_rfl) PF.pf rfl (pv_move rfl) rfl ?_
  refine AnyH.take 6 rfl (by kernel_rfl) (by kernel_rfl) (by kernel_rfl) PF.pf rfl (pv_shl rfl rfl (by omega) rfl) rfl ?_
  refine AnyH.take 7 rfl (by kernel_rfl) (by kernel_rfl) (by kernel_rfl) PF.pf rfl (pv_rem rfl rfl (by obtain ⟨k, rfl⟩ : ∃ k : Nat, n = k := ⟨n.toNat, by omega⟩; rw [shl1 (by omega)]; have := Nat.two_pow_pos k; omega) (front_eq h hl)) rfl ?_
  refine AnyH.take 8 rfl (by kernel_rfl) (by kernel_rfl) (by kernel_rfl) PF.pf rfl (pv_assign rfl) rfl ?_
  refine AnyH.done (by kernel_rfl) ?_
  refine Ends.seq ?_
  refine Wp.ret ?_
  exact Ends.ret (res1 rfl rfl) ⟨rfl, rfl⟩

set_option maxHeartbeats 2000000 in
theorem tr_dresolve (qb : Nat) (L : Hp) (S : StoreM) (ld : List DN) (hR : Rel S ld) (hH : DstH ld qb L) (root : CapM) (p : Nat) (depth : Int) : TrR Try.prog 50 [.pointer (some ⟨qb, 0, none⟩), root.v, .int .u64 p, .int .i64 depth] (L) (.tuple #[slotV (resolveM S root p depth).1, .int .i64 (resolveM S root p depth).2.1, .int .i64 (resolveM S root p depth).2.2]) := by
  refine Tr.enter Try.func50 rfl Try.ntmps50 rfl (fun W F => ?_)
  refine Wp.app ?_
  refine Wp.seq ?_
  refine Wp.region ?_
  refine Ops.ef rfl (ef_boxK rfl rfl) ?_
  rintro _ _ ⟨b1, rfl, rfl⟩
  refine Ops.ef rfl (ef_allocK tyZ31 rfl) ?_
  rintro _ _ ⟨b2, rfl, rfl⟩
  refine Ops.pv (pv_assign rfl) rfl ?_
  refine Ops.pv (pv_assign rfl) rfl ?_
  refine Ops.nil ?_
  refine Ends.seq ?_
  refine Wp.seq ?_
  refine Wp.seq ?_
  refine Wp.region ?_
  refine Ops.pv (pv_move rfl) rfl ?_
  refine Ops.pv (pv_lss rfl rfl) rfl ?_
  refine Ops.pv (pv_move rfl) rfl ?_
  refine Ops.pvcn rfl rfl (fun hg => pv_move rfl) rfl ?_
  refine Ops.pvcn rfl rfl (fun hg => Pv.setE (t := 21) rfl (cv_pos hg) (pv_gtr rfl rfl)) rfl ?_
  refine Ops.pv (pv_pick_or rfl rfl) rfl ?_
  refine Ops.pv (pv_move rfl) rfl ?_
  refine Ops.pvcn rfl rfl (fun hg => pv_move rfl) rfl ?_
  refine Ops.pvcn rfl rfl (fun hg => Pv.setE (t := 25) rfl (cv_pos hg) (pv_move rfl)) rfl ?_
  refine Ops.pvcn rfl rfl (fun hg => Pv.setE (t := 25) rfl (cv_pos hg) (Pv.setE (t := 26) rfl (cv_pos hg) (pv_shl rfl rfl (by omega) (shlI (by omega) (by omega))))) rfl ?_
  refine Ops.pvcn rfl rfl (fun hg => Pv.setE (t := 25) rfl (cv_pos hg) (Pv.setE (t := 26) rfl (cv_pos hg) (Pv.setE (t := 27) rfl (cv_pos hg) (pv_geq rfl rfl)))) rfl ?_
  refine Ops.pv (pv_pick_or rfl rfl) rfl ?_
  refine Ops.nil ?_
  refine Ends.seq ?_
  first | refine Wp.cond_dect rfl (fun h1 => ?_) (fun h1 => ?_) | refine Wp.cond_t rfl (fun h1 => ?_) (fun h1 => ?_)
  · refine Wp.seq ?_
    refine Wp.region ?_
    refine Ops.pv (pv_build rfl) rfl ?_
    refine Ops.ef rfl (ef_storeK rfl rfl rfl rfl) ?_
    rintro _ _ ⟨rfl, rfl⟩
    refine Ops.pv (pv_assign rfl) rfl ?_
    refine Ops.pv (pv_assign rfl) rfl ?_
    refine Ops.nil ?_
    refine Ends.seq ?_
    refine Wp.ret ?_
    refine Ends.then_ret ?_
    exact Ends.ret (res_list (rs := [.cell 8 31, .tmp 9, .tmp 10]) rfl ⟨_, _, rfl, rv_cellK [_, _] rfl rfl rfl ⟨rfl, rfl, trivial⟩, ⟨_, _, rfl, rv_tmp rfl, ⟨_, _, rfl, rv_tmp rfl, rfl⟩⟩⟩ rfl) ⟨by rw [resolve_d1 (by assumption)]; rfl, rfl⟩
  · refine Wp.skip ?_
    refine Ends.seq ?_
    refine Wp.seq ?_
    refine Wp.seq ?_
    refine Wp.region ?_
    first | refine Ops.pv (pv_fieldAddr0 rfl rfl) rfl ?_ | refine Ops.pv (pv_fieldAddr rfl rfl) rfl ?_
    first | refine Ops.pv (pv_load rfl rfl rfl) rfl ?_ | refine Ops.pv (pv_load rfl rfl (by assumption)) rfl ?_
    refine Ops.pv (pv_neq rfl rfl) rfl ?_
    refine Ops.nil ?_
    refine Ends.seq ?_
    first | refine Wp.cond_dect rfl (fun hkd => ?_) (fun hkd => ?_) | refine Wp.cond_t rfl (fun hkd => ?_) (fun hkd => ?_)
    · refine Wp.seq ?_
      refine Wp.region ?_
      refine Ops.pv (pv_build rfl) rfl ?_
      refine Ops.ef rfl (ef_storeK rfl rfl rfl rfl) ?_
      rintro _ _ ⟨rfl, rfl⟩
      refine Ops.pv (pv_assign rfl) rfl ?_
      refine Ops.pv (pv_assign rfl) rfl ?_
      refine Ops.nil ?_
      refine Ends.seq ?_
      refine Wp.ret ?_
      refine Ends.then_ret ?_
      exact Ends.ret (res_list (rs := [.cell 8 31, .tmp 9, .tmp 10]) rfl ⟨_, _, rfl, rv_cellK [_, _] rfl rfl rfl ⟨rfl, rfl, trivial⟩, ⟨_, _, rfl, rv_tmp rfl, ⟨_, _, rfl, rv_tmp rfl, rfl⟩⟩⟩ rfl) ⟨by rw [resolve_d2 (by assumption) (by assumption)]; rfl, rfl⟩
    · obtain ⟨k, rfl⟩ : ∃ k : Nat, depth = k := ⟨depth.toNat, by omega⟩
      refine Wp.skip ?_
      refine Ends.seq ?_
      refine Wp.seq ?_
      refine Wp.region ?_
      refine Ops.pv (pv_loadK [_, _, _, _, _, _] rfl rfl rfl ⟨rfl, rfl, rfl, rfl, rfl, rfl, trivial⟩) rfl ?_
      refine Ops.ef rfl (ef_allocK tyZ29 rfl) ?_
      rintro _ _ ⟨b3, rfl, rfl⟩
      refine Ops.ef rfl (ef_storeK rfl rfl rfl rfl) ?_
      rintro _ _ ⟨rfl, rfl⟩
      refine Ops.nil ?_
      refine Ends.seq ?_
      refine Wp.seq ?_
      refine Wp.region ?_
      refine Ops.pv (pv_move rfl) rfl ?_
      refine Ops.pv (pv_assign rfl) rfl ?_
      refine Ops.nil ?_
      refine Ends.seq ?_
      refine Wp.seq ?_
      refine Wp.seq ?_
      refine Wp.region ?_
      refine Ops.pv (pv_assign rfl) rfl ?_
      refine Ops.nil ?_
      refine Ends.seq ?_
      refine Wp.block ?_
      refine Wp.loopK (σ := Nat × CapM × Nat × Nat) [(0, _), (2, _), (8, _), (11, _)] (fun s => [(12, .int .i64 s.2.2.1), (13, .int .i64 s.1)]) (fun s => (b3, .cells s.2.1.cells.toArray 29) :: (b2, .cells [.int .i64 0, .int .i64 0].toArray 31) :: (L ++ F)) (fun s => s.2.2.1 ≤ 16 ∧ s.2.2.1 < s.2.2.2 ∧ resolveM S root p (k : Int) = resLoop S p s.2.2.2 s.2.1 s.2.2.1 ∧ s.1 + s.2.2.1 ≤ 16) (fun s => s.2.2.2) (0, root, k, k + 1) ⟨by dsimp only; omega, by dsimp only; omega, resolve_dgo (by assumption) hkd, by dsimp only; omega⟩ ⟨rfl, rfl, rfl, rfl, trivial⟩ ⟨rfl, rfl, trivial⟩ (by intro w ho; (try dsimp only [List.nil_append, List.cons_append]); exact Drop.own ho) ?_
      rintro ⟨i, c, l, m⟩ KK ⟨hl, hlm, hres, hil⟩ hK
      dsimp only [List.cons_append, List.nil_append] at hK ⊢
      dsimp only at hl hlm hres hil ⊢
      obtain ⟨m, rfl⟩ : ∃ j, m = j + 1 := ⟨m - 1, by omega⟩
      refine Wp.seq ?_
      refine Wp.seq ?_
      refine Wp.region ?_
      refine Ops.pv (pv_move rfl) rfl ?_
      refine Ops.pv (pv_lss rfl rfl) rfl ?_
      refine Ops.nil ?_
      refine Ends.seq ?_
      first | refine Wp.cond_dect rfl (fun h3 => ?_) (fun h3 => ?_) | refine Wp.cond_t rfl (fun h3 => ?_) (fun h3 => ?_)
      · refine Wp.skip ?_
        refine Ends.seq ?_
        refine Wp.seq ?_
        refine Wp.block ?_
        refine Wp.seq ?_
        refine Wp.region ?_
        refine Ops.pv (pv_move rfl) rfl ?_
        first | refine Ops.pv (pv_fieldAddr0 rfl rfl) rfl ?_ | refine Ops.pv (pv_fieldAddr rfl rfl) rfl ?_
        first | refine Ops.pv (pv_load rfl rfl rfl) rfl ?_ | refine Ops.pv (pv_load rfl rfl (by assumption)) rfl ?_
        refine Ops.ef rfl (ef_callr (td_radix hR hH c.object) rfl rfl) ?_
        rintro _ _ ⟨rfl, rfl⟩
        refine Ops.pv (pv_assign rfl) rfl ?_
        refine Ops.nil ?_
        refine Ends.seq ?_
        refine Wp.seq ?_
        refine Wp.seq ?_
        refine AnyH.start ((b3, .cells c.cells.toArray 29) :: []) 31 rfl ?_
        refine AnyH.take 0 rfl (by kernel_rfl) (by kernel_rfl) (by kernel_rfl) PF.pf rfl (pv_move rfl) rfl ?_
        refine AnyH.take 1 rfl (by kernel_rfl) (by kernel_rfl) (by kernel_rfl) PF.pf rfl (pv_eql rfl rfl) rfl ?_
        refine AnyH.take 2 rfl (by kernel_rfl) (by kernel_rfl) (by kernel_rfl) PF.pf rfl (pv_move rfl) rfl ?_
        first | refine AnyH.takecn 3 rfl (by kernel_rfl) (by kernel_rfl) (by kernel_rfl) PF.pf rfl rfl (fun hg => pv_fieldAddr0 rfl rfl) rfl ?_ | refine AnyH.takecn 3 rfl (by kernel_rfl) (by kernel_rfl) (by kernel_rfl) PF.pf rfl rfl (fun hg => pv_fieldAddr rfl rfl) rfl ?_
        first | refine AnyH.takecn 4 rfl (by kernel_rfl) (by kernel_rfl) (by kernel_rfl) PF.pf rfl rfl (fun hg => Pv.setE (t := 48) rfl (cv_pos hg) (pv_load rfl rfl rfl)) rfl ?_ | refine AnyH.takecn 4 rfl (by kernel_rfl) (by kernel_rfl) (by kernel_rfl) PF.pf rfl rfl (fun hg => Pv.setE (t := 48) rfl (cv_pos hg) (pv_load rfl rfl (by assumption))) rfl ?_
        refine AnyH.takecn 5 rfl (by kernel_rfl) (by kernel_rfl) (by kernel_rfl) PF.pf rfl rfl (fun hg => Pv.setE (t := 48) rfl (cv_pos hg) (Pv.setE (t := 49) rfl (cv_pos hg) (pv_lss rfl rfl))) rfl ?_
        refine AnyH.take 6 rfl (by kernel_rfl) (by kernel_rfl) (by kernel_rfl) PF.pf rfl (pv_pick_or rfl rfl) rfl ?_
        refine AnyH.take 7 rfl (by kernel_rfl) (by kernel_rfl) (by kernel_rfl) PF.pf rfl (pv_move rfl) rfl ?_
        first | refine AnyH.takecn 8 rfl (by kernel_rfl) (by kernel_rfl) (by kernel_rfl) PF.pf rfl rfl (fun hg => pv_fieldAddr0 rfl rfl) rfl ?_ | refine AnyH.takecn 8 rfl (by kernel_rfl) (by kernel_rfl) (by kernel_rfl) PF.pf rfl rfl (fun hg => pv_fieldAddr rfl rfl) rfl ?_
        first | refine AnyH.takecn 9 rfl (by kernel_rfl) (by kernel_rfl) (by kernel_rfl) PF.pf rfl rfl (fun hg => Pv.setE (t := 53) rfl (cv_pos hg) (pv_load rfl rfl rfl)) rfl ?_ | refine AnyH.takecn 9 rfl (by kernel_rfl) (by kernel_rfl) (by kernel_rfl) PF.pf rfl rfl (fun hg => Pv.setE (t := 53) rfl (cv_pos hg) (pv_load rfl rfl (by assumption))) rfl ?_
        refine AnyH.takecn 10 rfl (by kernel_rfl) (by kernel_rfl) (by kernel_rfl) PF.pf rfl rfl (fun hg => Pv.setE (t := 53) rfl (cv_pos hg) (Pv.setE (t := 54) rfl (cv_pos hg) (pv_move rfl))) rfl ?_
        refine AnyH.takecn 11 rfl (by kernel_rfl) (by kernel_rfl) (by kernel_rfl) PF.pf rfl rfl (fun hg => Pv.setE (t := 53) rfl (cv_pos hg) (Pv.setE (t := 54) rfl (cv_pos hg) (Pv.setE (t := 55) rfl (cv_pos hg) (pv_gtr rfl rfl)))) rfl ?_
        refine AnyH.take 12 rfl (by kernel_rfl) (by kernel_rfl) (by kernel_rfl) PF.pf rfl (pv_pick_or rfl rfl) rfl ?_
        refine AnyH.take 13 rfl (by kernel_rfl) (by kernel_rfl) (by kernel_rfl) PF.pf rfl (pv_move rfl) rfl ?_
        refine AnyH.takecn 14 rfl (by kernel_rfl) (by kernel_rfl) (by kernel_rfl) PF.pf rfl rfl (fun hg => pv_move rfl) rfl ?_
        first | refine AnyH.takecn 15 rfl (by kernel_rfl) (by kernel_rfl) (by kernel_rfl) PF.pf rfl rfl (fun hg => Pv.setE (t := 59) rfl (cv_pos hg) (pv_fieldAddr0 rfl rfl)) rfl ?_ | refine AnyH.takecn 15 rfl (by kernel_rfl) (by kernel_rfl) (by kernel_rfl) PF.pf rfl rfl (fun hg => Pv.setE (t := 59) rfl (cv_pos hg) (pv_fieldAddr rfl rfl)) rfl ?_
        first | refine AnyH.takecn 16 rfl (by kernel_rfl) (by kernel_rfl) (by kernel_rfl) PF.pf rfl rfl (fun hg => Pv.setE (t := 59) rfl (cv_pos hg) (Pv.setE (t := 60) rfl (cv_pos hg) (pv_load rfl rfl rfl))) rfl ?_ | refine AnyH.takecn 16 rfl (by kernel_rfl) (by kernel_rfl) (by kernel_rfl) PF.pf rfl rfl (fun hg => Pv.setE (t := 59) rfl (cv_pos hg) (Pv.setE (t := 60) rfl (cv_pos hg) (pv_load rfl rfl (by assumption)))) rfl ?_
        refine AnyH.takecn 17 rfl (by kernel_rfl) (by kernel_rfl) (by kernel_rfl) PF.pf rfl rfl (fun hg => Pv.setE (t := 59) rfl (cv_pos hg) (Pv.setE (t := 60) rfl (cv_pos hg) (Pv.setE (t := 61) rfl (cv_pos hg) (pv_sub rfl rfl (w64 (by omega) (by omega)))))) rfl ?_
        refine AnyH.takecn 18 rfl (by kernel_rfl) (by kernel_rfl) (by kernel_rfl) PF.pf rfl rfl (fun hg => Pv.setE (t := 59) rfl (cv_pos hg) (Pv.setE (t := 60) rfl (cv_pos hg) (Pv.setE (t := 61) rfl (cv_pos hg) (Pv.setE (t := 62) rfl (cv_pos hg) (pv_move rfl))))) rfl ?_
        refine AnyH.takecn 19 rfl (by kernel_rfl) (by kernel_rfl) (by kernel_rfl) PF.pf rfl rfl (fun hg => Pv.setE (t := 59) rfl (cv_pos hg) (Pv.setE (t := 60) rfl (cv_pos hg) (Pv.setE (t := 61) rfl (cv_pos hg) (Pv.setE (t := 62) rfl (cv_pos hg) (Pv.setE (t := 63) rfl (cv_pos hg) (pv_lss rfl rfl)))))) rfl ?_
        refine AnyH.take 20 rfl (by kernel_rfl) (by kernel_rfl) (by kernel_rfl) PF.pf rfl (pv_pick_or rfl rfl) rfl ?_
        refine AnyH.take 21 rfl (by kernel_rfl) (by kernel_rfl) (by kernel_rfl) PF.pf rfl (pv_move rfl) rfl ?_
        refine AnyH.split (t := 66) rfl (fun h4 => ?_) (fun h4 => ?_)
        · refine AnyH.skip 22 rfl (by kernel_rfl) (by kernel_rfl) (by kernel_rfl) PF.pf ⟨_, _, rfl, rfl, rfl⟩ rfl ?_
          refine AnyH.skip 23 rfl (by kernel_rfl) (by kernel_rfl) (by kernel_rfl) PF.pf ⟨_, _, rfl, rfl, rfl⟩ rfl ?_
          refine AnyH.skip 24 rfl (by kernel_rfl) (by kernel_rfl) (by kernel_rfl) PF.pf ⟨_, _, rfl, rfl, rfl⟩ rfl ?_
          refine AnyH.skip 25 rfl (by kernel_rfl) (by kernel_rfl) (by kernel_rfl) PF.pf ⟨_, _, rfl, rfl, rfl⟩ rfl ?_
          refine AnyH.skip 26 rfl (by kernel_rfl) (by kernel_rfl) (by kernel_rfl) PF.pf ⟨_, _, rfl, rfl, rfl⟩ rfl ?_
          refine AnyH.skip 27 rfl (by kernel_rfl) (by kernel_rfl) (by kernel_rfl) PF.pf ⟨_, _, rfl, rfl, rfl⟩ rfl ?_
          refine AnyH.skip 28 rfl (by kernel_rfl) (by kernel_rfl) (by kernel_rfl) PF.pf ⟨_, _, rfl, rfl, rfl⟩ rfl ?_
          refine AnyH.skip 29 rfl (by kernel_rfl) (by kernel_rfl) (by kernel_rfl) PF.pf ⟨_, _, rfl, rfl, rfl⟩ rfl ?_
          refine AnyH.take 30 rfl (by kernel_rfl) (by kernel_rfl) (by kernel_rfl) PF.pf rfl (pv_pick_true rfl rfl) rfl ?_
          refine AnyH.done (by kernel_rfl) ?_
          refine Ends.seq ?_
          refine Wp.cond_true rfl ?_
          refine Wp.seq ?_
          refine Wp.region ?_
          refine Ops.pv (pv_build rfl) rfl ?_
          refine Ops.ef rfl (ef_storeK rfl rfl rfl rfl) ?_
          rintro _ _ ⟨rfl, rfl⟩
          refine Ops.pv (pv_assign rfl) rfl ?_
          refine Ops.pv (pv_assign rfl) rfl ?_
          refine Ops.nil ?_
          refine Ends.seq ?_
          refine Wp.ret ?_
          refine Ends.then_ret ?_
          refine Ends.block_ret ?_
          refine Ends.then_ret ?_
          refine Ends.then_ret ?_
          refine Ends.block_ret ?_
          refine Ends.then_ret ?_
          exact Ends.ret (res_list (rs := [.cell 8 31, .tmp 9, .tmp 10]) rfl ⟨_, _, rfl, rv_cellK [_, _] rfl rfl rfl ⟨rfl, rfl, trivial⟩, ⟨_, _, rfl, rv_tmp rfl, ⟨_, _, rfl, rv_tmp rfl, rfl⟩⟩⟩ rfl) ⟨by rw [hres, dl_e (by assumption)]; rfl, rfl⟩
        · refine AnyH.take 22 rfl (by kernel_rfl) (by kernel_rfl) (by kernel_rfl) PF.pf ⟨_, _, rfl, rfl, rfl⟩ (pv_move rfl) rfl ?_
          refine AnyH.take 23 rfl (by kernel_rfl) (by kernel_rfl) (by kernel_rfl) PF.pf ⟨_, _, rfl, rfl, rfl⟩ (pv_move rfl) rfl ?_
          first | refine AnyH.take 24 rfl (by kernel_rfl) (by kernel_rfl) (by kernel_rfl) PF.pf ⟨_, _, rfl, rfl, rfl⟩ (pv_fieldAddr0 rfl rfl) rfl ?_ | refine AnyH.take 24 rfl (by kernel_rfl) (by kernel_rfl) (by kernel_rfl) PF.pf ⟨_, _, rfl, rfl, rfl⟩ (pv_fieldAddr rfl rfl) rfl ?_
          first | refine AnyH.take 25 rfl (by kernel_rfl) (by kernel_rfl) (by kernel_rfl) PF.pf ⟨_, _, rfl, rfl, rfl⟩ (pv_load rfl rfl rfl) rfl ?_ | refine AnyH.take 25 rfl (by kernel_rfl) (by kernel_rfl) (by kernel_rfl) PF.pf ⟨_, _, rfl, rfl, rfl⟩ (pv_load rfl rfl (by assumption)) rfl ?_
          first | refine AnyH.take 27 rfl (by kernel_rfl) (by kernel_rfl) (by kernel_rfl) PF.pf ⟨_, _, rfl, rfl, rfl⟩ (pv_fieldAddr0 rfl rfl) rfl ?_ | refine AnyH.take 27 rfl (by kernel_rfl) (by kernel_rfl) (by kernel_rfl) PF.pf ⟨_, _, rfl, rfl, rfl⟩ (pv_fieldAddr rfl rfl) rfl ?_
          first | refine AnyH.take 28 rfl (by kernel_rfl) (by kernel_rfl) (by kernel_rfl) PF.pf ⟨_, _, rfl, rfl, rfl⟩ (pv_load rfl rfl rfl) rfl ?_ | refine AnyH.take 28 rfl (by kernel_rfl) (by kernel_rfl) (by kernel_rfl) PF.pf ⟨_, _, rfl, rfl, rfl⟩ (pv_load rfl rfl (by assumption)) rfl ?_
          refine AnyH.one 26 (by kernel_rfl) ?_
          refine Turn.ef rfl ⟨_, _, rfl, rfl, rfl⟩ (ef_callr (tr_front p l c.bits (by omega) hl) rfl rfl) ?_ ?_
          · rintro _ _ ⟨rfl, rfl⟩; infer_instance
          rintro _ _ ⟨rfl, rfl⟩
          refine AnyH.take 29 rfl (by kernel_rfl) (by kernel_rfl) (by kernel_rfl) PF.pf ⟨_, _, rfl, rfl, rfl⟩ (pv_neq rfl rfl) rfl ?_
          refine AnyH.take 30 rfl (by kernel_rfl) (by kernel_rfl) (by kernel_rfl) PF.pf rfl (pv_pick_false rfl rfl) rfl ?_
          refine AnyH.done (by kernel_rfl) ?_
          refine Ends.seq ?_
          first | refine Wp.cond_dect rfl (fun hg => ?_) (fun hg => ?_) | refine Wp.cond_t rfl (fun hg => ?_) (fun hg => ?_)
          · refine Wp.seq ?_
            refine Wp.region ?_
            refine Ops.pv (pv_build rfl) rfl ?_
            refine Ops.ef rfl (ef_storeK rfl rfl rfl rfl) ?_
            rintro _ _ ⟨rfl, rfl⟩
            refine Ops.pv (pv_assign rfl) rfl ?_
            refine Ops.pv (pv_assign rfl) rfl ?_
            refine Ops.nil ?_
            refine Ends.seq ?_
            refine Wp.ret ?_
            refine Ends.then_ret ?_
            refine Ends.block_ret ?_
            refine Ends.then_ret ?_
            refine Ends.then_ret ?_
            refine Ends.block_ret ?_
            refine Ends.then_ret ?_
            exact Ends.ret (res_list (rs := [.cell 8 31, .tmp 9, .tmp 10]) rfl ⟨_, _, rfl, rv_cellK [_, _] rfl rfl rfl ⟨rfl, rfl, trivial⟩, ⟨_, _, rfl, rv_tmp rfl, ⟨_, _, rfl, rv_tmp rfl, rfl⟩⟩⟩ rfl) ⟨by rw [hres, dl_e2 hg]; rfl, rfl⟩
          · obtain ⟨hok, he1, hr2, he2⟩ := dl_ok (S := S) (l := l) (c := c) (by omega)
            have hbv := nxtV_lt (p := p) (l := nxtL l c.bits) (n := S.radix c.object) (Nat.le_trans (nxtL_le _ _) hl)
            have hr0 := S.radix_nonneg c.object
            refine Wp.skip ?_
            refine Ends.seq ?_
            refine Wp.seq ?_
            refine Wp.region ?_
            refine Ops.pv (pv_move rfl) rfl ?_
            first | refine Ops.pv (pv_fieldAddr0 rfl rfl) rfl ?_ | refine Ops.pv (pv_fieldAddr rfl rfl) rfl ?_
            first | refine Ops.pv (pv_load rfl rfl rfl) rfl ?_ | refine Ops.pv (pv_load rfl rfl (by assumption)) rfl ?_
            refine Ops.pv (pv_sub rfl rfl (w64n (k := nxtL l c.bits) (by omega) (by omega))) rfl ?_
            refine Ops.pv (pv_assign rfl) rfl ?_
            refine Ops.nil ?_
            refine Ends.seq ?_
            refine Wp.seq ?_
            refine AnyH.start ((b3, .cells c.cells.toArray 29) :: []) 10 rfl ?_
            first | refine AnyH.take 0 rfl (by kernel_rfl) (by kernel_rfl) (by kernel_rfl) PF.pf rfl (pv_fieldAddr0 rfl rfl) rfl ?_ | refine AnyH.take 0 rfl (by kernel_rfl) (by kernel_rfl) (by kernel_rfl) PF.pf rfl (pv_fieldAddr rfl rfl) rfl ?_
            first | refine AnyH.take 1 rfl (by kernel_rfl) (by kernel_rfl) (by kernel_rfl) PF.pf rfl (pv_load rfl rfl rfl) rfl ?_ | refine AnyH.take 1 rfl (by kernel_rfl) (by kernel_rfl) (by kernel_rfl) PF.pf rfl (pv_load rfl rfl (by assumption)) rfl ?_
            refine AnyH.take 2 rfl (by kernel_rfl) (by kernel_rfl) (by kernel_rfl) PF.pf rfl (pv_move rfl) rfl ?_
            refine AnyH.take 3 rfl (by kernel_rfl) (by kernel_rfl) (by kernel_rfl) PF.pf rfl (pv_move rfl) rfl ?_
            refine AnyH.take 4 rfl (by kernel_rfl) (by kernel_rfl) (by kernel_rfl) PF.pf rfl (pv_move rfl) rfl ?_
            refine AnyH.two 5 8 (by kernel_rfl) ?_ ?_
            · refine Turn.ef rfl rfl (ef_callr (tr_front p (nxtL l c.bits) (S.radix c.object) hr2 (Nat.le_trans (nxtL_le _ _) hl)) rfl rfl) ?_ ?_
              · rintro _ _ ⟨rfl, rfl⟩; infer_instance
              rintro _ _ ⟨rfl, rfl⟩
              refine AnyH.take 6 rfl (by kernel_rfl) (by kernel_rfl) (by kernel_rfl) PF.pf rfl (pv_conv rfl (w64n (k := nxtV p (nxtL l c.bits) (S.radix c.object)) rfl (by omega))) rfl ?_
              refine AnyH.take 7 rfl (by kernel_rfl) (by kernel_rfl) (by kernel_rfl) PF.pf rfl (pv_build rfl) rfl ?_
              refine AnyH.one 8 (by kernel_rfl) ?_
              refine Turn.ef rfl rfl (ef_allocK tyZ31 rfl) ?_ ?_
              · rintro _ _ ⟨b4, rfl, rfl⟩; infer_instance
              rintro _ _ ⟨b4, rfl, rfl⟩
              refine AnyH.one 9 (by kernel_rfl) ?_
              refine Turn.ef rfl rfl (ef_storeK rfl rfl rfl rfl) ?_ ?_
              · rintro _ _ ⟨rfl, rfl⟩; infer_instance
              rintro _ _ ⟨rfl, rfl⟩
              refine AnyH.done (by kernel_rfl) ?_
              refine Ends.seq ?_
              refine Wp.seq ?_
              refine Wp.region ?_
              refine Ops.pv (pv_move rfl) rfl ?_
              refine Ops.pv (pv_move rfl) rfl ?_
              refine Ops.pv (pv_sub rfl rfl (w64n (k := nxtL (nxtL l c.bits) (S.radix c.object)) (by omega) (by omega))) rfl ?_
              refine Ops.pv (pv_assign rfl) rfl ?_
              refine Ops.nil ?_
              refine Ends.seq ?_
              refine Wp.seq ?_
              refine Wp.region ?_
              refine Ops.pv (pv_move rfl) rfl ?_
              refine Ops.pv (pv_loadK [_, _] rfl rfl rfl ⟨rfl, rfl, trivial⟩) rfl ?_
              refine Ops.ef rfl (ef_callr (td_get hR hH (c.object, (nxtV p (nxtL l c.bits) (S.radix c.object) : Int))) rfl rfl) ?_
              rintro _ _ ⟨rfl, rfl⟩
              refine Ops.pv (pv_move rfl) rfl ?_
              refine Ops.pv (pv_extract rfl rfl) rfl ?_
              refine Ops.pv (pv_extract rfl rfl) rfl ?_
              refine Ops.ef rfl (ef_allocK tyZ29 rfl) ?_
              rintro _ _ ⟨b5, rfl, rfl⟩
              refine Ops.ef rfl (ef_storeK rfl rfl rfl rfl) ?_
              rintro _ _ ⟨rfl, rfl⟩
              refine Ops.pv (pv_assign rfl) rfl ?_
              refine Ops.nil ?_
              refine Ends.seq ?_
              refine Wp.seq ?_
              refine Wp.seq ?_
              refine Wp.region ?_
              refine Ops.pv (pv_move rfl) rfl ?_
              refine Ops.pv (pv_eql rfl rfl) rfl ?_
              refine Ops.pv (pv_move rfl) rfl ?_
              first | refine Ops.pvcn rfl rfl (fun hg => pv_fieldAddr0 rfl rfl) rfl ?_ | refine Ops.pvcn rfl rfl (fun hg => pv_fieldAddr rfl rfl) rfl ?_
              first | refine Ops.pvcn rfl rfl (fun hg => Pv.setE (t := 101) rfl (cv_pos hg) (pv_load rfl rfl rfl)) rfl ?_ | refine Ops.pvcn rfl rfl (fun hg => Pv.setE (t := 101) rfl (cv_pos hg) (pv_load rfl rfl (by assumption))) rfl ?_
              refine Ops.pvcn rfl rfl (fun hg => Pv.setE (t := 101) rfl (cv_pos hg) (Pv.setE (t := 102) rfl (cv_pos hg) (pv_neq rfl rfl))) rfl ?_
              refine Ops.pv (pv_pick_or rfl rfl) rfl ?_
              refine Ops.nil ?_
              refine Ends.seq ?_
              first | refine Wp.cond_dect rfl (fun h6 => ?_) (fun h6 => ?_) | refine Wp.cond_t rfl (fun h6 => ?_) (fun h6 => ?_)
              · refine Wp.seq ?_
                refine Wp.region ?_
                refine Ops.pv (pv_loadK [_, _] rfl rfl rfl ⟨rfl, rfl, trivial⟩) rfl ?_
                refine Ops.pv (pv_move rfl) rfl ?_
                refine Ops.ef rfl (ef_storeK rfl rfl rfl rfl) ?_
                rintro _ _ ⟨rfl, rfl⟩
                refine Ops.pv (pv_assign rfl) rfl ?_
                refine Ops.pv (pv_assign rfl) rfl ?_
                refine Ops.nil ?_
                refine Ends.seq ?_
                refine Wp.ret ?_
                refine Ends.then_ret ?_
                refine Ends.block_ret ?_
                refine Ends.then_ret ?_
                refine Ends.then_ret ?_
                refine Ends.block_ret ?_
                refine Ends.then_ret ?_
                exact Ends.ret (res_list (rs := [.cell 8 31, .tmp 9, .tmp 10]) rfl ⟨_, _, rfl, rv_cellK [_, _] rfl rfl rfl ⟨rfl, rfl, trivial⟩, ⟨_, _, rfl, rv_tmp rfl, ⟨_, _, rfl, rv_tmp rfl, rfl⟩⟩⟩ rfl) ⟨by rw [hres, rl_f (dl_n (by omega) hg) (dl_n2 hr2) (by omega)], rfl⟩
              · refine Wp.skip ?_
                refine Ends.seq ?_
                refine Wp.region ?_
                refine Ops.pv (pv_loadK [_, _, _, _, _, _] rfl rfl rfl ⟨rfl, rfl, rfl, rfl, rfl, rfl, trivial⟩) rfl ?_
                refine Ops.ef rfl (ef_storeK rfl rfl rfl rfl) ?_
                rintro _ _ ⟨rfl, rfl⟩
                refine Ops.nil ?_
                refine Ends.block_normal ?_
                refine Ends.seq ?_
                refine Wp.region ?_
                refine Ops.pv (pv_move rfl) rfl ?_
                first | refine Ops.pv (pv_add rfl rfl (w64 (by omega) (by omega))) rfl ?_ | refine Ops.pv (pv_add rfl rfl rfl) rfl ?_
                refine Ops.pv (pv_assign rfl) rfl ?_
                refine Ops.nil ?_
                refine Ends.goes ?_
                refine Goes.back (hK (i + 1, (S.get (c.object, (nxtV p (nxtL l c.bits) (S.radix c.object) : Int))).1, nxtL (nxtL l c.bits) (S.radix c.object), m) ⟨by dsimp only; omega, by dsimp only; omega, ?_, by dsimp only; omega⟩ (by dsimp only; omega)) ⟨rfl, rfl, rfl, rfl, rfl, rfl, trivial⟩
                rw [hres]; exact rl_g (dl_n (by omega) hg) (dl_n2 hr2) (by rintro (h | h) <;> omega)
            · refine Turn.ef rfl rfl (ef_allocK tyZ31 rfl) ?_ ?_
              · rintro _ _ ⟨b6, rfl, rfl⟩; infer_instance
              rintro _ _ ⟨b6, rfl, rfl⟩
              refine AnyH.one 5 (by kernel_rfl) ?_
              refine Turn.ef rfl rfl (ef_callr (tr_front p (nxtL l c.bits) (S.radix c.object) hr2 (Nat.le_trans (nxtL_le _ _) hl)) rfl rfl) ?_ ?_
              · rintro _ _ ⟨rfl, rfl⟩; infer_instance
              rintro _ _ ⟨rfl, rfl⟩
              refine AnyH.take 6 rfl (by kernel_rfl) (by kernel_rfl) (by kernel_rfl) PF.pf rfl (pv_conv rfl (w64n (k := nxtV p (nxtL l c.bits) (S.radix c.object)) rfl (by omega))) rfl ?_
              refine AnyH.take 7 rfl (by kernel_rfl) (by kernel_rfl) (by kernel_rfl) PF.pf rfl (pv_build rfl) rfl ?_
              refine AnyH.one 9 (by kernel_rfl) ?_
              refine Turn.ef rfl rfl (ef_storeK rfl rfl rfl rfl) ?_ ?_
              · rintro _ _ ⟨rfl, rfl⟩; infer_instance
              rintro _ _ ⟨rfl, rfl⟩
              refine AnyH.done (by kernel_rfl) ?_
              refine Ends.seq ?_
              refine Wp.seq ?_
              refine Wp.region ?_
              refine Ops.pv (pv_move rfl) rfl ?_
              refine Ops.pv (pv_move rfl) rfl ?_
              refine Ops.pv (pv_sub rfl rfl (w64n (k := nxtL (nxtL l c.bits) (S.radix c.object)) (by omega) (by omega))) rfl ?_
              refine Ops.pv (pv_assign rfl) rfl ?_
              refine Ops.nil ?_
              refine Ends.seq ?_
              refine Wp.seq ?_
              refine Wp.region ?_
              refine Ops.pv (pv_move rfl) rfl ?_
              refine Ops.pv (pv_loadK [_, _] rfl rfl rfl ⟨rfl, rfl, trivial⟩) rfl ?_
              refine Ops.ef rfl (ef_callr (td_get hR hH (c.object, (nxtV p (nxtL l c.bits) (S.radix c.object) : Int))) rfl rfl) ?_
              rintro _ _ ⟨rfl, rfl⟩
              refine Ops.pv (pv_move rfl) rfl ?_
              refine Ops.pv (pv_extract rfl rfl) rfl ?_
              refine Ops.pv (pv_extract rfl rfl) rfl ?_
              refine Ops.ef rfl (ef_allocK tyZ29 rfl) ?_
              rintro _ _ ⟨b7, rfl, rfl⟩
              refine Ops.ef rfl (ef_storeK rfl rfl rfl rfl) ?_
              rintro _ _ ⟨rfl, rfl⟩
              refine Ops.pv (pv_assign rfl) rfl ?_
              refine Ops.nil ?_
              refine Ends.seq ?_
              refine Wp.seq ?_
              refine Wp.seq ?_
              refine Wp.region ?_
              refine Ops.pv (pv_move rfl) rfl ?_
              refine Ops.pv (pv_eql rfl rfl) rfl ?_
              refine Ops.pv (pv_move rfl) rfl ?_
              first | refine Ops.pvcn rfl rfl (fun hg => pv_fieldAddr0 rfl rfl) rfl ?_ | refine Ops.pvcn rfl rfl (fun hg => pv_fieldAddr rfl rfl) rfl ?_
              first | refine Ops.pvcn rfl rfl (fun hg => Pv.setE (t := 101) rfl (cv_pos hg) (pv_load rfl rfl rfl)) rfl ?_ | refine Ops.pvcn rfl rfl (fun hg => Pv.setE (t := 101) rfl (cv_pos hg) (pv_load rfl rfl (by assumption))) rfl ?_
              refine Ops.pvcn rfl rfl (fun hg => Pv.setE (t := 101) rfl (cv_pos hg) (Pv.setE (t := 102) rfl (cv_pos hg) (pv_neq rfl rfl))) rfl ?_
              refine Ops.pv (pv_pick_or rfl rfl) rfl ?_
              refine Ops.nil ?_
              refine Ends.seq ?_
              first | refine Wp.cond_dect rfl (fun h7 => ?_) (fun h7 => ?_) | refine Wp.cond_t rfl (fun h7 => ?_) (fun h7 => ?_)
              · refine Wp.seq ?_
                refine Wp.region ?_
                refine Ops.pv (pv_loadK [_, _] rfl rfl rfl ⟨rfl, rfl, trivial⟩) rfl ?_
                refine Ops.pv (pv_move rfl) rfl ?_
                refine Ops.ef rfl (ef_storeK rfl rfl rfl rfl) ?_
                rintro _ _ ⟨rfl, rfl⟩
                refine Ops.pv (pv_assign rfl) rfl ?_
                refine Ops.pv (pv_assign rfl) rfl ?_
                refine Ops.nil ?_
                refine Ends.seq ?_
                refine Wp.ret ?_
                refine Ends.then_ret ?_
                refine Ends.block_ret ?_
                refine Ends.then_ret ?_
                refine Ends.then_ret ?_
                refine Ends.block_ret ?_
                refine Ends.then_ret ?_
                exact Ends.ret (res_list (rs := [.cell 8 31, .tmp 9, .tmp 10]) rfl ⟨_, _, rfl, rv_cellK [_, _] rfl rfl rfl ⟨rfl, rfl, trivial⟩, ⟨_, _, rfl, rv_tmp rfl, ⟨_, _, rfl, rv_tmp rfl, rfl⟩⟩⟩ rfl) ⟨by rw [hres, rl_f (dl_n (by omega) hg) (dl_n2 hr2) (by omega)], rfl⟩
              · refine Wp.skip ?_
                refine Ends.seq ?_
                refine Wp.region ?_
                refine Ops.pv (pv_loadK [_, _, _, _, _, _] rfl rfl rfl ⟨rfl, rfl, rfl, rfl, rfl, rfl, trivial⟩) rfl ?_
                refine Ops.ef rfl (ef_storeK rfl rfl rfl rfl) ?_
                rintro _ _ ⟨rfl, rfl⟩
                refine Ops.nil ?_
                refine Ends.block_normal ?_
                refine Ends.seq ?_
                refine Wp.region ?_
                refine Ops.pv (pv_move rfl) rfl ?_
                first | refine Ops.pv (pv_add rfl rfl (w64 (by omega) (by omega))) rfl ?_ | refine Ops.pv (pv_add rfl rfl rfl) rfl ?_
                refine Ops.pv (pv_assign rfl) rfl ?_
                refine Ops.nil ?_
                refine Ends.goes ?_
                refine Goes.back (hK (i + 1, (S.get (c.object, (nxtV p (nxtL l c.bits) (S.radix c.object) : Int))).1, nxtL (nxtL l c.bits) (S.radix c.object), m) ⟨by dsimp only; omega, by dsimp only; omega, ?_, by dsimp only; omega⟩ (by dsimp only; omega)) ⟨rfl, rfl, rfl, rfl, rfl, rfl, trivial⟩
                rw [hres]; exact rl_g (dl_n (by omega) hg) (dl_n2 hr2) (by rintro (h | h) <;> omega)
      · refine Wp.exit ?_
        refine Ends.then_exit ?_
        refine Ends.then_exit ?_
        refine Ends.block_hit ?_
        refine Ends.seq ?_
        refine Wp.seq ?_
        refine Wp.region ?_
        refine Ops.pv (pv_build rfl) rfl ?_
        refine Ops.ef rfl (ef_storeK rfl rfl rfl rfl) ?_
        rintro _ _ ⟨rfl, rfl⟩
        refine Ops.pv (pv_assign rfl) rfl ?_
        refine Ops.pv (pv_assign rfl) rfl ?_
        refine Ops.nil ?_
        refine Ends.seq ?_
        refine Wp.ret ?_
        exfalso; omega

theorem tr_dfindA (qb : Nat) (L : Hp) (S : StoreM) (ld : List DN) (hR : Rel S ld) (hH : DstH ld qb L) (root : CapM) (p : Nat) (depth : Int) : TrR Try.prog 51 [.pointer (some ⟨qb, 0, none⟩), root.v, .int .u64 p, .int .i64 depth] (L) (.tuple #[slotV (findM S root p depth).1, .int .i64 (findM S root p depth).2]) := by
  refine Tr.enter Try.func51 rfl Try.ntmps51 rfl (fun W F => ?_)
  refine Wp.app ?_
  refine Wp.seq ?_
  refine Wp.region ?_
  refine Ops.ef rfl (ef_boxK rfl rfl) ?_
  rintro _ _ ⟨b1, rfl, rfl⟩
  refine Ops.ef rfl (ef_allocK tyZ31 rfl) ?_
  rintro _ _ ⟨b2, rfl, rfl⟩
  refine Ops.pv (pv_assign rfl) rfl ?_
  refine Ops.nil ?_
  refine Ends.seq ?_
  refine Wp.seq ?_
  refine Wp.region ?_
  refine Ops.pv (pv_move rfl) rfl ?_
  refine Ops.pv (pv_loadK [_, _, _, _, _, _] rfl rfl rfl ⟨rfl, rfl, rfl, rfl, rfl, rfl, trivial⟩) rfl ?_
  refine Ops.pv (pv_move rfl) rfl ?_
  refine Ops.pv (pv_move rfl) rfl ?_
  refine Ops.ef rfl (ef_callr (tr_dresolve qb L S ld hR hH root p depth) rfl rfl) ?_
  rintro _ _ ⟨rfl, rfl⟩
  refine Ops.pv (pv_move rfl) rfl ?_
  refine Ops.pv (pv_extract rfl rfl) rfl ?_
  refine Ops.pv (pv_extract rfl rfl) rfl ?_
  refine Ops.pv (pv_extract rfl rfl) rfl ?_
  refine Ops.ef rfl (ef_allocK tyZ31 rfl) ?_
  rintro _ _ ⟨b3, rfl, rfl⟩
  refine Ops.ef rfl (ef_storeK rfl rfl rfl rfl) ?_
  rintro _ _ ⟨rfl, rfl⟩
  refine Ops.pv (pv_assign rfl) rfl ?_
  refine Ops.pv (pv_assign rfl) rfl ?_
  refine Ops.nil ?_
  refine Ends.seq ?_
  refine Wp.seq ?_
  refine Wp.block ?_
  refine Wp.seq ?_
  refine Wp.region ?_
  refine Ops.pv (pv_move rfl) rfl ?_
  refine Ops.pv (pv_neq rfl rfl) rfl ?_
  refine Ops.pv (pv_assign rfl) rfl ?_
  refine Ops.nil ?_
  refine Ends.seq ?_
  first | refine Wp.cond_dect rfl (fun h1 => ?_) (fun h1 => ?_) | refine Wp.cond_t rfl (fun h1 => ?_) (fun h1 => ?_)
  · refine Wp.seq ?_
    refine Wp.region ?_
    refine Ops.pv (pv_build rfl) rfl ?_
    refine Ops.pv (pv_move rfl) rfl ?_
    refine Ops.ef rfl (ef_storeK rfl rfl rfl rfl) ?_
    rintro _ _ ⟨rfl, rfl⟩
    refine Ops.pv (pv_assign rfl) rfl ?_
    refine Ops.nil ?_
    refine Ends.seq ?_
    refine Wp.ret ?_
    refine Ends.block_ret ?_
    refine Ends.then_ret ?_
    exact Ends.ret (res_list (rs := [.cell 8 31, .tmp 9]) rfl ⟨_, _, rfl, rv_cellK [_, _] rfl rfl rfl ⟨rfl, rfl, trivial⟩, ⟨_, _, rfl, rv_tmp rfl, rfl⟩⟩ rfl) ⟨by rw [findM, if_pos (by assumption)], rfl⟩
  · refine Wp.seq ?_
    refine Wp.region ?_
    refine Ops.pv (pv_move rfl) rfl ?_
    refine Ops.pv (pv_gtr rfl rfl) rfl ?_
    refine Ops.pv (pv_assign rfl) rfl ?_
    refine Ops.nil ?_
    refine Ends.seq ?_
    first | refine Wp.cond_dect rfl (fun h2 => ?_) (fun h2 => ?_) | refine Wp.cond_t rfl (fun h2 => ?_) (fun h2 => ?_)
    · refine Wp.seq ?_
      refine Wp.region ?_
      refine Ops.pv (pv_build rfl) rfl ?_
      refine Ops.ef rfl (ef_storeK rfl rfl rfl rfl) ?_
      rintro _ _ ⟨rfl, rfl⟩
      refine Ops.pv (pv_assign rfl) rfl ?_
      refine Ops.nil ?_
      refine Ends.seq ?_
      refine Wp.ret ?_
      refine Ends.block_ret ?_
      refine Ends.then_ret ?_
      exact Ends.ret (res_list (rs := [.cell 8 31, .tmp 9]) rfl ⟨_, _, rfl, rv_cellK [_, _] rfl rfl rfl ⟨rfl, rfl, trivial⟩, ⟨_, _, rfl, rv_tmp rfl, rfl⟩⟩ rfl) ⟨by rw [findM, if_neg (by assumption), if_pos (by omega)], rfl⟩
    · refine Wp.skip ?_
      refine Ends.block_normal ?_
      refine Ends.seq ?_
      refine Wp.seq ?_
      refine Wp.region ?_
      refine Ops.pv (pv_loadK [_, _] rfl rfl rfl ⟨rfl, rfl, trivial⟩) rfl ?_
      refine Ops.ef rfl (ef_storeK rfl rfl rfl rfl) ?_
      rintro _ _ ⟨rfl, rfl⟩
      refine Ops.pv (pv_assign rfl) rfl ?_
      refine Ops.nil ?_
      refine Ends.seq ?_
      refine Wp.ret ?_
      exact Ends.ret (res_list (rs := [.cell 8 31, .tmp 9]) rfl ⟨_, _, rfl, rv_cellK [_, _] rfl rfl rfl ⟨rfl, rfl, trivial⟩, ⟨_, _, rfl, rv_tmp rfl, rfl⟩⟩ rfl) ⟨by rw [findM, if_neg (by assumption), if_neg (by omega)], rfl⟩

theorem tr_dcap (qb : Nat) (L : Hp) (S : StoreM) (ld : List DN) (hR : Rel S ld) (hH : DstH ld qb L) (root : CapM) (p : Nat) : TrR Try.prog 53 [.pointer (some ⟨qb, 0, none⟩), root.v, .int .u64 p] (L) (.tuple #[slotV (capM S root p).1, (capM S root p).2.1.v, .int .i64 (capM S root p).2.2]) := by
  refine Tr.enter Try.func53 rfl Try.ntmps53 rfl (fun W F => ?_)
  refine Wp.app ?_
  refine Wp.seq ?_
  refine Wp.region ?_
  refine Ops.ef rfl (ef_boxK rfl rfl) ?_
  rintro _ _ ⟨b1, rfl, rfl⟩
  refine Ops.ef rfl (ef_allocK tyZ31 rfl) ?_
  rintro _ _ ⟨b2, rfl, rfl⟩
  refine Ops.ef rfl (ef_allocK tyZ29 rfl) ?_
  rintro _ _ ⟨b3, rfl, rfl⟩
  refine Ops.pv (pv_assign rfl) rfl ?_
  refine Ops.nil ?_
  refine Ends.seq ?_
  refine Wp.seq ?_
  refine Wp.region ?_
  refine Ops.pv (pv_move rfl) rfl ?_
  refine Ops.pv (pv_loadK [_, _, _, _, _, _] rfl rfl rfl ⟨rfl, rfl, rfl, rfl, rfl, rfl, trivial⟩) rfl ?_
  refine Ops.pv (pv_move rfl) rfl ?_
  refine Ops.ef rfl (ef_callr (tr_dresolve qb L S ld hR hH root p 16) rfl rfl) ?_
  rintro _ _ ⟨rfl, rfl⟩
  refine Ops.pv (pv_move rfl) rfl ?_
  refine Ops.pv (pv_extract rfl rfl) rfl ?_
  refine Ops.pv (pv_extract rfl rfl) rfl ?_
  refine Ops.pv (pv_extract rfl rfl) rfl ?_
  refine Ops.ef rfl (ef_allocK tyZ31 rfl) ?_
  rintro _ _ ⟨b4, rfl, rfl⟩
  refine Ops.ef rfl (ef_storeK rfl rfl rfl rfl) ?_
  rintro _ _ ⟨rfl, rfl⟩
  refine Ops.pv (pv_assign rfl) rfl ?_
  refine Ops.pv (pv_assign rfl) rfl ?_
  refine Ops.nil ?_
  refine Ends.seq ?_
  refine Wp.seq ?_
  refine Wp.seq ?_
  refine Wp.region ?_
  refine Ops.pv (pv_move rfl) rfl ?_
  refine Ops.pv (pv_neq rfl rfl) rfl ?_
  refine Ops.nil ?_
  refine Ends.seq ?_
  first | refine Wp.cond_dect rfl (fun h1 => ?_) (fun h1 => ?_) | refine Wp.cond_t rfl (fun h1 => ?_) (fun h1 => ?_)
  · refine Wp.seq ?_
    refine Wp.region ?_
    refine Ops.pv (pv_build rfl) rfl ?_
    refine Ops.pv (pv_build rfl) rfl ?_
    refine Ops.pv (pv_move rfl) rfl ?_
    refine Ops.ef rfl (ef_storeK rfl rfl rfl rfl) ?_
    rintro _ _ ⟨rfl, rfl⟩
    refine Ops.ef rfl (ef_storeK rfl rfl rfl rfl) ?_
    rintro _ _ ⟨rfl, rfl⟩
    refine Ops.pv (pv_assign rfl) rfl ?_
    refine Ops.nil ?_
    refine Ends.seq ?_
    refine Wp.ret ?_
    refine Ends.then_ret ?_
    exact Ends.ret (res_list (rs := [.cell 6 31, .cell 7 29, .tmp 8]) rfl ⟨_, _, rfl, rv_cellK [_, _] rfl rfl rfl ⟨rfl, rfl, trivial⟩, ⟨_, _, rfl, rv_cellK [_, _, _, _, _, _] rfl rfl rfl ⟨rfl, rfl, rfl, rfl, rfl, rfl, trivial⟩, ⟨_, _, rfl, rv_tmp rfl, rfl⟩⟩⟩ rfl) ⟨by rw [capM, if_pos (by assumption)], rfl⟩
  · refine Wp.skip ?_
    refine Ends.seq ?_
    refine Wp.seq ?_
    refine Wp.region ?_
    refine Ops.pv (pv_move rfl) rfl ?_
    refine Ops.pv (pv_loadK [_, _] rfl rfl rfl ⟨rfl, rfl, trivial⟩) rfl ?_
    refine Ops.ef rfl (ef_callr (td_get hR hH (resolveM S root p 16).1) rfl rfl) ?_
    rintro _ _ ⟨rfl, rfl⟩
    refine Ops.pv (pv_move rfl) rfl ?_
    refine Ops.pv (pv_extract rfl rfl) rfl ?_
    refine Ops.pv (pv_extract rfl rfl) rfl ?_
    refine Ops.ef rfl (ef_allocK tyZ29 rfl) ?_
    rintro _ _ ⟨b5, rfl, rfl⟩
    refine Ops.ef rfl (ef_storeK rfl rfl rfl rfl) ?_
    rintro _ _ ⟨rfl, rfl⟩
    refine Ops.pv (pv_assign rfl) rfl ?_
    refine Ops.nil ?_
    refine Ends.seq ?_
    refine Wp.seq ?_
    refine Wp.seq ?_
    refine Wp.region ?_
    first | refine Ops.pv (pv_fieldAddr0 rfl rfl) rfl ?_ | refine Ops.pv (pv_fieldAddr rfl rfl) rfl ?_
    first | refine Ops.pv (pv_load rfl rfl rfl) rfl ?_ | refine Ops.pv (pv_load rfl rfl (by assumption)) rfl ?_
    refine Ops.pv (pv_eql rfl rfl) rfl ?_
    refine Ops.nil ?_
    refine Ends.seq ?_
    first | refine Wp.cond_dect rfl (fun h2 => ?_) (fun h2 => ?_) | refine Wp.cond_t rfl (fun h2 => ?_) (fun h2 => ?_)
    · refine Wp.seq ?_
      refine Wp.region ?_
      refine Ops.pv (pv_build rfl) rfl ?_
      refine Ops.pv (pv_build rfl) rfl ?_
      refine Ops.ef rfl (ef_storeK rfl rfl rfl rfl) ?_
      rintro _ _ ⟨rfl, rfl⟩
      refine Ops.ef rfl (ef_storeK rfl rfl rfl rfl) ?_
      rintro _ _ ⟨rfl, rfl⟩
      refine Ops.pv (pv_assign rfl) rfl ?_
      refine Ops.nil ?_
      refine Ends.seq ?_
      refine Wp.ret ?_
      refine Ends.then_ret ?_
      exact Ends.ret (res_list (rs := [.cell 6 31, .cell 7 29, .tmp 8]) rfl ⟨_, _, rfl, rv_cellK [_, _] rfl rfl rfl ⟨rfl, rfl, trivial⟩, ⟨_, _, rfl, rv_cellK [_, _, _, _, _, _] rfl rfl rfl ⟨rfl, rfl, rfl, rfl, rfl, rfl, trivial⟩, ⟨_, _, rfl, rv_tmp rfl, rfl⟩⟩⟩ rfl) ⟨by rw [capM, if_neg (by assumption), if_pos (by assumption)], rfl⟩
    · refine Wp.skip ?_
      refine Ends.seq ?_
      refine Wp.seq ?_
      refine AnyH.start ((b4, .cells [.int .i64 (resolveM S root p 16).1.1, .int .i64 (resolveM S root p 16).1.2].toArray 31) :: (b5, .cells (S.get (resolveM S root p 16).1).1.cells.toArray 29) :: []) 5 rfl ?_
      refine AnyH.take 0 rfl (by kernel_rfl) (by kernel_rfl) (by kernel_rfl) PF.pf rfl (pv_loadK [_, _] rfl rfl rfl ⟨rfl, rfl, trivial⟩) rfl ?_
      refine AnyH.take 1 rfl (by kernel_rfl) (by kernel_rfl) (by kernel_rfl) PF.pf rfl (pv_loadK [_, _, _, _, _, _] rfl rfl rfl ⟨rfl, rfl, rfl, rfl, rfl, rfl, trivial⟩) rfl ?_
      refine AnyH.one 2 (by kernel_rfl) ?_
      refine Turn.ef rfl rfl (ef_storeK rfl rfl rfl rfl) ?_ ?_
      · rintro _ _ ⟨rfl, rfl⟩; infer_instance
      rintro _ _ ⟨rfl, rfl⟩
      refine AnyH.one 3 (by kernel_rfl) ?_
      refine Turn.ef rfl rfl (ef_storeK rfl rfl rfl rfl) ?_ ?_
      · rintro _ _ ⟨rfl, rfl⟩; infer_instance
      rintro _ _ ⟨rfl, rfl⟩
      refine AnyH.take 4 rfl (by kernel_rfl) (by kernel_rfl) (by kernel_rfl) PF.pf rfl (pv_assign rfl) rfl ?_
      refine AnyH.done (by kernel_rfl) ?_
      refine Ends.seq ?_
      refine Wp.ret ?_
      exact Ends.ret (res_list (rs := [.cell 6 31, .cell 7 29, .tmp 8]) rfl ⟨_, _, rfl, rv_cellK [_, _] rfl rfl rfl ⟨rfl, rfl, trivial⟩, ⟨_, _, rfl, rv_cellK [_, _, _, _, _, _] rfl rfl rfl ⟨rfl, rfl, rfl, rfl, rfl, rfl, trivial⟩, ⟨_, _, rfl, rv_tmp rfl, rfl⟩⟩⟩ rfl) ⟨by rw [capM, if_neg (by assumption), if_neg (by assumption)], rfl⟩

theorem tr_cap (sb : Nat) (S : StoreM) (root : CapM) (p : Nat) (hw : S.Wf) (hp : p < 2 ^ 64) : TrR Try.prog 52 [.pointer (some ⟨sb, 0, none⟩), root.v, .int .u64 p] (storeHp sb S) (.tuple #[slotV (capM S root p).1, (capM S root p).2.1.v, .int .i64 (capM S root p).2.2]) := by
  refine Tr.enter Try.func52 rfl Try.ntmps52 rfl (fun W F => ?_)
  refine Wp.app ?_
  refine Wp.seq ?_
  refine Wp.region ?_
  refine Ops.ef rfl (ef_boxK rfl rfl) ?_
  rintro _ _ ⟨b1, rfl, rfl⟩
  refine Ops.ef rfl (ef_allocK tyZ31 rfl) ?_
  rintro _ _ ⟨b2, rfl, rfl⟩
  refine Ops.ef rfl (ef_allocK tyZ29 rfl) ?_
  rintro _ _ ⟨b3, rfl, rfl⟩
  refine Ops.pv (pv_assign rfl) rfl ?_
  refine Ops.nil ?_
  refine Ends.seq ?_
  refine Wp.seq ?_
  refine Wp.region ?_
  refine Ops.pv (pv_move rfl) rfl ?_
  refine Ops.pv (pv_loadK [_, _, _, _, _, _] rfl rfl rfl ⟨rfl, rfl, rfl, rfl, rfl, rfl, trivial⟩) rfl ?_
  refine Ops.pv (pv_move rfl) rfl ?_
  refine Ops.ef rfl (ef_callr (tr_resolve sb S root p 16 hw hp) rfl rfl) ?_
  rintro _ _ ⟨rfl, rfl⟩
  refine Ops.pv (pv_move rfl) rfl ?_
  refine Ops.pv (pv_extract rfl rfl) rfl ?_
  refine Ops.pv (pv_extract rfl rfl) rfl ?_
  refine Ops.pv (pv_extract rfl rfl) rfl ?_
  refine Ops.ef rfl (ef_allocK tyZ31 rfl) ?_
  rintro _ _ ⟨b4, rfl, rfl⟩
  refine Ops.ef rfl (ef_storeK rfl rfl rfl rfl) ?_
  rintro _ _ ⟨rfl, rfl⟩
  refine Ops.pv (pv_assign rfl) rfl ?_
  refine Ops.pv (pv_assign rfl) rfl ?_
  refine Ops.nil ?_
  refine Ends.seq ?_
  refine Wp.seq ?_
  refine Wp.seq ?_
  refine Wp.region ?_
  refine Ops.pv (pv_move rfl) rfl ?_
  refine Ops.pv (pv_neq rfl rfl) rfl ?_
  refine Ops.nil ?_
  refine Ends.seq ?_
  first | refine Wp.cond_dect rfl (fun h1 => ?_) (fun h1 => ?_) | refine Wp.cond_t rfl (fun h1 => ?_) (fun h1 => ?_)
  · refine Wp.seq ?_
    refine Wp.region ?_
    refine Ops.pv (pv_build rfl) rfl ?_
    refine Ops.pv (pv_build rfl) rfl ?_
    refine Ops.pv (pv_move rfl) rfl ?_
    refine Ops.ef rfl (ef_storeK rfl rfl rfl rfl) ?_
    rintro _ _ ⟨rfl, rfl⟩
    refine Ops.ef rfl (ef_storeK rfl rfl rfl rfl) ?_
    rintro _ _ ⟨rfl, rfl⟩
    refine Ops.pv (pv_assign rfl) rfl ?_
    refine Ops.nil ?_
    refine Ends.seq ?_
    refine Wp.ret ?_
    refine Ends.then_ret ?_
    exact Ends.ret (res_list (rs := [.cell 6 31, .cell 7 29, .tmp 8]) rfl ⟨_, _, rfl, rv_cellK [_, _] rfl rfl rfl ⟨rfl, rfl, trivial⟩, ⟨_, _, rfl, rv_cellK [_, _, _, _, _, _] rfl rfl rfl ⟨rfl, rfl, rfl, rfl, rfl, rfl, trivial⟩, ⟨_, _, rfl, rv_tmp rfl, rfl⟩⟩⟩ rfl) ⟨by rw [capM, if_pos (by assumption)], rfl⟩
  · refine Wp.skip ?_
    refine Ends.seq ?_
    refine Wp.seq ?_
    refine Wp.region ?_
    refine Ops.pv (pv_move rfl) rfl ?_
    refine Ops.pv (pv_loadK [_, _] rfl rfl rfl ⟨rfl, rfl, trivial⟩) rfl ?_
    refine Ops.ef rfl (ef_callr (tr_get sb S (resolveM S root p 16).1 hw) rfl rfl) ?_
    rintro _ _ ⟨rfl, rfl⟩
    refine Ops.pv (pv_move rfl) rfl ?_
    refine Ops.pv (pv_extract rfl rfl) rfl ?_
    refine Ops.pv (pv_extract rfl rfl) rfl ?_
    refine Ops.ef rfl (ef_allocK tyZ29 rfl) ?_
    rintro _ _ ⟨b5, rfl, rfl⟩
    refine Ops.ef rfl (ef_storeK rfl rfl rfl rfl) ?_
    rintro _ _ ⟨rfl, rfl⟩
    refine Ops.pv (pv_assign rfl) rfl ?_
    refine Ops.nil ?_
    refine Ends.seq ?_
    refine Wp.seq ?_
    refine Wp.seq ?_
    refine Wp.region ?_
    first | refine Ops.pv (pv_fieldAddr0 rfl rfl) rfl ?_ | refine Ops.pv (pv_fieldAddr rfl rfl) rfl ?_
    first | refine Ops.pv (pv_load rfl rfl rfl) rfl ?_ | refine Ops.pv (pv_load rfl rfl (by assumption)) rfl ?_
    refine Ops.pv (pv_eql rfl rfl) rfl ?_
    refine Ops.nil ?_
    refine Ends.seq ?_
    first | refine Wp.cond_dect rfl (fun h2 => ?_) (fun h2 => ?_) | refine Wp.cond_t rfl (fun h2 => ?_) (fun h2 => ?_)
    · refine Wp.seq ?_
      refine Wp.region ?_
      refine Ops.pv (pv_build rfl) rfl ?_
      refine Ops.pv (pv_build rfl) rfl ?_
      refine Ops.ef rfl (ef_storeK rfl rfl rfl rfl) ?_
      rintro _ _ ⟨rfl, rfl⟩
      refine Ops.ef rfl (ef_storeK rfl rfl rfl rfl) ?_
      rintro _ _ ⟨rfl, rfl⟩
      refine Ops.pv (pv_assign rfl) rfl ?_
      refine Ops.nil ?_
      refine Ends.seq ?_
      refine Wp.ret ?_
      refine Ends.then_ret ?_
      exact Ends.ret (res_list (rs := [.cell 6 31, .cell 7 29, .tmp 8]) rfl ⟨_, _, rfl, rv_cellK [_, _] rfl rfl rfl ⟨rfl, rfl, trivial⟩, ⟨_, _, rfl, rv_cellK [_, _, _, _, _, _] rfl rfl rfl ⟨rfl, rfl, rfl, rfl, rfl, rfl, trivial⟩, ⟨_, _, rfl, rv_tmp rfl, rfl⟩⟩⟩ rfl) ⟨by rw [capM, if_neg (by assumption), if_pos (by assumption)], rfl⟩
    · refine Wp.skip ?_
      refine Ends.seq ?_
      refine Wp.seq ?_
      refine AnyH.start ((b4, .cells [.int .i64 (resolveM S root p 16).1.1, .int .i64 (resolveM S root p 16).1.2].toArray 31) :: (b5, .cells (S.get (resolveM S root p 16).1).1.cells.toArray 29) :: []) 5 rfl ?_
      refine AnyH.take 0 rfl (by kernel_rfl) (by kernel_rfl) (by kernel_rfl) PF.pf rfl (pv_loadK [_, _] rfl rfl rfl ⟨rfl, rfl, trivial⟩) rfl ?_
      refine AnyH.take 1 rfl (by kernel_rfl) (by kernel_rfl) (by kernel_rfl) PF.pf rfl (pv_loadK [_, _, _, _, _, _] rfl rfl rfl ⟨rfl, rfl, rfl, rfl, rfl, rfl, trivial⟩) rfl ?_
      refine AnyH.one 2 (by kernel_rfl) ?_
      refine Turn.ef rfl rfl (ef_storeK rfl rfl rfl rfl) ?_ ?_
      · rintro _ _ ⟨rfl, rfl⟩; infer_instance
      rintro _ _ ⟨rfl, rfl⟩
      refine AnyH.one 3 (by kernel_rfl) ?_
      refine Turn.ef rfl rfl (ef_storeK rfl rfl rfl rfl) ?_ ?_
      · rintro _ _ ⟨rfl, rfl⟩; infer_instance
      rintro _ _ ⟨rfl, rfl⟩
      refine AnyH.take 4 rfl (by kernel_rfl) (by kernel_rfl) (by kernel_rfl) PF.pf rfl (pv_assign rfl) rfl ?_
      refine AnyH.done (by kernel_rfl) ?_
      refine Ends.seq ?_
      refine Wp.ret ?_
      exact Ends.ret (res_list (rs := [.cell 6 31, .cell 7 29, .tmp 8]) rfl ⟨_, _, rfl, rv_cellK [_, _] rfl rfl rfl ⟨rfl, rfl, trivial⟩, ⟨_, _, rfl, rv_cellK [_, _, _, _, _, _] rfl rfl rfl ⟨rfl, rfl, rfl, rfl, rfl, rfl, trivial⟩, ⟨_, _, rfl, rv_tmp rfl, rfl⟩⟩⟩ rfl) ⟨by rw [capM, if_neg (by assumption), if_neg (by assumption)], rfl⟩

set_option maxHeartbeats 2000000 in
theorem tr_made (G : Hp) (ar : Option Addr) (cr : Nat) (lr : List Int) (har : ArgS G 1 ar (lr.map (fun x => [.int .i64 x]))) (hlr : lr.length ≤ maxLen) (ap : Option Addr) (cp : Nat) (lp : List PutM) (hap : ArgS G 8 ap (lp.map PutM.cells)) (hrg : ∀ o, o ∈ lp → o.c.Rg) (hlp : lp.length ≤ maxLen) : Tr Try.prog 49 [.slice ar lr.length cr, .slice ap lp.length cp] (G) (fun v L' => ∃ sb S qb ld Hq, v = .tuple #[.pointer (some ⟨sb, 0, none⟩), .pointer (some ⟨qb, 0, none⟩), .bool true] ∧ Rel S ld ∧ DstH ld qb Hq ∧ L' = storeHp sb S ++ (Hq ++ G)) := by
  refine Tr.enter Try.func49 rfl Try.ntmps49 rfl (fun W F => ?_)
  refine Wp.app ?_
  refine Wp.seq ?_
  refine Wp.region ?_
  refine Ops.pv (pv_assign rfl) rfl ?_
  refine Ops.pv (pv_assign rfl) rfl ?_
  refine Ops.pv (pv_assign rfl) rfl ?_
  refine Ops.nil ?_
  refine Ends.seq ?_
  refine Wp.seq ?_
  refine Wp.region ?_
  refine Ops.ef rfl (ef_call (tr_slotsNew) rfl rfl) ?_
  rintro _ _ ⟨_, _, ⟨sb1, S1, rfl, rfl, hS1⟩, rfl, rfl⟩
  refine Ops.app ?_
  refine Ops.pv (pv_build rfl) rfl ?_
  refine Ops.ef rfl (ef_boxK rfl rfl) ?_
  rintro _ _ ⟨b1, rfl, rfl⟩
  refine Ops.pv (pv_assign rfl) rfl ?_
  refine Ops.pv (pv_assign rfl) rfl ?_
  refine Ops.nil ?_
  refine Ends.seq ?_
  refine Wp.seq ?_
  refine Wp.seq ?_
  refine Wp.region ?_
  refine Ops.pv (pv_move rfl) rfl ?_
  refine Ops.pv (pv_eql_nil rfl rfl) rfl ?_
  refine Ops.nil ?_
  refine Ends.seq ?_
  refine Wp.cond_false rfl ?_
  refine Wp.skip ?_
  refine Ends.seq ?_
  refine Wp.seq ?_
  refine Wp.seq ?_
  refine Wp.region ?_
  refine Ops.pv (pv_assign rfl) rfl ?_
  refine Ops.nil ?_
  refine Ends.seq ?_
  refine Wp.block ?_
  refine Wp.loopK (σ := Nat × StoreM × List DN × Hp) [(0, _), (1, _), (7, _), (8, _)] (fun s => [(9, .int .i64 s.1)]) (fun s => storeHp sb1 s.2.1 ++ (s.2.2.2 ++ (G ++ F))) (fun s => Rel s.2.1 s.2.2.1 ∧ DstH s.2.2.1 b1 s.2.2.2 ∧ s.1 ≤ 4) (fun s => 4 - s.1) (0, S1, [], [(b1, .cells [.slice none 0 0].toArray 71)]) ⟨rel_new hS1, ⟨_, [], Slc.nil _ _, rfl⟩, Nat.zero_le _⟩ ⟨rfl, rfl, rfl, rfl, trivial⟩ ⟨rfl, trivial⟩ (by intro w ho; (try dsimp only [List.nil_append, List.cons_append]); exact Drop.own ho) ?_
  rintro ⟨i, S, ld, Hq⟩ KK ⟨hR, hH, hi⟩ hK
  dsimp only [List.cons_append, List.nil_append] at hK ⊢
  dsimp only at hR hH hi ⊢
  refine Wp.seq ?_
  refine Wp.seq ?_
  refine Wp.region ?_
  refine Ops.pv (pv_move rfl) rfl ?_
  refine Ops.pv (pv_lss rfl rfl) rfl ?_
  refine Ops.nil ?_
  refine Ends.seq ?_
  first | refine Wp.cond_dect rfl (fun h1 => ?_) (fun h1 => ?_) | refine Wp.cond_t rfl (fun h1 => ?_) (fun h1 => ?_)
  · refine Wp.skip ?_
    refine Ends.seq ?_
    refine Wp.seq ?_
    refine Wp.block ?_
    refine Wp.seq ?_
    refine Wp.region ?_
    refine Ops.pv (pv_assign rfl) rfl ?_
    refine Ops.nil ?_
    refine Ends.seq ?_
    refine Wp.seq ?_
    refine Wp.seq ?_
    refine Wp.region ?_
    refine Ops.pv (pv_move rfl) rfl ?_
    refine Ops.pv (pv_move rfl) rfl ?_
    refine Ops.pv (pv_len_slice (T := 82) rfl rfl) rfl ?_
    refine Ops.pv (pv_lss rfl rfl) rfl ?_
    refine Ops.nil ?_
    refine Ends.seq ?_
    first | refine Wp.cond_dect rfl (fun h2 => ?_) (fun h2 => ?_) | refine Wp.cond_t rfl (fun h2 => ?_) (fun h2 => ?_)
    · obtain ⟨y, hqy⟩ : ∃ y, lr[i]? = some y := ⟨_, List.getElem?_eq_getElem (by omega)⟩
      obtain ⟨_, b, o, cc, T, f, rfl, hmm, hr⟩ := har i [.int .i64 y] (by rw [List.getElem?_map, hqy]; rfl)
      have hbg : Blk G b (.cells cc.toArray T f) := ⟨hmm⟩
      have hk4 : uI y % 4 < 4 := Nat.mod_lt _ (by omega)
      refine Wp.region ?_
      refine Ops.pv (pv_move rfl) rfl ?_
      refine Ops.pv (pv_move rfl) rfl ?_
      refine Ops.pv (pv_indexAddr (i := i) rfl rfl rfl (by omega)) rfl ?_
      refine Ops.pv (pv_load rfl rfl hr.1) rfl ?_
      refine Ops.pv (pv_conv rfl (uI_eq y)) rfl ?_
      refine Ops.pv (pv_rem rfl rfl (by decide) (tmod_nat (b := 4) rfl)) rfl ?_
      refine Ops.pv (pv_conv rfl (w64n (k := uI y % 4) rfl (by omega))) rfl ?_
      refine Ops.pv (pv_add rfl rfl (w64n (k := 1 + uI y % 4) (by omega) (by omega))) rfl ?_
      refine Ops.pv (pv_assign rfl) rfl ?_
      refine Ops.nil ?_
      refine Ends.seq ?_
      refine Wp.seq ?_
      refine Wp.region ?_
      refine Ops.pv (pv_move rfl) rfl ?_
      refine Ops.pv (pv_move rfl) rfl ?_
      refine Ops.pv (pv_move rfl) rfl ?_
      refine Ops.ef rfl (ef_call (tr_addS sb1 S (i : Int) ((1 + uI y % 4 : Nat) : Int)) rfl rfl) ?_
      rintro _ _ ⟨_, _, ⟨rfl, S2, hA, rfl⟩, rfl, rfl⟩
      refine Ops.app ?_
      refine Ops.pv (pv_move rfl) rfl ?_
      refine Ops.pv (pv_move rfl) rfl ?_
      refine Ops.pv (pv_move rfl) rfl ?_
      refine Ops.ef rfl (ef_call (td_add hR hH (i : Int) ((1 + uI y % 4 : Nat) : Int) hA) rfl rfl) ?_
      rintro _ _ ⟨_, Q1, ⟨rfl, l2, hR2, hH2⟩, rfl, rfl⟩
      refine Ops.app ?_
      skip
      refine Ops.pv ((pv_neq rfl rfl).fls (fun h => h rfl)) rfl ?_
      refine Ops.nil ?_
      refine Ends.seq ?_
      refine Wp.cond_false rfl ?_
      refine Wp.skip ?_
      refine Ends.block_normal ?_
      refine Ends.seq ?_
      refine Wp.region ?_
      refine Ops.pv (pv_move rfl) rfl ?_
      first | refine Ops.pv (pv_add rfl rfl (w64 (by omega) (by omega))) rfl ?_ | refine Ops.pv (pv_add rfl rfl rfl) rfl ?_
      refine Ops.pv (pv_assign rfl) rfl ?_
      refine Ops.nil ?_
      refine Ends.goes ?_
      refine Goes.back (hK (i + 1, S2, l2, Q1) ⟨hR2, hH2, by dsimp only; omega⟩ (by dsimp only; omega)) ⟨rfl, rfl, rfl, rfl, rfl, trivial⟩
    · refine Wp.skip ?_
      refine Ends.seq ?_
      refine Wp.seq ?_
      refine Wp.region ?_
      refine Ops.pv (pv_move rfl) rfl ?_
      refine Ops.pv (pv_move rfl) rfl ?_
      refine Ops.pv (pv_move rfl) rfl ?_
      refine Ops.ef rfl (ef_call (tr_addS sb1 S (i : Int) 2) rfl rfl) ?_
      rintro _ _ ⟨_, _, ⟨rfl, S2, hA, rfl⟩, rfl, rfl⟩
      refine Ops.app ?_
      refine Ops.pv (pv_move rfl) rfl ?_
      refine Ops.pv (pv_move rfl) rfl ?_
      refine Ops.pv (pv_move rfl) rfl ?_
      refine Ops.ef rfl (ef_call (td_add hR hH (i : Int) 2 hA) rfl rfl) ?_
      rintro _ _ ⟨_, Q2, ⟨rfl, l2, hR2, hH2⟩, rfl, rfl⟩
      refine Ops.app ?_
      skip
      refine Ops.pv ((pv_neq rfl rfl).fls (fun h => h rfl)) rfl ?_
      refine Ops.nil ?_
      refine Ends.seq ?_
      refine Wp.cond_false rfl ?_
      refine Wp.skip ?_
      refine Ends.block_normal ?_
      refine Ends.seq ?_
      refine Wp.region ?_
      refine Ops.pv (pv_move rfl) rfl ?_
      first | refine Ops.pv (pv_add rfl rfl (w64 (by omega) (by omega))) rfl ?_ | refine Ops.pv (pv_add rfl rfl rfl) rfl ?_
      refine Ops.pv (pv_assign rfl) rfl ?_
      refine Ops.nil ?_
      refine Ends.goes ?_
      refine Goes.back (hK (i + 1, S2, l2, Q2) ⟨hR2, hH2, by dsimp only; omega⟩ (by dsimp only; omega)) ⟨rfl, rfl, rfl, rfl, rfl, trivial⟩
  · refine Wp.exit ?_
    refine Ends.then_exit ?_
    refine Ends.then_exit ?_
    refine Ends.block_hit ?_
    refine Ends.seq ?_
    refine Wp.seq ?_
    refine Wp.seq ?_
    refine Wp.region ?_
    refine Ops.pv (pv_assign rfl) rfl ?_
    refine Ops.nil ?_
    refine Ends.seq ?_
    refine Wp.block ?_
    refine Wp.loopK (σ := Nat × StoreM × List DN × Hp) [(1, _), (7, _), (8, _)] (fun s => [(11, .int .i64 s.1)]) (fun s => storeHp sb1 s.2.1 ++ (s.2.2.2 ++ (G ++ F))) (fun s => Rel s.2.1 s.2.2.1 ∧ DstH s.2.2.1 b1 s.2.2.2) (fun s => lp.length - s.1) (0, S, ld, Hq) ⟨hR, hH⟩ ⟨rfl, rfl, rfl, trivial⟩ ⟨rfl, trivial⟩ (by intro w ho; (try dsimp only [List.nil_append, List.cons_append]); exact Drop.own ho) ?_
    rintro ⟨i, S, ld, Hq⟩ KK ⟨hR, hH⟩ hK
    dsimp only [List.cons_append, List.nil_append] at hK ⊢
    dsimp only at hR hH ⊢
    refine Wp.seq ?_
    refine Wp.seq ?_
    refine Wp.region ?_
    refine Ops.pv (pv_move rfl) rfl ?_
    refine Ops.pv (pv_move rfl) rfl ?_
    refine Ops.pv (pv_len_slice (T := 83) rfl rfl) rfl ?_
    refine Ops.pv (pv_lss rfl rfl) rfl ?_
    refine Ops.pv (pv_move rfl) rfl ?_
    refine Ops.pvc rfl rfl (fun hg => pv_move rfl) rfl ?_
    refine Ops.pvc rfl rfl (fun hg => Pv.setE (t := 51) rfl (cv_pos hg) (pv_lss rfl rfl)) rfl ?_
    refine Ops.pv (pv_pick_and rfl rfl) rfl ?_
    refine Ops.nil ?_
    refine Ends.seq ?_
    first | refine Wp.cond_dect rfl (fun h3 => ?_) (fun h3 => ?_) | refine Wp.cond_t rfl (fun h3 => ?_) (fun h3 => ?_)
    · obtain ⟨x, hq⟩ : ∃ x, lp[i]? = some x := ⟨_, List.getElem?_eq_getElem (by omega)⟩
      obtain ⟨_, b, o, cc, T, f, rfl, hmm, hr⟩ := hap i x.cells (by rw [List.getElem?_map, hq]; rfl)
      have hbg : Blk G b (.cells cc.toArray T f) := ⟨hmm⟩
      have hxr := hrg x (List.mem_of_getElem? hq)
      obtain ⟨r0, r1, r2, r3, r4, r5, r6, r7, _⟩ := hr
      refine Wp.skip ?_
      refine Ends.seq ?_
      refine Wp.seq ?_
      refine Wp.block ?_
      refine Wp.seq ?_
      refine AnyH.start G 25 rfl ?_
      refine AnyH.take 0 rfl (by kernel_rfl) (by kernel_rfl) (by kernel_rfl) PF.pf rfl (pv_move rfl) rfl ?_
      refine AnyH.take 1 rfl (by kernel_rfl) (by kernel_rfl) (by kernel_rfl) PF.pf rfl (pv_move rfl) rfl ?_
      refine AnyH.take 2 rfl (by kernel_rfl) (by kernel_rfl) (by kernel_rfl) PF.pf rfl (pv_move rfl) rfl ?_
      refine AnyH.take 3 rfl (by kernel_rfl) (by kernel_rfl) (by kernel_rfl) PF.pf rfl (pv_indexAddr (i := i) rfl rfl rfl (by omega)) rfl ?_
      first | refine AnyH.take 4 rfl (by kernel_rfl) (by kernel_rfl) (by kernel_rfl) PF.pf rfl (pv_fieldAddr0 rfl rfl) rfl ?_ | refine AnyH.take 4 rfl (by kernel_rfl) (by kernel_rfl) (by kernel_rfl) PF.pf rfl (pv_fieldAddr rfl rfl) rfl ?_
      refine AnyH.take 5 rfl (by kernel_rfl) (by kernel_rfl) (by kernel_rfl) PF.pf rfl (pv_loadK [.int .i64 x.slot.1, .int .i64 x.slot.2] rfl rfl rfl ⟨r0, r1, trivial⟩) rfl ?_
      refine AnyH.take 6 rfl (by kernel_rfl) (by kernel_rfl) (by kernel_rfl) PF.pf rfl (pv_move rfl) rfl ?_
      refine AnyH.take 7 rfl (by kernel_rfl) (by kernel_rfl) (by kernel_rfl) PF.pf rfl (pv_move rfl) rfl ?_
      refine AnyH.take 8 rfl (by kernel_rfl) (by kernel_rfl) (by kernel_rfl) PF.pf rfl (pv_indexAddr (i := i) rfl rfl rfl (by omega)) rfl ?_
      first | refine AnyH.take 9 rfl (by kernel_rfl) (by kernel_rfl) (by kernel_rfl) PF.pf rfl (pv_fieldAddr0 rfl rfl) rfl ?_ | refine AnyH.take 9 rfl (by kernel_rfl) (by kernel_rfl) (by kernel_rfl) PF.pf rfl (pv_fieldAddr rfl rfl) rfl ?_
      refine AnyH.take 10 rfl (by kernel_rfl) (by kernel_rfl) (by kernel_rfl) PF.pf rfl (pv_loadK x.c.cells rfl rfl rfl ⟨r2, r3, r4, r5, r6, r7, trivial⟩) rfl ?_
      refine AnyH.take 12 rfl (by kernel_rfl) (by kernel_rfl) (by kernel_rfl) PF.pf rfl (pv_move rfl) rfl ?_
      refine AnyH.take 13 rfl (by kernel_rfl) (by kernel_rfl) (by kernel_rfl) PF.pf rfl (pv_move rfl) rfl ?_
      refine AnyH.take 14 rfl (by kernel_rfl) (by kernel_rfl) (by kernel_rfl) PF.pf rfl (pv_move rfl) rfl ?_
      refine AnyH.take 15 rfl (by kernel_rfl) (by kernel_rfl) (by kernel_rfl) PF.pf rfl (pv_indexAddr (i := i) rfl rfl rfl (by omega)) rfl ?_
      first | refine AnyH.take 16 rfl (by kernel_rfl) (by kernel_rfl) (by kernel_rfl) PF.pf rfl (pv_fieldAddr0 rfl rfl) rfl ?_ | refine AnyH.take 16 rfl (by kernel_rfl) (by kernel_rfl) (by kernel_rfl) PF.pf rfl (pv_fieldAddr rfl rfl) rfl ?_
      refine AnyH.take 17 rfl (by kernel_rfl) (by kernel_rfl) (by kernel_rfl) PF.pf rfl (pv_loadK [.int .i64 x.slot.1, .int .i64 x.slot.2] rfl rfl rfl ⟨r0, r1, trivial⟩) rfl ?_
      refine AnyH.take 18 rfl (by kernel_rfl) (by kernel_rfl) (by kernel_rfl) PF.pf rfl (pv_move rfl) rfl ?_
      refine AnyH.take 19 rfl (by kernel_rfl) (by kernel_rfl) (by kernel_rfl) PF.pf rfl (pv_move rfl) rfl ?_
      refine AnyH.take 20 rfl (by kernel_rfl) (by kernel_rfl) (by kernel_rfl) PF.pf rfl (pv_indexAddr (i := i) rfl rfl rfl (by omega)) rfl ?_
      first | refine AnyH.take 21 rfl (by kernel_rfl) (by kernel_rfl) (by kernel_rfl) PF.pf rfl (pv_fieldAddr0 rfl rfl) rfl ?_ | refine AnyH.take 21 rfl (by kernel_rfl) (by kernel_rfl) (by kernel_rfl) PF.pf rfl (pv_fieldAddr rfl rfl) rfl ?_
      refine AnyH.take 22 rfl (by kernel_rfl) (by kernel_rfl) (by kernel_rfl) PF.pf rfl (pv_loadK x.c.cells rfl rfl rfl ⟨r2, r3, r4, r5, r6, r7, trivial⟩) rfl ?_
      refine AnyH.one 11 (by kernel_rfl) ?_
      refine Turn.ef rfl rfl (ef_call (tr_put sb1 S x.slot x.c hR.wf) rfl rfl) ?_ ?_
      · rintro _ _ ⟨_, _, ⟨rfl, rfl⟩, rfl, rfl⟩; infer_instance
      rintro _ _ ⟨_, _, ⟨rfl, rfl⟩, rfl, rfl⟩
      refine AnyH.app ?_
      refine AnyH.one 23 (by kernel_rfl) ?_
      refine Turn.ef rfl rfl (ef_call (td_put hR hH x.slot x.c hxr) rfl rfl) ?_ ?_
      · rintro _ _ ⟨_, Q3, ⟨rfl, l2, hR2, hH2⟩, rfl, rfl⟩; infer_instance
      rintro _ _ ⟨_, Q3, ⟨rfl, l2, hR2, hH2⟩, rfl, rfl⟩
      refine AnyH.app ?_
      generalize (S.put x.slot x.c).2 = S2 at hR2 ⊢
      refine AnyH.take 24 rfl (by kernel_rfl) (by kernel_rfl) (by kernel_rfl) PF.pf rfl ((pv_neq rfl rfl).fls (fun h => h rfl)) rfl ?_
      refine AnyH.done (by kernel_rfl) ?_
      refine Ends.seq ?_
      refine Wp.cond_false rfl ?_
      refine Wp.skip ?_
      refine Ends.block_normal ?_
      refine Ends.seq ?_
      refine Wp.region ?_
      refine Ops.pv (pv_move rfl) rfl ?_
      first | refine Ops.pv (pv_add rfl rfl (w64 (by omega) (by omega))) rfl ?_ | refine Ops.pv (pv_add rfl rfl rfl) rfl ?_
      refine Ops.pv (pv_assign rfl) rfl ?_
      refine Ops.nil ?_
      refine Ends.goes ?_
      refine Goes.back (hK (i + 1, S2, l2, Q3) ⟨hR2, hH2⟩ (by dsimp only; omega)) ⟨rfl, rfl, rfl, rfl, trivial⟩
    · refine Wp.exit ?_
      refine Ends.then_exit ?_
      refine Ends.then_exit ?_
      refine Ends.block_hit ?_
      refine Ends.seq ?_
      refine Wp.seq ?_
      refine Wp.region ?_
      refine Ops.pv (pv_move rfl) rfl ?_
      refine Ops.pv (pv_move rfl) rfl ?_
      refine Ops.pv (pv_assign rfl) rfl ?_
      refine Ops.pv (pv_assign rfl) rfl ?_
      refine Ops.pv (pv_assign rfl) rfl ?_
      refine Ops.nil ?_
      refine Ends.seq ?_
      refine Wp.ret ?_
      exact Ends.ret (L' := storeHp sb1 S ++ (Hq ++ G)) (res3 rfl rfl rfl rfl) ⟨sb1, S, b1, ld, Hq, rfl, hR, hH, rfl⟩

set_option maxHeartbeats 4000000 in
theorem tr_guardFinds (G : Hp) (ar : Option Addr) (cr : Nat) (lr : List Int) (har : ArgS G 1 ar (lr.map (fun x => [.int .i64 x]))) (hlr : lr.length ≤ maxLen) (ap : Option Addr) (cp : Nat) (lp : List PutM) (hap : ArgS G 8 ap (lp.map PutM.cells)) (hrg : ∀ o, o ∈ lp → o.c.Rg) (hlp : lp.length ≤ maxLen) (root : CapM) (p : Nat) (hp : p < 2 ^ 64) (depth : Int) : TrR Try.prog 13 [.slice ar lr.length cr, .slice ap lp.length cp, root.v, .int .u64 p, .int .i64 depth] (G) (.bool true) := by
  refine Tr.enter Try.func13 rfl Try.ntmps13 rfl (fun W F => ?_)
  refine Wp.app ?_
  refine Wp.seq ?_
  refine Wp.region ?_
  refine Ops.ef rfl (ef_boxK rfl rfl) ?_
  rintro _ _ ⟨b1, rfl, rfl⟩
  refine Ops.pv (pv_assign rfl) rfl ?_
  refine Ops.nil ?_
  refine Ends.seq ?_
  refine Wp.seq ?_
  refine Wp.region ?_
  refine Ops.pv (pv_move rfl) rfl ?_
  refine Ops.pv (pv_move rfl) rfl ?_
  refine Ops.ef rfl (ef_call (tr_made G ar cr lr har hlr ap cp lp hap hrg hlp) rfl rfl) ?_
  rintro _ _ ⟨_, _, ⟨sb, S, qb, ld, Hq, rfl, hR, hH, rfl⟩, rfl, rfl⟩
  refine Ops.app ?_
  refine Ops.pv (pv_move rfl) rfl ?_
  refine Ops.pv (pv_extract rfl rfl) rfl ?_
  refine Ops.pv (pv_extract rfl rfl) rfl ?_
  refine Ops.pv (pv_extract rfl rfl) rfl ?_
  refine Ops.pv (pv_assign rfl) rfl ?_
  refine Ops.pv (pv_assign rfl) rfl ?_
  refine Ops.pv (pv_assign rfl) rfl ?_
  refine Ops.nil ?_
  refine Ends.seq ?_
  refine Wp.seq ?_
  refine Wp.seq ?_
  refine Wp.region ?_
  refine Ops.pv (pv_move rfl) rfl ?_
  first | refine Ops.pv (pv_not_dec rfl) rfl ?_ | refine Ops.pv (pv_not rfl) rfl ?_
  refine Ops.nil ?_
  refine Ends.seq ?_
  refine Wp.cond_false rfl ?_
  refine Wp.skip ?_
  refine Ends.seq ?_
  refine Wp.seq ?_
  refine Wp.region ?_
  refine Ops.pv (pv_move rfl) rfl ?_
  refine Ops.pv (pv_loadK [_, _, _, _, _, _] rfl rfl rfl ⟨rfl, rfl, rfl, rfl, rfl, rfl, trivial⟩) rfl ?_
  refine Ops.pv (pv_move rfl) rfl ?_
  refine Ops.pv (pv_move rfl) rfl ?_
  refine Ops.ef rfl (ef_callr (tr_resolve sb S root p depth hR.wf hp) rfl rfl) ?_
  rintro _ _ ⟨rfl, rfl⟩
  refine Ops.pv (pv_move rfl) rfl ?_
  refine Ops.pv (pv_extract rfl rfl) rfl ?_
  refine Ops.pv (pv_extract rfl rfl) rfl ?_
  refine Ops.pv (pv_extract rfl rfl) rfl ?_
  refine Ops.ef rfl (ef_allocK tyZ31 rfl) ?_
  rintro _ _ ⟨b2, rfl, rfl⟩
  refine Ops.ef rfl (ef_storeK rfl rfl rfl rfl) ?_
  rintro _ _ ⟨rfl, rfl⟩
  refine Ops.pv (pv_assign rfl) rfl ?_
  refine Ops.pv (pv_assign rfl) rfl ?_
  refine Ops.nil ?_
  refine Ends.seq ?_
  refine Wp.seq ?_
  refine Wp.region ?_
  refine Ops.pv (pv_move rfl) rfl ?_
  refine Ops.pv (pv_loadK [_, _, _, _, _, _] rfl rfl rfl ⟨rfl, rfl, rfl, rfl, rfl, rfl, trivial⟩) rfl ?_
  refine Ops.pv (pv_move rfl) rfl ?_
  refine Ops.pv (pv_move rfl) rfl ?_
  refine Ops.ef rfl (ef_callr (tr_dresolve qb Hq S ld hR hH root p depth) rfl rfl) ?_
  rintro _ _ ⟨rfl, rfl⟩
  refine Ops.pv (pv_move rfl) rfl ?_
  refine Ops.pv (pv_extract rfl rfl) rfl ?_
  refine Ops.pv (pv_extract rfl rfl) rfl ?_
  refine Ops.pv (pv_extract rfl rfl) rfl ?_
  refine Ops.ef rfl (ef_allocK tyZ31 rfl) ?_
  rintro _ _ ⟨b3, rfl, rfl⟩
  refine Ops.ef rfl (ef_storeK rfl rfl rfl rfl) ?_
  rintro _ _ ⟨rfl, rfl⟩
  refine Ops.pv (pv_assign rfl) rfl ?_
  refine Ops.pv (pv_assign rfl) rfl ?_
  refine Ops.nil ?_
  refine Ends.seq ?_
  refine Wp.seq ?_
  refine Wp.region ?_
  refine Ops.pv (pv_move rfl) rfl ?_
  refine Ops.pv (pv_loadK [_, _, _, _, _, _] rfl rfl rfl ⟨rfl, rfl, rfl, rfl, rfl, rfl, trivial⟩) rfl ?_
  refine Ops.pv (pv_move rfl) rfl ?_
  refine Ops.pv (pv_move rfl) rfl ?_
  refine Ops.ef rfl (ef_callr (tr_find sb S root p depth hR.wf hp) rfl rfl) ?_
  rintro _ _ ⟨rfl, rfl⟩
  refine Ops.pv (pv_move rfl) rfl ?_
  refine Ops.pv (pv_extract rfl rfl) rfl ?_
  refine Ops.pv (pv_extract rfl rfl) rfl ?_
  refine Ops.ef rfl (ef_allocK tyZ31 rfl) ?_
  rintro _ _ ⟨b4, rfl, rfl⟩
  refine Ops.ef rfl (ef_storeK rfl rfl rfl rfl) ?_
  rintro _ _ ⟨rfl, rfl⟩
  refine Ops.pv (pv_assign rfl) rfl ?_
  refine Ops.nil ?_
  refine Ends.seq ?_
  refine Wp.seq ?_
  refine Wp.region ?_
  refine Ops.pv (pv_move rfl) rfl ?_
  refine Ops.pv (pv_loadK [_, _, _, _, _, _] rfl rfl rfl ⟨rfl, rfl, rfl, rfl, rfl, rfl, trivial⟩) rfl ?_
  refine Ops.pv (pv_move rfl) rfl ?_
  refine Ops.pv (pv_move rfl) rfl ?_
  refine Ops.ef rfl (ef_callr (tr_dfindA qb Hq S ld hR hH root p depth) rfl rfl) ?_
  rintro _ _ ⟨rfl, rfl⟩
  refine Ops.pv (pv_move rfl) rfl ?_
  refine Ops.pv (pv_extract rfl rfl) rfl ?_
  refine Ops.pv (pv_extract rfl rfl) rfl ?_
  refine Ops.ef rfl (ef_allocK tyZ31 rfl) ?_
  rintro _ _ ⟨b5, rfl, rfl⟩
  refine Ops.ef rfl (ef_storeK rfl rfl rfl rfl) ?_
  rintro _ _ ⟨rfl, rfl⟩
  refine Ops.pv (pv_assign rfl) rfl ?_
  refine Ops.nil ?_
  refine Ends.seq ?_
  refine Wp.seq ?_
  refine Wp.region ?_
  refine Ops.pv (pv_move rfl) rfl ?_
  refine Ops.pv (pv_loadK [_, _, _, _, _, _] rfl rfl rfl ⟨rfl, rfl, rfl, rfl, rfl, rfl, trivial⟩) rfl ?_
  refine Ops.pv (pv_move rfl) rfl ?_
  refine Ops.ef rfl (ef_callr (tr_cap sb S root p hR.wf hp) rfl rfl) ?_
  rintro _ _ ⟨rfl, rfl⟩
  refine Ops.pv (pv_move rfl) rfl ?_
  refine Ops.pv (pv_extract rfl rfl) rfl ?_
  refine Ops.pv (pv_extract rfl rfl) rfl ?_
  refine Ops.pv (pv_extract rfl rfl) rfl ?_
  refine Ops.ef rfl (ef_allocK tyZ31 rfl) ?_
  rintro _ _ ⟨b6, rfl, rfl⟩
  refine Ops.ef rfl (ef_allocK tyZ29 rfl) ?_
  rintro _ _ ⟨b7, rfl, rfl⟩
  refine Ops.ef rfl (ef_storeK rfl rfl rfl rfl) ?_
  rintro _ _ ⟨rfl, rfl⟩
  refine Ops.ef rfl (ef_storeK rfl rfl rfl rfl) ?_
  rintro _ _ ⟨rfl, rfl⟩
  refine Ops.pv (pv_assign rfl) rfl ?_
  refine Ops.nil ?_
  refine Ends.seq ?_
  refine Wp.seq ?_
  refine Wp.region ?_
  refine Ops.pv (pv_move rfl) rfl ?_
  refine Ops.pv (pv_loadK [_, _, _, _, _, _] rfl rfl rfl ⟨rfl, rfl, rfl, rfl, rfl, rfl, trivial⟩) rfl ?_
  refine Ops.pv (pv_move rfl) rfl ?_
  refine Ops.ef rfl (ef_callr (tr_dcap qb Hq S ld hR hH root p) rfl rfl) ?_
  rintro _ _ ⟨rfl, rfl⟩
  refine Ops.pv (pv_move rfl) rfl ?_
  refine Ops.pv (pv_extract rfl rfl) rfl ?_
  refine Ops.pv (pv_extract rfl rfl) rfl ?_
  refine Ops.pv (pv_extract rfl rfl) rfl ?_
  refine Ops.ef rfl (ef_allocK tyZ31 rfl) ?_
  rintro _ _ ⟨b8, rfl, rfl⟩
  refine Ops.ef rfl (ef_allocK tyZ29 rfl) ?_
  rintro _ _ ⟨b9, rfl, rfl⟩
  refine Ops.ef rfl (ef_storeK rfl rfl rfl rfl) ?_
  rintro _ _ ⟨rfl, rfl⟩
  refine Ops.ef rfl (ef_storeK rfl rfl rfl rfl) ?_
  rintro _ _ ⟨rfl, rfl⟩
  refine Ops.pv (pv_assign rfl) rfl ?_
  refine Ops.nil ?_
  refine Ends.seq ?_
  refine Wp.seq ?_
  refine Wp.region ?_
  refine Ops.pv (pv_loadK [_, _] rfl rfl rfl ⟨rfl, rfl, trivial⟩) rfl ?_
  refine Ops.pv (pv_loadK [_, _] rfl rfl rfl ⟨rfl, rfl, trivial⟩) rfl ?_
  refine Ops.pv ((pv_eql_slot (a := (resolveM S root p depth).1) (b := (resolveM S root p depth).1) rfl rfl).tru rfl) rfl ?_
  refine Ops.pv (pv_move rfl) rfl ?_
  refine Ops.pvg ⟨_, _, rfl, rfl, rfl⟩ (pv_move rfl) rfl ?_
  refine Ops.pvg ⟨_, _, rfl, rfl, rfl⟩ (pv_move rfl) rfl ?_
  refine Ops.pvg ⟨_, _, rfl, rfl, rfl⟩ ((pv_eql rfl rfl).tru rfl) rfl ?_
  refine Ops.pv (pv_pick_true rfl rfl) rfl ?_
  refine Ops.pv (pv_move rfl) rfl ?_
  refine Ops.pvg ⟨_, _, rfl, rfl, rfl⟩ (pv_move rfl) rfl ?_
  refine Ops.pvg ⟨_, _, rfl, rfl, rfl⟩ (pv_move rfl) rfl ?_
  refine Ops.pvg ⟨_, _, rfl, rfl, rfl⟩ ((pv_eql rfl rfl).tru rfl) rfl ?_
  refine Ops.pv (pv_pick_true rfl rfl) rfl ?_
  refine Ops.pv (pv_move rfl) rfl ?_
  refine Ops.pvg ⟨_, _, rfl, rfl, rfl⟩ (pv_loadK [_, _] rfl rfl rfl ⟨rfl, rfl, trivial⟩) rfl ?_
  refine Ops.pvg ⟨_, _, rfl, rfl, rfl⟩ (pv_loadK [_, _] rfl rfl rfl ⟨rfl, rfl, trivial⟩) rfl ?_
  refine Ops.pvg ⟨_, _, rfl, rfl, rfl⟩ ((pv_eql_slot (a := (findM S root p depth).1) (b := (findM S root p depth).1) rfl rfl).tru rfl) rfl ?_
  refine Ops.pv (pv_pick_true rfl rfl) rfl ?_
  refine Ops.pv (pv_move rfl) rfl ?_
  refine Ops.pvg ⟨_, _, rfl, rfl, rfl⟩ (pv_move rfl) rfl ?_
  refine Ops.pvg ⟨_, _, rfl, rfl, rfl⟩ (pv_move rfl) rfl ?_
  refine Ops.pvg ⟨_, _, rfl, rfl, rfl⟩ ((pv_eql rfl rfl).tru rfl) rfl ?_
  refine Ops.pv (pv_pick_true rfl rfl) rfl ?_
  refine Ops.pv (pv_move rfl) rfl ?_
  refine Ops.pvg ⟨_, _, rfl, rfl, rfl⟩ (pv_loadK [_, _] rfl rfl rfl ⟨rfl, rfl, trivial⟩) rfl ?_
  refine Ops.pvg ⟨_, _, rfl, rfl, rfl⟩ (pv_loadK [_, _] rfl rfl rfl ⟨rfl, rfl, trivial⟩) rfl ?_
  refine Ops.pvg ⟨_, _, rfl, rfl, rfl⟩ ((pv_eql_slot (a := (capM S root p).1) (b := (capM S root p).1) rfl rfl).tru rfl) rfl ?_
  refine Ops.pv (pv_pick_true rfl rfl) rfl ?_
  refine Ops.pv (pv_move rfl) rfl ?_
  refine Ops.pvg ⟨_, _, rfl, rfl, rfl⟩ (pv_loadK [_, _, _, _, _, _] rfl rfl rfl ⟨rfl, rfl, rfl, rfl, rfl, rfl, trivial⟩) rfl ?_
  refine Ops.pvg ⟨_, _, rfl, rfl, rfl⟩ (pv_loadK [_, _, _, _, _, _] rfl rfl rfl ⟨rfl, rfl, rfl, rfl, rfl, rfl, trivial⟩) rfl ?_
  refine Ops.pvg ⟨_, _, rfl, rfl, rfl⟩ ((pv_eql_cap (a := (capM S root p).2.1) (b := (capM S root p).2.1) rfl rfl).tru rfl) rfl ?_
  refine Ops.pv (pv_pick_true rfl rfl) rfl ?_
  refine Ops.pv (pv_move rfl) rfl ?_
  refine Ops.pvg ⟨_, _, rfl, rfl, rfl⟩ (pv_move rfl) rfl ?_
  refine Ops.pvg ⟨_, _, rfl, rfl, rfl⟩ (pv_move rfl) rfl ?_
  refine Ops.pvg ⟨_, _, rfl, rfl, rfl⟩ ((pv_eql rfl rfl).tru rfl) rfl ?_
  refine Ops.pv (pv_pick_true rfl rfl) rfl ?_
  refine Ops.pv (pv_move rfl) rfl ?_
  refine Ops.pvg ⟨_, _, rfl, rfl, rfl⟩ (pv_move rfl) rfl ?_
  refine Ops.efg ⟨_, _, rfl, rfl, rfl⟩ (ef_call (tr_full sb S hR.wf) rfl rfl) ?_
  rintro _ _ ⟨_, _, ⟨C1, hc1, rfl⟩, rfl, rfl⟩
  refine Ops.app ?_
  obtain ⟨pp1, qq1, rfl⟩ := hc1.form
  refine Ops.pvg ⟨_, _, rfl, rfl, rfl⟩ (pv_move rfl) rfl ?_
  refine Ops.efg ⟨_, _, rfl, rfl, rfl⟩ (ef_call (td_full hR hH) rfl rfl) ?_
  rintro _ _ ⟨_, _, ⟨C2, hc2, rfl⟩, rfl, rfl⟩
  refine Ops.app ?_
  obtain ⟨pp2, qq2, rfl⟩ := hc2.form
  refine Ops.efg ⟨_, _, rfl, rfl, rfl⟩ (ef_callr ((tr_sameSlots (C1 ++ C2) _ _ _ _ (fullM S) (fullM S) (hc1.view.mono (by intro p hp; simp [hp])) (hc2.view.mono (by intro p hp; simp [hp])) (by have := full_len S; omega)).eq (r' := .bool true) (by rw [decide_eq_true rfl])) rfl rfl) ?_
  rintro _ _ ⟨rfl, rfl⟩
  refine Ops.pv (pv_pick_true rfl rfl) rfl ?_
  refine Ops.pv (pv_assign rfl) rfl ?_
  refine Ops.nil ?_
  refine Ends.seq ?_
  refine Wp.ret ?_
  exact Ends.ret (res1 rfl rfl) ⟨rfl, rfl⟩

end Go.Proofs.Ytpoamckpdpkpoaa
