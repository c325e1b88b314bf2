/- Walks of layer 10: MovesTakes. No condition. -/
import Derived.Test.YtdodfnjmkpgdbaaM10f
import Derived.Test.YtdodfnjmkpgdbaaW10c
set_option linter.unusedVariables false
set_option linter.unusedSimpArgs false
namespace Go.Proofs.Ytdodfnjmkpgdbaa
open Go.SL

set_option maxHeartbeats 16000000 in
theorem tr_movesTakes (G : Hp) (a : Option Addr) (c : Nat) (l : List OpC) (ha : ArgS G 18 a (l.map OpC.cells)) (hl : l.length ≤ maxLen) (a1 : Option Addr) (c1 : Nat) (l1 : List Int) (ha1 : ArgS G 1 a1 (l1.map fun x => [Value.int .i64 x])) (hl1 : l1.length ≤ maxLen) : TrR Try.prog 6 [.slice a l.length c, .slice a1 l1.length c1] (G) (.bool true) := by
  refine Tr.enter Try.func6 rfl Try.ntmps6 rfl (fun W F => ?_)
  refine Wp.app ?_
  refine Wp.seq ?_
  refine Wp.region ?_
  refine Ops.pv (pv_assign rfl) rfl ?_
  refine Ops.nil ?_
  refine Ends.seq ?_
  refine Wp.seq ?_
  refine Wp.seq ?_
  refine Wp.region ?_
  refine Ops.ef rfl (ef_callr (tr_mworks) rfl rfl) ?_
  rintro _ _ ⟨rfl, rfl⟩
  first | refine Ops.pv (pv_not_dec rfl) rfl ?_ | refine Ops.pv (pv_not rfl) rfl ?_
  refine Ops.nil ?_
  refine Ends.seq ?_
  refine Wp.cond_false rfl ?_
  refine Wp.skip ?_
  refine Ends.seq ?_
  refine Wp.seq ?_
  refine Wp.region ?_
  refine Ops.ef rfl (ef_call (tr_mNew) rfl rfl) ?_
  rintro _ _ ⟨_, _, ⟨cb1, rfl, sb0, tb0, Ls0, Lt0, hS0, hT0, rfl⟩, rfl, rfl⟩
  refine Ops.app ?_
  refine Ops.pv (pv_assign rfl) rfl ?_
  refine Ops.nil ?_
  refine Ends.seq ?_
  refine Wp.seq ?_
  refine Wp.region ?_
  refine Ops.pv (pv_move rfl) rfl ?_
  first | refine Ops.pv (pv_nilCheck rfl) rfl ?_ | refine Ops.pv (pv_nilCheck_func rfl rfl) rfl ?_
  first | refine Ops.pv (pv_fieldAddr0 rfl rfl) rfl ?_ | refine Ops.pv (pv_fieldAddr rfl rfl) rfl ?_
  refine Ops.pv (pv_loadK [_] rfl rfl rfl ⟨rfl, trivial⟩) rfl ?_
  refine Ops.ef rfl (ef_call (tr_smNode _ sb0 Ls0 hS0 0 3) rfl rfl) ?_
  rintro _ _ ⟨_, Q1, ⟨rfl, hS1⟩, rfl, rfl⟩
  refine Ops.app ?_
  skip
  refine Ops.nil ?_
  refine Ends.seq ?_
  refine Wp.seq ?_
  refine Wp.region ?_
  refine Ops.pv (pv_move rfl) rfl ?_
  first | refine Ops.pv (pv_nilCheck rfl) rfl ?_ | refine Ops.pv (pv_nilCheck_func rfl rfl) rfl ?_
  first | refine Ops.pv (pv_fieldAddr0 rfl rfl) rfl ?_ | refine Ops.pv (pv_fieldAddr rfl rfl) rfl ?_
  refine Ops.pv (pv_loadK [_] rfl rfl rfl ⟨rfl, trivial⟩) rfl ?_
  refine Ops.ef rfl (ef_call (tr_smNode _ sb0 Q1 hS1 1 3) rfl rfl) ?_
  rintro _ _ ⟨_, Q2, ⟨rfl, hS2⟩, rfl, rfl⟩
  refine Ops.app ?_
  skip
  refine Ops.nil ?_
  refine Ends.seq ?_
  refine Wp.seq ?_
  refine Wp.seq ?_
  refine Wp.region ?_
  refine Ops.pv (pv_assign rfl) rfl ?_
  refine Ops.nil ?_
  refine Ends.seq ?_
  refine Wp.block ?_
  refine Wp.loopK (σ := Nat × PS × Nat × Nat × Hp × Hp) [(0, _), (1, _), (5, _)] (fun s => [(6, .int .i64 s.1)]) (fun s => cBlk cb1 s.2.2.1 s.2.2.2.1 :: (s.2.2.2.2.1 ++ (s.2.2.2.2.2 ++ (G ++ F)))) (fun s => s.1 ≤ l.length ∧ s.1 ≤ 50 ∧ StF s.2.1.l s.2.2.1 s.2.2.2.2.1 ∧ TrF s.1 s.2.1.F s.2.2.2.1 s.2.2.2.2.2 ∧ POk s.2.1 ∧ shapeL s.2.1.l = [(0, 8), (1, 8)]) (fun s => l.length - s.1) (0, ps2 3 3, sb0, tb0, Q2, Lt0) ⟨Nat.zero_le _, Nat.zero_le _, hS2, hT0, ps2_ok 3 3, ps2_shape⟩ ⟨rfl, rfl, rfl, trivial⟩ ⟨rfl, trivial⟩ (by intro w ho; (try dsimp only [List.nil_append, List.cons_append]); exact Drop.own ho) ?_
  rintro ⟨i, p, sb, tb, Ls, Lt⟩ KK ⟨hi, hi2, hS, hT, hp, hsh⟩ hK
  dsimp only [List.cons_append, List.nil_append] at hK ⊢
  dsimp only at hi hi2 hS hT hp hsh ⊢
  refine Wp.seq ?_
  refine Wp.seq ?_
  refine Wp.region ?_
  refine Ops.pv (pv_move rfl) rfl ?_
  refine Ops.pv (pv_move rfl) rfl ?_
  refine Ops.pv (pv_len_slice (T := 49) rfl rfl) rfl ?_
  refine Ops.pv (pv_lss rfl rfl) rfl ?_
  refine Ops.pv (pv_move rfl) rfl ?_
  refine Ops.pvc rfl rfl (fun hg => pv_move rfl) rfl ?_
  refine Ops.pvc rfl rfl (fun hg => Pv.setE (t := 39) rfl (cv_pos hg) (pv_lss rfl rfl)) rfl ?_
  refine Ops.pv (pv_pick_and rfl rfl) rfl ?_
  refine Ops.nil ?_
  refine Ends.seq ?_
  first | refine Wp.cond_dect rfl (fun h1 => ?_) (fun h1 => ?_) | refine Wp.cond_t rfl (fun h1 => ?_) (fun h1 => ?_)
  · obtain ⟨x, hq⟩ : ∃ x, l[i]? = some x := ⟨_, List.getElem?_eq_getElem (by omega)⟩
    obtain ⟨_, b, o, cc, T, f, rfl, hmm, hr⟩ := ha i x.cells (by rw [List.getElem?_map, hq]; rfl)
    have hbg : Blk G b (.cells cc.toArray T f) := ⟨hmm⟩
    refine Wp.skip ?_
    refine Ends.seq ?_
    refine Wp.seq ?_
    refine Wp.block ?_
    refine Wp.seq ?_
    refine Wp.region ?_
    refine Ops.pv (pv_move rfl) rfl ?_
    refine Ops.pv (pv_move rfl) rfl ?_
    refine Ops.pv (pv_indexAddr (i := i) rfl rfl rfl (by omega)) rfl ?_
    first | refine Ops.pv (pv_fieldAddr0 rfl rfl) rfl ?_ | refine Ops.pv (pv_fieldAddr rfl rfl) rfl ?_
    refine Ops.pv (pv_load rfl rfl hr.1) rfl ?_
    refine Ops.nil ?_
    refine Ends.seq ?_
    refine Wp.block ?_
    refine Wp.seq ?_
    refine Wp.region ?_
    refine Ops.pv (pv_eql rfl rfl) rfl ?_
    refine Ops.pv (pv_assign rfl) rfl ?_
    refine Ops.nil ?_
    refine Ends.seq ?_
    first | refine Wp.cond_dect rfl (fun h2 => ?_) (fun h2 => ?_) | refine Wp.cond_t rfl (fun h2 => ?_) (fun h2 => ?_)
    · refine AnyH.start G 12 rfl ?_
      refine AnyH.take 0 rfl (by kernel_rfl) (by kernel_rfl) (by kernel_rfl) PF.pf rfl (pv_move rfl) rfl ?_
      refine AnyH.take 1 rfl (by kernel_rfl) (by kernel_rfl) (by kernel_rfl) PF.pf rfl (pv_move rfl) rfl ?_
      refine AnyH.take 2 rfl (by kernel_rfl) (by kernel_rfl) (by kernel_rfl) PF.pf rfl (pv_move rfl) rfl ?_
      refine AnyH.take 3 rfl (by kernel_rfl) (by kernel_rfl) (by kernel_rfl) PF.pf rfl (pv_indexAddr (i := i) rfl rfl rfl (by omega)) rfl ?_
      first | refine AnyH.take 4 rfl (by kernel_rfl) (by kernel_rfl) (by kernel_rfl) PF.pf rfl (pv_fieldAddr0 rfl rfl) rfl ?_ | refine AnyH.take 4 rfl (by kernel_rfl) (by kernel_rfl) (by kernel_rfl) PF.pf rfl (pv_fieldAddr rfl rfl) rfl ?_
      refine AnyH.take 5 rfl (by kernel_rfl) (by kernel_rfl) (by kernel_rfl) PF.pf rfl (pv_loadK [.int .i64 x.a.1, .int .i64 x.a.2] rfl rfl rfl ⟨hr.2.1, hr.2.2.1, trivial⟩) rfl ?_
      refine AnyH.take 6 rfl (by kernel_rfl) (by kernel_rfl) (by kernel_rfl) PF.pf rfl (pv_move rfl) rfl ?_
      refine AnyH.take 7 rfl (by kernel_rfl) (by kernel_rfl) (by kernel_rfl) PF.pf rfl (pv_move rfl) rfl ?_
      refine AnyH.take 8 rfl (by kernel_rfl) (by kernel_rfl) (by kernel_rfl) PF.pf rfl (pv_indexAddr (i := i) rfl rfl rfl (by omega)) rfl ?_
      first | refine AnyH.take 9 rfl (by kernel_rfl) (by kernel_rfl) (by kernel_rfl) PF.pf rfl (pv_fieldAddr0 rfl rfl) rfl ?_ | refine AnyH.take 9 rfl (by kernel_rfl) (by kernel_rfl) (by kernel_rfl) PF.pf rfl (pv_fieldAddr rfl rfl) rfl ?_
      refine AnyH.take 10 rfl (by kernel_rfl) (by kernel_rfl) (by kernel_rfl) PF.pf rfl (pv_loadK x.c.cells rfl rfl rfl ⟨hr.2.2.2.2.2.2.2.1, hr.2.2.2.2.2.2.2.2.1, hr.2.2.2.2.2.2.2.2.2.1, hr.2.2.2.2.2.2.2.2.2.2.1, hr.2.2.2.2.2.2.2.2.2.2.2.1, hr.2.2.2.2.2.2.2.2.2.2.2.2.1, trivial⟩) rfl ?_
      refine AnyH.one 11 (by kernel_rfl) ?_
      refine Turn.ef rfl rfl (ef_call (tr_mPlant _ cb1 _ p ⟨_, _, _, _, hS, hT, rfl⟩ x.a x.c) rfl rfl) ?_ ?_
      · rintro _ _ ⟨_, _, ⟨rfl, sb2, tb2, Ls2, Lt2, hS2, hT2, rfl⟩, rfl, rfl⟩; infer_instance
      rintro _ _ ⟨_, _, ⟨rfl, sb2, tb2, Ls2, Lt2, hS2, hT2, rfl⟩, rfl, rfl⟩
      refine AnyH.app ?_
      refine AnyH.done (by kernel_rfl) ?_
      refine Ends.block_normal ?_
      refine Ends.block_normal ?_
      refine Ends.seq ?_
      refine Wp.region ?_
      refine Ops.pv (pv_move rfl) rfl ?_
      first | refine Ops.pv (pv_add rfl rfl (w64 (by omega) (by omega))) rfl ?_ | refine Ops.pv (pv_add rfl rfl rfl) rfl ?_
      refine Ops.pv (pv_assign rfl) rfl ?_
      refine Ops.nil ?_
      refine Ends.goes ?_
      refine Goes.back (hK (i + 1, (mPlant p x.a x.c).2, sb2, tb2, Ls2, Lt2) ⟨by dsimp only; omega, by dsimp only; omega, hS2, hT2, hp.plant x.a x.c, by dsimp only; rw [shape_plant]; exact hsh⟩ (by dsimp only; omega)) ⟨rfl, rfl, rfl, rfl, trivial⟩
    · refine Wp.seq ?_
      refine Wp.region ?_
      refine Ops.pv (pv_eql rfl rfl) rfl ?_
      refine Ops.pv (pv_assign rfl) rfl ?_
      refine Ops.nil ?_
      refine Ends.seq ?_
      first | refine Wp.cond_dect rfl (fun h3 => ?_) (fun h3 => ?_) | refine Wp.cond_t rfl (fun h3 => ?_) (fun h3 => ?_)
      · refine AnyH.start G 17 rfl ?_
        refine AnyH.take 0 rfl (by kernel_rfl) (by kernel_rfl) (by kernel_rfl) PF.pf rfl (pv_move rfl) rfl ?_
        refine AnyH.take 1 rfl (by kernel_rfl) (by kernel_rfl) (by kernel_rfl) PF.pf rfl (pv_move rfl) rfl ?_
        refine AnyH.take 2 rfl (by kernel_rfl) (by kernel_rfl) (by kernel_rfl) PF.pf rfl (pv_move rfl) rfl ?_
        refine AnyH.take 3 rfl (by kernel_rfl) (by kernel_rfl) (by kernel_rfl) PF.pf rfl (pv_indexAddr (i := i) rfl rfl rfl (by omega)) rfl ?_
        first | refine AnyH.take 4 rfl (by kernel_rfl) (by kernel_rfl) (by kernel_rfl) PF.pf rfl (pv_fieldAddr0 rfl rfl) rfl ?_ | refine AnyH.take 4 rfl (by kernel_rfl) (by kernel_rfl) (by kernel_rfl) PF.pf rfl (pv_fieldAddr rfl rfl) rfl ?_
        refine AnyH.take 5 rfl (by kernel_rfl) (by kernel_rfl) (by kernel_rfl) PF.pf rfl (pv_loadK [.int .i64 x.a.1, .int .i64 x.a.2] rfl rfl rfl ⟨hr.2.1, hr.2.2.1, trivial⟩) rfl ?_
        refine AnyH.take 6 rfl (by kernel_rfl) (by kernel_rfl) (by kernel_rfl) PF.pf rfl (pv_move rfl) rfl ?_
        refine AnyH.take 7 rfl (by kernel_rfl) (by kernel_rfl) (by kernel_rfl) PF.pf rfl (pv_move rfl) rfl ?_
        refine AnyH.take 8 rfl (by kernel_rfl) (by kernel_rfl) (by kernel_rfl) PF.pf rfl (pv_indexAddr (i := i) rfl rfl rfl (by omega)) rfl ?_
        first | refine AnyH.take 9 rfl (by kernel_rfl) (by kernel_rfl) (by kernel_rfl) PF.pf rfl (pv_fieldAddr0 rfl rfl) rfl ?_ | refine AnyH.take 9 rfl (by kernel_rfl) (by kernel_rfl) (by kernel_rfl) PF.pf rfl (pv_fieldAddr rfl rfl) rfl ?_
        refine AnyH.take 10 rfl (by kernel_rfl) (by kernel_rfl) (by kernel_rfl) PF.pf rfl (pv_loadK [.int .i64 x.b.1, .int .i64 x.b.2] rfl rfl rfl ⟨hr.2.2.2.1, hr.2.2.2.2.1, trivial⟩) rfl ?_
        refine AnyH.take 11 rfl (by kernel_rfl) (by kernel_rfl) (by kernel_rfl) PF.pf rfl (pv_move rfl) rfl ?_
        refine AnyH.take 12 rfl (by kernel_rfl) (by kernel_rfl) (by kernel_rfl) PF.pf rfl (pv_move rfl) rfl ?_
        refine AnyH.take 13 rfl (by kernel_rfl) (by kernel_rfl) (by kernel_rfl) PF.pf rfl (pv_indexAddr (i := i) rfl rfl rfl (by omega)) rfl ?_
        first | refine AnyH.take 14 rfl (by kernel_rfl) (by kernel_rfl) (by kernel_rfl) PF.pf rfl (pv_fieldAddr0 rfl rfl) rfl ?_ | refine AnyH.take 14 rfl (by kernel_rfl) (by kernel_rfl) (by kernel_rfl) PF.pf rfl (pv_fieldAddr rfl rfl) rfl ?_
        refine AnyH.take 15 rfl (by kernel_rfl) (by kernel_rfl) (by kernel_rfl) PF.pf rfl (pv_load rfl rfl hr.2.2.2.2.2.2.2.2.2.2.2.2.2.2.1) rfl ?_
        refine AnyH.one 16 (by kernel_rfl) ?_
        refine Turn.ef rfl rfl (ef_call (tr_mCopy _ cb1 _ p ⟨_, _, _, _, hS, hT, rfl⟩ (by omega) x.a x.b x.rights) rfl rfl) ?_ ?_
        · rintro _ _ ⟨_, _, ⟨rfl, sb2, tb2, Ls2, Lt2, hS2, hT2, rfl⟩, rfl, rfl⟩; infer_instance
        rintro _ _ ⟨_, _, ⟨rfl, sb2, tb2, Ls2, Lt2, hS2, hT2, rfl⟩, rfl, rfl⟩
        refine AnyH.app ?_
        refine AnyH.done (by kernel_rfl) ?_
        refine Ends.block_normal ?_
        refine Ends.block_normal ?_
        refine Ends.seq ?_
        refine Wp.region ?_
        refine Ops.pv (pv_move rfl) rfl ?_
        first | refine Ops.pv (pv_add rfl rfl (w64 (by omega) (by omega))) rfl ?_ | refine Ops.pv (pv_add rfl rfl rfl) rfl ?_
        refine Ops.pv (pv_assign rfl) rfl ?_
        refine Ops.nil ?_
        refine Ends.goes ?_
        refine Goes.back (hK (i + 1, (mCopy p x.a x.b x.rights).2, sb2, tb2, Ls2, Lt2) ⟨by dsimp only; omega, by dsimp only; omega, hS2, hT2, hp.copy x.a x.b x.rights, by dsimp only; rw [shape_copy]; exact hsh⟩ (by dsimp only; omega)) ⟨rfl, rfl, rfl, rfl, trivial⟩
      · refine Wp.skip ?_
        refine Ends.block_normal ?_
        refine Ends.block_normal ?_
        refine Ends.seq ?_
        refine Wp.region ?_
        refine Ops.pv (pv_move rfl) rfl ?_
        first | refine Ops.pv (pv_add rfl rfl (w64 (by omega) (by omega))) rfl ?_ | refine Ops.pv (pv_add rfl rfl rfl) rfl ?_
        refine Ops.pv (pv_assign rfl) rfl ?_
        refine Ops.nil ?_
        refine Ends.goes ?_
        refine Goes.back (hK (i + 1, p, sb, tb, Ls, Lt) ⟨by dsimp only; omega, by dsimp only; omega, hS, hT.more (by omega), hp, hsh⟩ (by dsimp only; omega)) ⟨rfl, rfl, rfl, rfl, trivial⟩
  · refine Wp.exit ?_
    refine Ends.then_exit ?_
    refine Ends.then_exit ?_
    refine Ends.block_hit ?_
    refine Ends.seq ?_
    refine Wp.seq ?_
    refine Wp.seq ?_
    refine Wp.region ?_
    refine Ops.pv (pv_assign rfl) rfl ?_
    refine Ops.nil ?_
    refine Ends.seq ?_
    refine Wp.block ?_
    have hl16 : (dfull p.l).length ≤ 16 := by have := shape_len p.l; rw [hsh] at this; exact this
    refine Wp.loopK (σ := Nat × PS × Nat × Nat × Hp × Hp) [(1, _), (5, _)] (fun s => [(7, .int .i64 s.1)]) (fun s => cBlk cb1 s.2.2.1 s.2.2.2.1 :: (s.2.2.2.2.1 ++ (s.2.2.2.2.2 ++ (G ++ F)))) (fun s => (dfull s.2.1.l).length + s.1 ≤ 16 ∧ StF s.2.1.l s.2.2.1 s.2.2.2.2.1 ∧ TrF 50 s.2.1.F s.2.2.2.1 s.2.2.2.2.2 ∧ POk s.2.1 ∧ shapeL s.2.1.l = [(0, 8), (1, 8)]) (fun s => 20 - s.1) (0, p, sb, tb, Ls, Lt) ⟨by dsimp only; omega, hS, hT.more (by omega), hp, hsh⟩ ⟨rfl, rfl, trivial⟩ ⟨rfl, trivial⟩ (by intro w ho; (try dsimp only [List.nil_append, List.cons_append]); exact Drop.own ho) ?_
    rintro ⟨k, p, sb, tb, Ls, Lt⟩ KK ⟨hk16, hS, hT, hp, hsh⟩ hK
    dsimp only [List.cons_append, List.nil_append] at hK ⊢
    dsimp only at hk16 hS hT hp hsh ⊢
    refine Wp.seq ?_
    refine Wp.seq ?_
    refine Wp.region ?_
    refine Ops.pv (pv_move rfl) rfl ?_
    refine Ops.pv (pv_lss rfl rfl) rfl ?_
    refine Ops.nil ?_
    refine Ends.seq ?_
    refine Wp.cond_dect rfl (fun h4 => ?_) (fun h4 => by exfalso; omega)
    refine Wp.skip ?_
    refine Ends.seq ?_
    refine Wp.seq ?_
    refine Wp.block ?_
    refine Wp.seq ?_
    refine Wp.region ?_
    refine Ops.pv (pv_move rfl) rfl ?_
    first | refine Ops.pv (pv_nilCheck rfl) rfl ?_ | refine Ops.pv (pv_nilCheck_func rfl rfl) rfl ?_
    first | refine Ops.pv (pv_fieldAddr0 rfl rfl) rfl ?_ | refine Ops.pv (pv_fieldAddr rfl rfl) rfl ?_
    first | refine Ops.pv (pv_fieldAddr0 rfl rfl) rfl ?_ | refine Ops.pv (pv_fieldAddr rfl rfl) rfl ?_
    first | refine Ops.pv (pv_load rfl rfl rfl) rfl ?_ | refine Ops.pv (pv_load rfl rfl (by assumption)) rfl ?_
    refine Ops.ef rfl (ef_call (sf_full hS) rfl rfl) ?_
    rintro _ _ ⟨_, _, ⟨C1, hc1, rfl⟩, rfl, rfl⟩
    refine Ops.app ?_
    obtain ⟨pp1, qq1, rfl⟩ := hc1.form
    refine Ops.pv (pv_assign rfl) rfl ?_
    refine Ops.nil ?_
    refine Ends.seq ?_
    refine Wp.seq ?_
    refine Wp.seq ?_
    refine Wp.region ?_
    refine Ops.pv (pv_move rfl) rfl ?_
    refine Ops.pv (pv_len_slice (T := 41) rfl rfl) rfl ?_
    refine Ops.pv (pv_eql rfl rfl) rfl ?_
    refine Ops.nil ?_
    refine Ends.seq ?_
    first | refine Wp.cond_dect rfl (fun h5 => ?_) (fun h5 => ?_) | refine Wp.cond_t rfl (fun h5 => ?_) (fun h5 => ?_)
    · have hf0 : dfull p.l = [] := List.eq_nil_of_length_eq_zero (by omega)
      obtain ⟨hcl1, hcl2⟩ := clear2 hsh hf0
      refine Wp.exit ?_
      refine Ends.then_exit ?_
      refine Ends.block_miss rfl ?_
      refine Ends.then_exit ?_
      refine Ends.then_exit ?_
      refine Ends.block_hit ?_
      refine Ends.seq ?_
      refine Wp.seq ?_
      refine Wp.region ?_
      refine Ops.pv (pv_move rfl) rfl ?_
      first | refine Ops.pv (pv_nilCheck rfl) rfl ?_ | refine Ops.pv (pv_nilCheck_func rfl rfl) rfl ?_
      first | refine Ops.pv (pv_fieldAddr0 rfl rfl) rfl ?_ | refine Ops.pv (pv_fieldAddr rfl rfl) rfl ?_
      first | refine Ops.pv (pv_fieldAddr0 rfl rfl) rfl ?_ | refine Ops.pv (pv_fieldAddr rfl rfl) rfl ?_
      first | refine Ops.pv (pv_load rfl rfl rfl) rfl ?_ | refine Ops.pv (pv_load rfl rfl (by assumption)) rfl ?_
      refine Ops.ef rfl (ef_call (sf_full hS) rfl rfl) ?_
      rintro _ _ ⟨_, _, ⟨C2, hc2, rfl⟩, rfl, rfl⟩
      refine Ops.app ?_
      obtain ⟨pp2, qq2, rfl⟩ := hc2.form
      rw [hf0] at hc2
      refine Ops.pv (pv_len_slice (T := 41) rfl rfl) rfl ?_
      refine Ops.pv ((pv_eql rfl rfl).tru (by first | rfl | decide | omega | assumption | (simp; done) | (simp; omega))) rfl ?_
      refine Ops.pv (pv_move rfl) rfl ?_
      refine Ops.pvg ⟨_, _, rfl, rfl, rfl⟩ (pv_move rfl) rfl ?_
      first | refine Ops.pvg ⟨_, _, rfl, rfl, rfl⟩ (pv_nilCheck rfl) rfl ?_ | refine Ops.pvg ⟨_, _, rfl, rfl, rfl⟩ (pv_nilCheck_func rfl rfl) rfl ?_
      first | refine Ops.pvg ⟨_, _, rfl, rfl, rfl⟩ (pv_fieldAddr0 rfl rfl) rfl ?_ | refine Ops.pvg ⟨_, _, rfl, rfl, rfl⟩ (pv_fieldAddr rfl rfl) rfl ?_
      refine Ops.pvg ⟨_, _, rfl, rfl, rfl⟩ (pv_loadK [_] rfl rfl rfl ⟨rfl, trivial⟩) rfl ?_
      refine Ops.efg ⟨_, _, rfl, rfl, rfl⟩ (ef_call (tr_smClear _ sb Ls hS 0) rfl rfl) ?_
      rintro _ _ ⟨_, Q3, ⟨rfl, hS3⟩, rfl, rfl⟩
      refine Ops.app ?_
      skip
      refine Ops.pvg ⟨_, _, rfl, rfl, rfl⟩ ((pv_eql rfl rfl).tru (by first | rfl | decide | omega | assumption | (simp; done) | (simp; omega))) rfl ?_
      refine Ops.pv (pv_pick_true rfl rfl) rfl ?_
      refine Ops.pv (pv_move rfl) rfl ?_
      refine Ops.pvg ⟨_, _, rfl, rfl, rfl⟩ (pv_move rfl) rfl ?_
      first | refine Ops.pvg ⟨_, _, rfl, rfl, rfl⟩ (pv_nilCheck rfl) rfl ?_ | refine Ops.pvg ⟨_, _, rfl, rfl, rfl⟩ (pv_nilCheck_func rfl rfl) rfl ?_
      first | refine Ops.pvg ⟨_, _, rfl, rfl, rfl⟩ (pv_fieldAddr0 rfl rfl) rfl ?_ | refine Ops.pvg ⟨_, _, rfl, rfl, rfl⟩ (pv_fieldAddr rfl rfl) rfl ?_
      refine Ops.pvg ⟨_, _, rfl, rfl, rfl⟩ (pv_loadK [_] rfl rfl rfl ⟨rfl, trivial⟩) rfl ?_
      refine Ops.efg ⟨_, _, rfl, rfl, rfl⟩ (ef_call (tr_smClear _ sb Q3 hS3 1) rfl rfl) ?_
      rintro _ _ ⟨_, R1, ⟨rfl, hS4⟩, rfl, rfl⟩
      refine Ops.app ?_
      skip
      refine Ops.pvg ⟨_, _, rfl, rfl, rfl⟩ ((pv_eql rfl rfl).tru (by first | rfl | decide | omega | assumption | (simp; done) | (simp; omega))) rfl ?_
      refine Ops.pv (pv_pick_true rfl rfl) rfl ?_
      refine Ops.pv (pv_assign rfl) rfl ?_
      refine Ops.nil ?_
      refine Ends.seq ?_
      refine Wp.ret ?_
      exact Ends.ret (res1 rfl rfl) ⟨rfl, rfl⟩
    · obtain ⟨bf, of, cap, cc, T0, f, hv1, hbv, hr⟩ := hc1.view.open (by omega)
      cases hv1
      refine Wp.skip ?_
      refine Ends.seq ?_
      refine Wp.seq ?_
      refine Wp.region ?_
      refine Ops.pv (pv_assign rfl) rfl ?_
      refine Ops.nil ?_
      refine Ends.seq ?_
      refine Wp.cutK (σ := Nat) [(1, _), (5, _), (7, _), (8, _)] (fun s => [(9, .int .i64 s)]) (fun s => C1 ++ (cBlk cb1 sb tb :: (Ls ++ (Lt ++ (G ++ F))))) (fun s => s < (dfull p.l).length) ⟨rfl, rfl, rfl, rfl, trivial⟩ (fun _ KK hC0 => ?_) ?_
      · dsimp only [List.cons_append, List.nil_append] at hC0
        refine Wp.seq ?_
        refine Wp.region ?_
        refine Ops.pv (pv_move rfl) rfl ?_
        refine Ops.pv (pv_move rfl) rfl ?_
        refine Ops.pv (pv_len_slice (T := 58) rfl rfl) rfl ?_
        refine Ops.pv (pv_lss rfl rfl) rfl ?_
        refine Ops.nil ?_
        refine Ends.seq ?_
        first | refine Wp.cond_dect rfl (fun h6 => ?_) (fun h6 => ?_) | refine Wp.cond_t rfl (fun h6 => ?_) (fun h6 => ?_)
        · obtain ⟨y1, hy1⟩ : ∃ y, l1[k]? = some y := ⟨_, List.getElem?_eq_getElem (by omega)⟩
          obtain ⟨_, bb, oo, ccc, TT, ff, rfl, hmm1, hr1⟩ := ha1 k [.int .i64 y1] (by rw [List.getElem?_map, hy1]; rfl)
          have hbg1 : Blk G bb (.cells ccc.toArray TT ff) := ⟨hmm1⟩
          obtain ⟨q, hqq⟩ : ∃ q, q = uI y1 % (dfull p.l).length := ⟨_, rfl⟩
          have hql : q < (dfull p.l).length := by rw [hqq]; exact Nat.mod_lt _ (by omega)
          have hqI : (uI y1 : Int).tmod ((dfull p.l).length : Int) = (q : Int) := by rw [hqq]; exact tmod_nat rfl
          refine Wp.region ?_
          refine Ops.pv (pv_move rfl) rfl ?_
          refine Ops.pv (pv_move rfl) rfl ?_
          refine Ops.pv (pv_indexAddr (i := k) rfl rfl rfl (by omega)) rfl ?_
          refine Ops.pv (pv_load rfl rfl hr1.1) rfl ?_
          refine Ops.pv (pv_conv rfl (uI_eq y1)) rfl ?_
          refine Ops.pv (pv_move rfl) rfl ?_
          refine Ops.pv (pv_len_slice (T := 41) rfl rfl) rfl ?_
          refine Ops.pv (pv_conv rfl (u64n (k := (dfull p.l).length) rfl (by omega))) rfl ?_
          refine Ops.pv (pv_rem rfl rfl (by omega) hqI) rfl ?_
          refine Ops.pv (pv_conv rfl (w64n (k := q) rfl (by omega))) rfl ?_
          refine Ops.pv (pv_assign rfl) rfl ?_
          refine Ops.nil ?_
          refine Ends.goes ?_
          refine Goes.back (hC0 q hql) ⟨rfl, rfl, rfl, rfl, rfl, trivial⟩
        · refine Wp.skip ?_
          refine Ends.goes ?_
          refine Goes.back (hC0 0 (by omega)) ⟨rfl, rfl, rfl, rfl, rfl, trivial⟩
      rintro q hq9
      dsimp only [List.cons_append, List.nil_append] at ⊢
      obtain ⟨sl, hsl⟩ : ∃ s, (dfull p.l)[q]? = some s := ⟨_, List.getElem?_eq_getElem (by omega)⟩
      have hresl := hr.sub (i := q * 2) (l := 2)
      rw [slots_reads hsl] at hresl
      have hsm := List.mem_of_getElem? hsl
      have hks := (mem_dfull hp.rel).1 hsm
      obtain ⟨ht1, ht2⟩ := take_ans hp hsm
      have hkk := ftKids_len p.F sl
      have hln := hT.len
      have hfl2 := full_take_len hp hsm
      refine Wp.seq ?_
      refine Wp.region ?_
      refine Ops.pv (pv_move rfl) rfl ?_
      refine Ops.pv (pv_move rfl) rfl ?_
      refine Ops.pv (pv_indexAddr (i := q) rfl rfl rfl (by omega)) rfl ?_
      refine Ops.pv (pv_loadK [.int .i64 sl.1, .int .i64 sl.2] rfl rfl rfl hresl) rfl ?_
      refine Ops.ef rfl (ef_allocK tyZ38 rfl) ?_
      rintro _ _ ⟨b1, rfl, rfl⟩
      refine Ops.ef rfl (ef_storeK rfl rfl rfl rfl) ?_
      rintro _ _ ⟨rfl, rfl⟩
      refine Ops.nil ?_
      refine Ends.seq ?_
      refine Wp.seq ?_
      refine Wp.region ?_
      refine Ops.pv (pv_move rfl) rfl ?_
      refine Ops.pv (pv_loadK [_, _] rfl rfl rfl ⟨rfl, rfl, trivial⟩) rfl ?_
      refine Ops.ef rfl (ef_callr (tr_mPar _ cb1 _ p ⟨_, _, _, _, hS, hT, rfl⟩ sl) rfl rfl) ?_
      rintro _ _ ⟨rfl, rfl⟩
      refine Ops.pv (pv_move rfl) rfl ?_
      refine Ops.pv (pv_extract rfl rfl) rfl ?_
      refine Ops.pv (pv_extract rfl rfl) rfl ?_
      refine Ops.ef rfl (ef_allocK tyZ38 rfl) ?_
      rintro _ _ ⟨b2, rfl, rfl⟩
      refine Ops.ef rfl (ef_storeK rfl rfl rfl rfl) ?_
      rintro _ _ ⟨rfl, rfl⟩
      refine Ops.pv (pv_assign rfl) rfl ?_
      refine Ops.nil ?_
      refine Ends.seq ?_
      refine Wp.seq ?_
      refine Wp.region ?_
      refine Ops.pv (pv_move rfl) rfl ?_
      refine Ops.pv (pv_loadK [_, _] rfl rfl rfl ⟨rfl, rfl, trivial⟩) rfl ?_
      refine Ops.ef rfl (ef_call (tr_mKids _ cb1 _ p ⟨_, _, _, _, hS, hT, rfl⟩ (by omega) sl) rfl rfl) ?_
      rintro _ _ ⟨_, _, ⟨C3, hc3, rfl⟩, rfl, rfl⟩
      refine Ops.app ?_
      obtain ⟨pp3, qq3, rfl⟩ := hc3.form
      refine Ops.pv (pv_assign rfl) rfl ?_
      refine Ops.nil ?_
      refine Ends.seq ?_
      refine Wp.cutK (σ := Nat) [(1, _), (5, _), (7, _), (8, _), (10, _), (11, _), (12, _), (13, _)] (fun s => [(14, .pointer (some ⟨s, 0, none⟩))]) (fun s => (s, .cells (dget p.l sl).1.cells.toArray 24) :: (C3 ++ ((b2, .cells [.int .i64 (ftPar p.F sl).1, .int .i64 (ftPar p.F sl).2].toArray 38) :: (b1, .cells [.int .i64 sl.1, .int .i64 sl.2].toArray 38) :: (C1 ++ (cBlk cb1 sb tb :: (Ls ++ (Lt ++ (G ++ F)))))))) (fun s => True) ⟨rfl, rfl, rfl, rfl, rfl, rfl, rfl, rfl, trivial⟩ (fun _ KK hC0 => ?_) ?_
      · dsimp only [List.cons_append, List.nil_append] at hC0
        refine AnyH.start ((b1, .cells [.int .i64 sl.1, .int .i64 sl.2].toArray 38) :: cBlk cb1 sb tb :: []) 13 rfl ?_
        refine AnyH.take 0 rfl (by kernel_rfl) (by kernel_rfl) (by kernel_rfl) PF.pf rfl (pv_move rfl) rfl ?_
        first | refine AnyH.take 1 rfl (by kernel_rfl) (by kernel_rfl) (by kernel_rfl) PF.pf rfl (pv_nilCheck rfl) rfl ?_ | refine AnyH.take 1 rfl (by kernel_rfl) (by kernel_rfl) (by kernel_rfl) PF.pf rfl (pv_nilCheck_func rfl rfl) rfl ?_
        first | refine AnyH.take 2 rfl (by kernel_rfl) (by kernel_rfl) (by kernel_rfl) PF.pf rfl (pv_fieldAddr0 rfl rfl) rfl ?_ | refine AnyH.take 2 rfl (by kernel_rfl) (by kernel_rfl) (by kernel_rfl) PF.pf rfl (pv_fieldAddr rfl rfl) rfl ?_
        first | refine AnyH.take 3 rfl (by kernel_rfl) (by kernel_rfl) (by kernel_rfl) PF.pf rfl (pv_fieldAddr0 rfl rfl) rfl ?_ | refine AnyH.take 3 rfl (by kernel_rfl) (by kernel_rfl) (by kernel_rfl) PF.pf rfl (pv_fieldAddr rfl rfl) rfl ?_
        first | refine AnyH.take 4 rfl (by kernel_rfl) (by kernel_rfl) (by kernel_rfl) PF.pf rfl (pv_load rfl rfl rfl) rfl ?_ | refine AnyH.take 4 rfl (by kernel_rfl) (by kernel_rfl) (by kernel_rfl) PF.pf rfl (pv_load rfl rfl (by assumption)) rfl ?_
        refine AnyH.take 5 rfl (by kernel_rfl) (by kernel_rfl) (by kernel_rfl) PF.pf rfl (pv_loadK [_, _] rfl rfl rfl ⟨rfl, rfl, trivial⟩) rfl ?_
        refine AnyH.two 6 10 (by kernel_rfl) ?_ ?_
        · refine Turn.ef rfl rfl (ef_callr (sf_get hS sl) rfl rfl) ?_ ?_
          · rintro _ _ ⟨rfl, rfl⟩; infer_instance
          rintro _ _ ⟨rfl, rfl⟩
          refine AnyH.take 7 rfl (by kernel_rfl) (by kernel_rfl) (by kernel_rfl) PF.pf rfl (pv_move rfl) rfl ?_
          refine AnyH.take 8 rfl (by kernel_rfl) (by kernel_rfl) (by kernel_rfl) PF.pf rfl (pv_extract rfl rfl) rfl ?_
          refine AnyH.take 9 rfl (by kernel_rfl) (by kernel_rfl) (by kernel_rfl) PF.pf rfl (pv_extract rfl rfl) rfl ?_
          refine AnyH.one 10 (by kernel_rfl) ?_
          refine Turn.ef rfl rfl (ef_allocK tyZ24 rfl) ?_ ?_
          · rintro _ _ ⟨b3, rfl, rfl⟩; infer_instance
          rintro _ _ ⟨b3, rfl, rfl⟩
          refine AnyH.one 11 (by kernel_rfl) ?_
          refine Turn.ef rfl rfl (ef_storeK rfl rfl rfl rfl) ?_ ?_
          · rintro _ _ ⟨rfl, rfl⟩; infer_instance
          rintro _ _ ⟨rfl, rfl⟩
          refine AnyH.take 12 rfl (by kernel_rfl) (by kernel_rfl) (by kernel_rfl) PF.pf rfl (pv_assign rfl) rfl ?_
          refine AnyH.done (by kernel_rfl) ?_
          refine Ends.goes ?_
          refine Goes.back (hC0 b3 trivial) ⟨rfl, rfl, rfl, rfl, rfl, rfl, rfl, rfl, rfl, trivial⟩
        · refine Turn.ef rfl rfl (ef_allocK tyZ24 rfl) ?_ ?_
          · rintro _ _ ⟨b4, rfl, rfl⟩; infer_instance
          rintro _ _ ⟨b4, rfl, rfl⟩
          refine AnyH.one 6 (by kernel_rfl) ?_
          refine Turn.ef rfl rfl (ef_callr (sf_get hS sl) rfl rfl) ?_ ?_
          · rintro _ _ ⟨rfl, rfl⟩; infer_instance
          rintro _ _ ⟨rfl, rfl⟩
          refine AnyH.take 7 rfl (by kernel_rfl) (by kernel_rfl) (by kernel_rfl) PF.pf rfl (pv_move rfl) rfl ?_
          refine AnyH.take 8 rfl (by kernel_rfl) (by kernel_rfl) (by kernel_rfl) PF.pf rfl (pv_extract rfl rfl) rfl ?_
          refine AnyH.take 9 rfl (by kernel_rfl) (by kernel_rfl) (by kernel_rfl) PF.pf rfl (pv_extract rfl rfl) rfl ?_
          refine AnyH.one 11 (by kernel_rfl) ?_
          refine Turn.ef rfl rfl (ef_storeK rfl rfl rfl rfl) ?_ ?_
          · rintro _ _ ⟨rfl, rfl⟩; infer_instance
          rintro _ _ ⟨rfl, rfl⟩
          refine AnyH.take 12 rfl (by kernel_rfl) (by kernel_rfl) (by kernel_rfl) PF.pf rfl (pv_assign rfl) rfl ?_
          refine AnyH.done (by kernel_rfl) ?_
          refine Ends.goes ?_
          refine Goes.back (hC0 b4 trivial) ⟨rfl, rfl, rfl, rfl, rfl, rfl, rfl, rfl, rfl, trivial⟩
      rintro va _
      dsimp only [List.cons_append, List.nil_append] at ⊢
      refine Wp.seq ?_
      refine Wp.region ?_
      refine Ops.pv (pv_move rfl) rfl ?_
      refine Ops.pv (pv_loadK [_, _] rfl rfl rfl ⟨rfl, rfl, trivial⟩) rfl ?_
      refine Ops.ef rfl (ef_call ((tr_mTake _ cb1 _ p ⟨_, _, _, _, hS, hT, rfl⟩ (by omega) sl).mono (R' := fun u L' => u = .tuple #[(dget p.l sl).1.v, .int .i64 0] ∧ CapsH _ (mTake p sl).2.2 cb1 L') (by intro u L' h; rw [ht1, ht2] at h; exact h)) rfl rfl) ?_
      rintro _ _ ⟨_, _, ⟨rfl, sb2, tb2, Ls2, Lt2, hS2, hT2, rfl⟩, rfl, rfl⟩
      refine Ops.app ?_
      refine Ops.pv (pv_move rfl) rfl ?_
      refine Ops.pv (pv_extract rfl rfl) rfl ?_
      refine Ops.pv (pv_extract rfl rfl) rfl ?_
      refine Ops.ef rfl (ef_allocK tyZ24 rfl) ?_
      rintro _ _ ⟨b5, rfl, rfl⟩
      refine Ops.ef rfl (ef_storeK rfl rfl rfl rfl) ?_
      rintro _ _ ⟨rfl, rfl⟩
      refine Ops.pv (pv_assign rfl) rfl ?_
      refine Ops.nil ?_
      refine Ends.seq ?_
      refine Wp.seq ?_
      refine Wp.seq ?_
      refine Wp.region ?_
      refine Ops.pv (pv_move rfl) rfl ?_
      refine Ops.pv ((pv_neq rfl rfl).fls (by first | exact fun h => h rfl | decide | omega | assumption)) rfl ?_
      refine Ops.pv (pv_move rfl) rfl ?_
      refine Ops.pvg ⟨_, _, rfl, rfl, rfl⟩ (pv_loadK [_, _, _, _, _, _] rfl rfl rfl ⟨rfl, rfl, rfl, rfl, rfl, rfl, trivial⟩) rfl ?_
      refine Ops.pvg ⟨_, _, rfl, rfl, rfl⟩ (pv_loadK [_, _, _, _, _, _] rfl rfl rfl ⟨rfl, rfl, rfl, rfl, rfl, rfl, trivial⟩) rfl ?_
      refine Ops.pvg ⟨_, _, rfl, rfl, rfl⟩ ((pv_neq_cap (a := (dget p.l sl).1) (b := (dget p.l sl).1) rfl rfl).fls (fun h => h rfl)) rfl ?_
      refine Ops.pv (pv_pick_false rfl rfl) rfl ?_
      refine Ops.pv (pv_move rfl) rfl ?_
      refine Ops.pvg ⟨_, _, rfl, rfl, rfl⟩ (pv_move rfl) rfl ?_
      first | refine Ops.pvg ⟨_, _, rfl, rfl, rfl⟩ (pv_nilCheck rfl) rfl ?_ | refine Ops.pvg ⟨_, _, rfl, rfl, rfl⟩ (pv_nilCheck_func rfl rfl) rfl ?_
      first | refine Ops.pvg ⟨_, _, rfl, rfl, rfl⟩ (pv_fieldAddr0 rfl rfl) rfl ?_ | refine Ops.pvg ⟨_, _, rfl, rfl, rfl⟩ (pv_fieldAddr rfl rfl) rfl ?_
      first | refine Ops.pvg ⟨_, _, rfl, rfl, rfl⟩ (pv_fieldAddr0 rfl rfl) rfl ?_ | refine Ops.pvg ⟨_, _, rfl, rfl, rfl⟩ (pv_fieldAddr rfl rfl) rfl ?_
      first | refine Ops.pvg ⟨_, _, rfl, rfl, rfl⟩ (pv_load rfl rfl rfl) rfl ?_ | refine Ops.pvg ⟨_, _, rfl, rfl, rfl⟩ (pv_load rfl rfl (by assumption)) rfl ?_
      refine Ops.efg ⟨_, _, rfl, rfl, rfl⟩ (ef_call (sf_full hS2) rfl rfl) ?_
      rintro _ _ ⟨_, _, ⟨C4, hc4, rfl⟩, rfl, rfl⟩
      refine Ops.app ?_
      obtain ⟨pp4, qq4, rfl⟩ := hc4.form
      refine Ops.pvg ⟨_, _, rfl, rfl, rfl⟩ (pv_len_slice (T := 41) rfl rfl) rfl ?_
      refine Ops.pvg ⟨_, _, rfl, rfl, rfl⟩ (pv_move rfl) rfl ?_
      refine Ops.pvg ⟨_, _, rfl, rfl, rfl⟩ (pv_len_slice (T := 41) rfl rfl) rfl ?_
      refine Ops.pvg ⟨_, _, rfl, rfl, rfl⟩ (pv_sub rfl rfl (w64 (by omega) (by omega))) rfl ?_
      refine Ops.pvg ⟨_, _, rfl, rfl, rfl⟩ ((pv_neq rfl rfl).fls (by first | exact fun h => h rfl | decide | omega | assumption)) rfl ?_
      refine Ops.pv (pv_pick_false rfl rfl) rfl ?_
      refine Ops.nil ?_
      refine Ends.seq ?_
      refine Wp.cond_false rfl ?_
      refine Wp.skip ?_
      refine Ends.seq ?_
      refine Wp.seq ?_
      refine Wp.region ?_
      refine Ops.pv (pv_assign rfl) rfl ?_
      refine Ops.nil ?_
      refine Ends.seq ?_
      refine Wp.block ?_
      refine Wp.loopK (σ := Nat) [(1, _), (5, _), (7, _), (11, _), (12, _), (13, _)] (fun s => [(18, .int .i64 s)]) (fun s => C3 ++ ((b2, .cells [.int .i64 (ftPar p.F sl).1, .int .i64 (ftPar p.F sl).2].toArray 38) :: (cBlk cb1 sb2 tb2 :: (Ls2 ++ (Lt2 ++ (G ++ F)))))) (fun s => s ≤ (ftKids p.F sl).length) (fun s => (ftKids p.F sl).length - s) 0 (Nat.zero_le _) ⟨rfl, rfl, rfl, rfl, rfl, rfl, trivial⟩ ⟨rfl, trivial⟩ (by intro w ho; (try dsimp only [List.nil_append, List.cons_append]); exact Drop.own ho) ?_
      rintro m KK hm9 hK1
      dsimp only [List.cons_append, List.nil_append] at hK1 ⊢
      refine Wp.seq ?_
      refine Wp.seq ?_
      refine Wp.region ?_
      refine Ops.pv (pv_move rfl) rfl ?_
      refine Ops.pv (pv_move rfl) rfl ?_
      refine Ops.pv (pv_len_slice (T := 41) rfl rfl) rfl ?_
      refine Ops.pv (pv_lss rfl rfl) rfl ?_
      refine Ops.nil ?_
      refine Ends.seq ?_
      first | refine Wp.cond_dect rfl (fun h7 => ?_) (fun h7 => ?_) | refine Wp.cond_t rfl (fun h7 => ?_) (fun h7 => ?_)
      · obtain ⟨bq5, o5, cap5, cc5, T5, f5, hv5, hbv5, hr5⟩ := hc3.view.open (by omega)
        cases hv5
        obtain ⟨y, hy⟩ : ∃ s, (ftKids p.F sl)[m]? = some s := ⟨_, List.getElem?_eq_getElem (by omega)⟩
        have hrey := hr5.sub (i := m * 2) (l := 2)
        rw [slots_reads hy] at hrey
        have hyk := List.mem_of_getElem? hy
        refine Wp.skip ?_
        refine Ends.seq ?_
        refine Wp.seq ?_
        refine Wp.block ?_
        refine Wp.seq ?_
        refine Wp.region ?_
        refine Ops.pv (pv_move rfl) rfl ?_
        refine Ops.pv (pv_move rfl) rfl ?_
        refine Ops.pv (pv_move rfl) rfl ?_
        refine Ops.pv (pv_indexAddr (i := m) rfl rfl rfl (by omega)) rfl ?_
        refine Ops.pv (pv_loadK [.int .i64 y.1, .int .i64 y.2] rfl rfl rfl hrey) rfl ?_
        refine Ops.ef rfl (ef_callr ((tr_mPar _ cb1 _ (mTake p sl).2.2 ⟨_, _, _, _, hS2, hT2, rfl⟩ y).eq (r' := .tuple #[slotV (ftPar p.F sl), .bool (ftParB p.F sl)]) (by rw [(kid_par2 hp hsm hyk).1, (kid_par2 hp hsm hyk).2])) rfl rfl) ?_
        rintro _ _ ⟨rfl, rfl⟩
        refine Ops.pv (pv_move rfl) rfl ?_
        refine Ops.pv (pv_extract rfl rfl) rfl ?_
        refine Ops.pv (pv_extract rfl rfl) rfl ?_
        refine Ops.ef rfl (ef_allocK tyZ38 rfl) ?_
        rintro _ _ ⟨b6, rfl, rfl⟩
        refine Ops.ef rfl (ef_storeK rfl rfl rfl rfl) ?_
        rintro _ _ ⟨rfl, rfl⟩
        refine Ops.pv (pv_assign rfl) rfl ?_
        refine Ops.nil ?_
        refine Ends.seq ?_
        refine Wp.seq ?_
        refine Wp.region ?_
        refine Ops.pv (pv_move rfl) rfl ?_
        refine Ops.pv (pv_move rfl) rfl ?_
        refine Ops.pv ((pv_neq_bool rfl rfl).is (u := .bool false) (by first | rfl | (simp; done) | simp_all)) rfl ?_
        refine Ops.pv (pv_move rfl) rfl ?_
        refine Ops.pvg ⟨_, _, rfl, rfl, rfl⟩ (pv_loadK [_, _] rfl rfl rfl ⟨rfl, rfl, trivial⟩) rfl ?_
        refine Ops.pvg ⟨_, _, rfl, rfl, rfl⟩ (pv_loadK [_, _] rfl rfl rfl ⟨rfl, rfl, trivial⟩) rfl ?_
        refine Ops.pvg ⟨_, _, rfl, rfl, rfl⟩ ((pv_neq_slot rfl rfl).fls (by first | exact fun h => h rfl | decide | omega | assumption)) rfl ?_
        refine Ops.pv (pv_pick_false rfl rfl) rfl ?_
        refine Ops.nil ?_
        refine Ends.seq ?_
        refine Wp.cond_false rfl ?_
        refine Wp.skip ?_
        refine Ends.block_normal ?_
        refine Ends.seq ?_
        refine Wp.region ?_
        refine Ops.pv (pv_move rfl) rfl ?_
        first | refine Ops.pv (pv_add rfl rfl (w64 (by omega) (by omega))) rfl ?_ | refine Ops.pv (pv_add rfl rfl rfl) rfl ?_
        refine Ops.pv (pv_assign rfl) rfl ?_
        refine Ops.nil ?_
        refine Ends.goes ?_
        refine Goes.back (hK1 (m + 1) (by omega) (by omega)) ⟨rfl, rfl, rfl, rfl, rfl, rfl, rfl, trivial⟩
      · refine Wp.exit ?_
        refine Ends.then_exit ?_
        refine Ends.then_exit ?_
        refine Ends.block_hit ?_
        refine Ends.block_normal ?_
        refine Ends.seq ?_
        refine Wp.region ?_
        refine Ops.pv (pv_move rfl) rfl ?_
        refine Ops.pv (pv_add rfl rfl (w64n (k := k + 1) (by omega) (by omega))) rfl ?_
        refine Ops.pv (pv_assign rfl) rfl ?_
        refine Ops.nil ?_
        refine Ends.goes ?_
        refine Goes.back (hK (k + 1, (mTake p sl).2.2, sb2, tb2, Ls2, Lt2) ⟨by dsimp only; omega, hS2, hT2, hp.take sl, by dsimp only; rw [shape_mtake]; exact hsh⟩ (by dsimp only; omega)) ⟨rfl, rfl, rfl, trivial⟩

end Go.Proofs.Ytdodfnjmkpgdbaa
