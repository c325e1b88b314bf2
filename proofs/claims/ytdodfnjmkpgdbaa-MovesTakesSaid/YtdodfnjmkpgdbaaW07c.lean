/- Walks of layer 7, third part: Count and SlotsCounts. No condition. -/
import Derived.Test.YtdodfnjmkpgdbaaM07e
import Derived.Test.YtdodfnjmkpgdbaaM07o
import Derived.Test.YtdodfnjmkpgdbaaW07b
set_option linter.unusedVariables false
set_option linter.unusedSimpArgs false
namespace Go.Proofs.Ytdodfnjmkpgdbaa
open Go.SL
attribute [local irreducible] fullM

set_option maxHeartbeats 2000000 in
theorem tr_count (sb : Nat) (S : StoreM) (k o : Int) (hwf : S.Wf) (ht : S.Tidy) : TrR Try.prog 41 [.pointer (some ⟨sb, 0, none⟩), .int .i64 k, .int .i64 o] (storeHp sb S) (.int .i64 (countM S k o)) := by
  refine Tr.enter Try.func41 rfl Try.ntmps41 rfl (fun W F => ?_)
  refine Wp.app ?_
  refine Wp.seq ?_
  refine Wp.region ?_
  refine Ops.pv (pv_assign rfl) rfl ?_
  refine Ops.nil ?_
  refine Ends.seq ?_
  refine Wp.seq ?_
  refine Wp.region ?_
  refine Ops.pv (pv_assign rfl) rfl ?_
  refine Ops.nil ?_
  refine Ends.seq ?_
  refine Wp.seq ?_
  refine Wp.seq ?_
  refine Wp.region ?_
  refine Ops.pv (pv_move rfl) rfl ?_
  refine Ops.ef rfl (ef_call (tr_full sb S hwf) rfl rfl) ?_
  rintro _ _ ⟨_, _, ⟨H1, hs1, rfl⟩, rfl, rfl⟩
  refine Ops.app ?_
  obtain ⟨p, q, rfl⟩ := hs1.form
  have hv := hs1.view
  refine Ops.pv (pv_len_slice (T := 41) rfl rfl) rfl ?_
  refine Ops.pv (pv_move rfl) rfl ?_
  refine Ops.nil ?_
  refine Ends.seq ?_
  refine Wp.block ?_
  refine Wp.loop (σ := Nat) (fun i => [(0, .pointer (some ⟨sb, 0, none⟩)), (1, .int .i64 k), (2, .int .i64 o), (6, .int .i64 0), (7, .int .i64 (cntUpto S k o i)), (12, .slice p (fullM S).length q), (13, .int .i64 (fullM S).length), (14, .int .i64 i)]) (fun i => H1 ++ (storeHp sb S ++ F)) (fun i => i ≤ (fullM S).length) (fun i => (fullM S).length - i) 0 (Nat.zero_le _) (by exact ⟨rfl, rfl, rfl, rfl, by rw [cntUpto_zero]; rfl, rfl, rfl, rfl, trivial⟩) (by intro w ho; exact Drop.own ho) ?_
  intro i K hi hK
  refine Wp.seq ?_
  refine Wp.region ?_
  refine Ops.pv (pv_lss rfl rfl) rfl ?_
  refine Ops.nil ?_
  refine Ends.seq ?_
  refine Wp.seq ?_
  first | refine Wp.cond_dect rfl (fun h1 => ?_) (fun h1 => ?_) | refine Wp.cond_t rfl (fun h1 => ?_) (fun h1 => ?_)
  · obtain ⟨s, hsi⟩ : ∃ s, (fullM S)[i]? = some s := ⟨_, List.getElem?_eq_getElem (by omega)⟩
    obtain ⟨n, c, hn, hc, hk, hck, hadr, hg⟩ := full_cap ht (List.mem_of_getElem? hsi)
    have hblk := S.blk (sb := sb) hn
    obtain ⟨b, o1, cap, cc, T, f, hv1, hbv, hr⟩ := hv.elem (i := i) (by omega)
    cases hv1
    rw [slots_reads hsi] at hr
    have hfl : (fullM S).length ≤ 1024 := full_len S
    have hcle := cntUpto_le S k o (i + 1)
    have hsu := cntUpto_succ (k := k) (o := o) hsi
    refine Wp.skip ?_
    refine Ends.seq ?_
    refine Wp.seq ?_
    refine Wp.block ?_
    refine Wp.seq ?_
    refine Wp.region ?_
    refine Ops.pv (pv_indexAddr (i := i) rfl rfl rfl (by omega)) rfl ?_
    refine Ops.pv (pv_loadK [.int .i64 s.1, .int .i64 s.2] rfl rfl rfl hr) rfl ?_
    refine Ops.ef rfl (ef_allocK tyZ38 rfl) ?_
    rintro _ _ ⟨b1, rfl, rfl⟩
    refine Ops.ef rfl (ef_storeK rfl rfl rfl rfl) ?_
    rintro _ _ ⟨rfl, rfl⟩
    refine Ops.nil ?_
    refine Ends.seq ?_
    refine Wp.seq ?_
    refine Wp.region ?_
    refine Ops.pv (pv_move rfl) rfl ?_
    refine Ops.pv (pv_loadK [_, _] rfl rfl rfl ⟨rfl, rfl, trivial⟩) rfl ?_
    refine Ops.ef rfl (ef_callr (tr_slot sb S s hwf) rfl rfl) ?_
    rintro _ _ ⟨rfl, rfl⟩
    rw [hadr]
    refine Ops.pv (pv_assign rfl) rfl ?_
    refine Ops.nil ?_
    refine Ends.seq ?_
    refine Wp.seq ?_
    refine Wp.region ?_
    refine Ops.pv (pv_move rfl) rfl ?_
    first | refine Ops.pv (pv_nilCheck rfl) rfl ?_ | refine Ops.pv (pv_nilCheck_func rfl rfl) rfl ?_
    first | refine Ops.pv (pv_fieldAddr0 rfl rfl) rfl ?_ | refine Ops.pv (pv_fieldAddr rfl rfl) rfl ?_
    refine Ops.pv (pv_load rfl rfl (NodeM.reads hc).1) rfl ?_
    refine Ops.pv (pv_move rfl) rfl ?_
    refine Ops.pv (pv_eql rfl rfl) rfl ?_
    refine Ops.pv (pv_move rfl) rfl ?_
    first | refine Ops.split (t := 27) rfl (fun h2 => ?_) (fun h2 => ?_) | refine Ops.splitb (t := 27) rfl (fun h2 => ?_) (fun h2 => ?_)
    · refine Ops.pvg ⟨_, _, rfl, rfl, rfl⟩ (pv_move rfl) rfl ?_
      first | refine Ops.pvg ⟨_, _, rfl, rfl, rfl⟩ (pv_nilCheck rfl) rfl ?_ | refine Ops.pvg ⟨_, _, rfl, rfl, rfl⟩ (pv_nilCheck_func rfl rfl) rfl ?_
      first | refine Ops.pvg ⟨_, _, rfl, rfl, rfl⟩ (pv_fieldAddr0 rfl rfl) rfl ?_ | refine Ops.pvg ⟨_, _, rfl, rfl, rfl⟩ (pv_fieldAddr rfl rfl) rfl ?_
      refine Ops.pvg ⟨_, _, rfl, rfl, rfl⟩ (pv_load rfl rfl (NodeM.reads hc).2.1) rfl ?_
      refine Ops.pvg ⟨_, _, rfl, rfl, rfl⟩ (pv_move rfl) rfl ?_
      refine Ops.pvg ⟨_, _, rfl, rfl, rfl⟩ (pv_eql rfl rfl) rfl ?_
      refine Ops.pv (pv_pick_true rfl rfl) rfl ?_
      refine Ops.nil ?_
      refine Ends.seq ?_
      first | refine Wp.cond_dect rfl (fun h3 => ?_) (fun h3 => ?_) | refine Wp.cond_t rfl (fun h3 => ?_) (fun h3 => ?_)
      · refine Wp.region ?_
        refine Ops.pv (pv_move rfl) rfl ?_
        refine Ops.pv (pv_add rfl rfl (w64n (k := cntUpto S k o (i + 1)) (by rw [hsu, if_pos (by simp [isKO, hg, ‹c.kind = k›, ‹c.object = o›])]; omega) (by omega))) rfl ?_
        refine Ops.pv (pv_assign rfl) rfl ?_
        refine Ops.nil ?_
        refine Ends.block_normal ?_
        refine Ends.seq ?_
        refine Wp.region ?_
        first | refine Ops.pv (pv_add rfl rfl (w64 (by omega) (by omega))) rfl ?_ | refine Ops.pv (pv_add rfl rfl rfl) rfl ?_
        refine Ops.pv (pv_move rfl) rfl ?_
        refine Ops.nil ?_
        refine Ends.goes ?_
        refine Goes.back (hK (i + 1) (by omega) (by omega)) ⟨rfl, rfl, rfl, rfl, rfl, rfl, rfl, rfl, trivial⟩
      · refine Wp.skip ?_
        refine Ends.block_normal ?_
        refine Ends.seq ?_
        refine Wp.region ?_
        first | refine Ops.pv (pv_add rfl rfl (w64 (by omega) (by omega))) rfl ?_ | refine Ops.pv (pv_add rfl rfl rfl) rfl ?_
        refine Ops.pv (pv_move rfl) rfl ?_
        refine Ops.nil ?_
        refine Ends.goes ?_
        have e1 : cntUpto S k o (i + 1) = cntUpto S k o i := by rw [hsu, if_neg (by simp only [isKO, hg, Bool.and_eq_true, decide_eq_true_eq]; rintro ⟨x1, x2⟩; first | exact absurd x2 (by assumption) | exact absurd x1 (by assumption))]; rfl
        refine Goes.back (hK (i + 1) (by omega) (by omega)) ⟨rfl, rfl, rfl, rfl, by rw [e1]; rfl, rfl, rfl, rfl, trivial⟩
    · refine Ops.skipg ⟨_, _, rfl, rfl, rfl⟩ rfl ?_
      refine Ops.skipg ⟨_, _, rfl, rfl, rfl⟩ rfl ?_
      refine Ops.skipg ⟨_, _, rfl, rfl, rfl⟩ rfl ?_
      refine Ops.skipg ⟨_, _, rfl, rfl, rfl⟩ rfl ?_
      refine Ops.skipg ⟨_, _, rfl, rfl, rfl⟩ rfl ?_
      refine Ops.skipg ⟨_, _, rfl, rfl, rfl⟩ rfl ?_
      refine Ops.pv (pv_pick_false rfl rfl) rfl ?_
      refine Ops.nil ?_
      refine Ends.seq ?_
      refine Wp.cond_false rfl ?_
      refine Wp.skip ?_
      refine Ends.block_normal ?_
      refine Ends.seq ?_
      refine Wp.region ?_
      first | refine Ops.pv (pv_add rfl rfl (w64 (by omega) (by omega))) rfl ?_ | refine Ops.pv (pv_add rfl rfl rfl) rfl ?_
      refine Ops.pv (pv_move rfl) rfl ?_
      refine Ops.nil ?_
      refine Ends.goes ?_
      have e1 : cntUpto S k o (i + 1) = cntUpto S k o i := by rw [hsu, if_neg (by simp only [isKO, hg, Bool.and_eq_true, decide_eq_true_eq]; rintro ⟨x1, x2⟩; first | exact absurd x2 (by assumption) | exact absurd x1 (by assumption))]; rfl
      refine Goes.back (hK (i + 1) (by omega) (by omega)) ⟨rfl, rfl, rfl, rfl, by rw [e1]; rfl, rfl, rfl, rfl, trivial⟩
  · obtain rfl : i = (fullM S).length := by omega
    refine Wp.exit ?_
    refine Ends.then_exit ?_
    refine Ends.then_exit ?_
    refine Ends.block_hit ?_
    refine Ends.seq ?_
    refine Wp.seq ?_
    refine Wp.region ?_
    refine Ops.pv (pv_move rfl) rfl ?_
    refine Ops.pv (pv_assign rfl) rfl ?_
    refine Ops.nil ?_
    refine Ends.seq ?_
    refine Wp.ret ?_
    exact Ends.ret (res1 rfl rfl) ⟨by rw [cntUpto_all], rfl⟩

end Go.Proofs.Ytdodfnjmkpgdbaa
