/- Walks of layer 7: the document's store answers as the plain functions say. No condition. -/
import Derived.Test.YtpoamckpdpkpoaaM07s
set_option linter.unusedVariables false
set_option linter.unusedSimpArgs false
namespace Go.Proofs.Ytpoamckpdpkpoaa
open Go.SL

theorem tr_dat (qb : Nat) (L : Hp) (l : List DN) (hH : DstH l qb L) (hl : l.length ≤ 2 ^ 20) (x : Int) : TrR Try.prog 62 [.pointer (some ⟨qb, 0, none⟩), .int .i64 x] (L) (.int .i64 (idxM (dIds l) x)) := by
  obtain ⟨v, H, hs, rfl⟩ := hH
  obtain ⟨a, c0, rfl⟩ := hs.form
  have hv := hs.view
  refine Tr.enter Try.func62 rfl Try.ntmps62 rfl (fun W F => ?_)
  refine Wp.app ?_
  refine Wp.seq ?_
  refine Wp.region ?_
  refine Ops.pv (pv_assign rfl) rfl ?_
  refine Ops.nil ?_
  refine Ends.seq ?_
  refine Wp.seq ?_
  refine Wp.seq ?_
  refine Wp.region ?_
  refine Ops.pv (pv_assign rfl) rfl ?_
  refine Ops.nil ?_
  refine Ends.seq ?_
  refine Wp.block ?_
  refine Wp.loopK (σ := Nat) [(0, _), (1, _)] (fun s => [(5, .int .i64 s)]) (fun s => dBlk qb (.slice a l.length c0) :: (H ++ (dCaps l ++ F))) (fun s => s ≤ l.length ∧ ∀ j, j < s → (dIds l)[j]? ≠ some x) (fun s => l.length - s) 0 ⟨Nat.zero_le _, fun j hj => absurd hj (Nat.not_lt_zero j)⟩ ⟨rfl, rfl, trivial⟩ ⟨rfl, trivial⟩ (by intro w ho; (try dsimp only [List.nil_append, List.cons_append]); exact Drop.own ho) ?_
  rintro i KK ⟨hi, hn⟩ hK
  dsimp only [List.cons_append, List.nil_append] at hK ⊢
  refine Wp.seq ?_
  refine Wp.seq ?_
  refine Wp.region ?_
  refine Ops.pv (pv_move rfl) rfl ?_
  refine Ops.pv (pv_move rfl) rfl ?_
  first | refine Ops.pv (pv_nilCheck rfl) rfl ?_ | refine Ops.pv (pv_nilCheck_func rfl rfl) rfl ?_
  first | refine Ops.pv (pv_fieldAddr0 rfl rfl) rfl ?_ | refine Ops.pv (pv_fieldAddr rfl rfl) rfl ?_
  first | refine Ops.pv (pv_load rfl rfl rfl) rfl ?_ | refine Ops.pv (pv_load rfl rfl (by assumption)) rfl ?_
  refine Ops.pv (pv_len_slice (T := 69) rfl rfl) rfl ?_
  refine Ops.pv (pv_lss rfl rfl) rfl ?_
  refine Ops.nil ?_
  refine Ends.seq ?_
  first | refine Wp.cond_dect rfl (fun h1 => ?_) (fun h1 => ?_) | refine Wp.cond_t rfl (fun h1 => ?_) (fun h1 => ?_)
  · obtain ⟨b, o, cap, cc, T, f, hv1, hbv, hr⟩ := hv.open (by omega)
    cases hv1
    obtain ⟨d, hd⟩ : ∃ d, l[i]? = some d := ⟨_, List.getElem?_eq_getElem (by omega)⟩
    have hyd := dids_idx hd
    obtain ⟨q0, q1, q2, _⟩ := cel_reads (f := dnC) hr hd
    refine Wp.skip ?_
    refine Ends.seq ?_
    refine Wp.seq ?_
    refine Wp.block ?_
    refine Wp.seq ?_
    refine Wp.region ?_
    refine Ops.pv (pv_move rfl) rfl ?_
    first | refine Ops.pv (pv_nilCheck rfl) rfl ?_ | refine Ops.pv (pv_nilCheck_func rfl rfl) rfl ?_
    first | refine Ops.pv (pv_fieldAddr0 rfl rfl) rfl ?_ | refine Ops.pv (pv_fieldAddr rfl rfl) rfl ?_
    first | refine Ops.pv (pv_load rfl rfl rfl) rfl ?_ | refine Ops.pv (pv_load rfl rfl (by assumption)) rfl ?_
    refine Ops.pv (pv_move rfl) rfl ?_
    refine Ops.pv (pv_indexAddr (i := i) rfl rfl rfl (by omega)) rfl ?_
    first | refine Ops.pv (pv_fieldAddr0 rfl rfl) rfl ?_ | refine Ops.pv (pv_fieldAddr rfl rfl) rfl ?_
    refine Ops.pv (pv_load rfl rfl q0) rfl ?_
    refine Ops.pv (pv_move rfl) rfl ?_
    refine Ops.pv (pv_eql rfl rfl) rfl ?_
    refine Ops.nil ?_
    refine Ends.seq ?_
    first | refine Wp.cond_dect rfl (fun h2 => ?_) (fun h2 => ?_) | refine Wp.cond_t rfl (fun h2 => ?_) (fun h2 => ?_)
    · refine Wp.seq ?_
      refine Wp.region ?_
      refine Ops.pv (pv_move rfl) rfl ?_
      refine Ops.pv (pv_assign rfl) rfl ?_
      refine Ops.nil ?_
      refine Ends.seq ?_
      refine Wp.ret ?_
      refine Ends.block_ret ?_
      refine Ends.then_ret ?_
      refine Ends.then_ret ?_
      refine Ends.block_ret ?_
      refine Ends.then_ret ?_
      exact Ends.ret (res1 rfl rfl) ⟨by rw [idx_hit (i := i) (by rw [hyd]; congr 1) hn], rfl⟩
    · refine Wp.skip ?_
      refine Ends.block_normal ?_
      refine Ends.seq ?_
      refine Wp.region ?_
      refine Ops.pv (pv_move rfl) rfl ?_
      first | refine Ops.pv (pv_add rfl rfl (w64 (by omega) (by omega))) rfl ?_ | refine Ops.pv (pv_add rfl rfl rfl) rfl ?_
      refine Ops.pv (pv_assign rfl) rfl ?_
      refine Ops.nil ?_
      refine Ends.goes ?_
      refine Goes.back (hK (i + 1) ⟨by omega, fun j hj => ?_⟩ (by omega)) ⟨rfl, rfl, rfl, trivial⟩
      rcases Nat.lt_succ_iff_lt_or_eq.1 hj with hj | rfl
      · exact hn j hj
      · rw [hyd]; intro e; cases e; omega
  · refine Wp.exit ?_
    refine Ends.then_exit ?_
    refine Ends.then_exit ?_
    refine Ends.block_hit ?_
    refine Ends.seq ?_
    refine Wp.seq ?_
    refine Wp.region ?_
    refine Ops.pv (pv_assign rfl) rfl ?_
    refine Ops.nil ?_
    refine Ends.seq ?_
    refine Wp.ret ?_
    exact Ends.ret (res1 rfl rfl) ⟨by rw [idx_miss (fun j hj => hn j (by rw [dIds_len] at hj; omega))], rfl⟩

theorem tr_dradix_none (qb : Nat) (L : Hp) (l : List DN) (hH : DstH l qb L) (hl : l.length ≤ 2 ^ 20) (x : Int) (h : dfind l x = none) : TrR Try.prog 44 [.pointer (some ⟨qb, 0, none⟩), .int .i64 x] (L) (.int .i64 0) := by
  obtain ⟨v, H, hs, rfl⟩ := hH
  obtain ⟨a, c0, rfl⟩ := hs.form
  have hv := hs.view
  refine Tr.enter Try.func44 rfl Try.ntmps44 rfl (fun W F => ?_)
  refine Wp.app ?_
  refine Wp.seq ?_
  refine Wp.region ?_
  refine Ops.pv (pv_assign rfl) rfl ?_
  refine Ops.nil ?_
  refine Ends.seq ?_
  refine Wp.seq ?_
  refine Wp.region ?_
  refine Ops.pv (pv_move rfl) rfl ?_
  refine Ops.pv (pv_move rfl) rfl ?_
  refine Ops.ef rfl (ef_callr ((tr_dat qb _ l ⟨_, H, hs, rfl⟩ hl x).eq (by rw [dfind_none h])) rfl rfl) ?_
  rintro _ _ ⟨rfl, rfl⟩
  refine Ops.pv (pv_assign rfl) rfl ?_
  refine Ops.nil ?_
  refine Ends.seq ?_
  refine Wp.seq ?_
  refine Wp.seq ?_
  refine Wp.region ?_
  refine Ops.pv (pv_move rfl) rfl ?_
  refine Ops.pv ((pv_lss rfl rfl).tru (by first | rfl | decide | omega | assumption | (simp; done) | (simp; omega))) rfl ?_
  refine Ops.nil ?_
  refine Ends.seq ?_
  refine Wp.cond_true rfl ?_
  refine Wp.seq ?_
  refine Wp.region ?_
  refine Ops.pv (pv_assign rfl) rfl ?_
  refine Ops.nil ?_
  refine Ends.seq ?_
  refine Wp.ret ?_
  refine Ends.then_ret ?_
  exact Ends.ret (res1 rfl rfl) ⟨rfl, rfl⟩

theorem tr_dradix_some (qb : Nat) (L : Hp) (l : List DN) (hH : DstH l qb L) (hl : l.length ≤ 2 ^ 20) (x : Int) (d : DN) (h : dfind l x = some d) : TrR Try.prog 44 [.pointer (some ⟨qb, 0, none⟩), .int .i64 x] (L) (.int .i64 d.rad) := by
  obtain ⟨v, H, hs, rfl⟩ := hH
  obtain ⟨a, c0, rfl⟩ := hs.form
  have hv := hs.view
  obtain ⟨i, hi, hd, hid⟩ := dfind_some h
  have hlt := d_lt hd
  obtain ⟨b, o, cap, cc, T, f, hv1, hbv, hr⟩ := hv.open (by omega)
  cases hv1
  obtain ⟨q0, q1, q2, _⟩ := cel_reads (f := dnC) hr hd
  refine Tr.enter Try.func44 rfl Try.ntmps44 rfl (fun W F => ?_)
  refine Wp.app ?_
  refine Wp.seq ?_
  refine Wp.region ?_
  refine Ops.pv (pv_assign rfl) rfl ?_
  refine Ops.nil ?_
  refine Ends.seq ?_
  refine Wp.seq ?_
  refine Wp.region ?_
  refine Ops.pv (pv_move rfl) rfl ?_
  refine Ops.pv (pv_move rfl) rfl ?_
  refine Ops.ef rfl (ef_callr ((tr_dat qb _ l ⟨_, H, hs, rfl⟩ hl x).eq (by rw [hi])) rfl rfl) ?_
  rintro _ _ ⟨rfl, rfl⟩
  refine Ops.pv (pv_assign rfl) rfl ?_
  refine Ops.nil ?_
  refine Ends.seq ?_
  refine Wp.seq ?_
  refine Wp.seq ?_
  refine Wp.region ?_
  refine Ops.pv (pv_move rfl) rfl ?_
  refine Ops.pv ((pv_lss rfl rfl).fls (by first | exact fun h => h rfl | decide | omega | assumption)) rfl ?_
  refine Ops.nil ?_
  refine Ends.seq ?_
  refine Wp.cond_false rfl ?_
  refine Wp.skip ?_
  refine Ends.seq ?_
  refine Wp.seq ?_
  refine Wp.region ?_
  refine Ops.pv (pv_move rfl) rfl ?_
  first | refine Ops.pv (pv_nilCheck rfl) rfl ?_ | refine Ops.pv (pv_nilCheck_func rfl rfl) rfl ?_
  first | refine Ops.pv (pv_fieldAddr0 rfl rfl) rfl ?_ | refine Ops.pv (pv_fieldAddr rfl rfl) rfl ?_
  first | refine Ops.pv (pv_load rfl rfl rfl) rfl ?_ | refine Ops.pv (pv_load rfl rfl (by assumption)) rfl ?_
  refine Ops.pv (pv_move rfl) rfl ?_
  refine Ops.pv (pv_indexAddr (i := i) rfl rfl rfl (by omega)) rfl ?_
  first | refine Ops.pv (pv_fieldAddr0 rfl rfl) rfl ?_ | refine Ops.pv (pv_fieldAddr rfl rfl) rfl ?_
  refine Ops.pv (pv_load rfl rfl q1) rfl ?_
  refine Ops.pv (pv_assign rfl) rfl ?_
  refine Ops.nil ?_
  refine Ends.seq ?_
  refine Wp.ret ?_
  exact Ends.ret (res1 rfl rfl) ⟨rfl, rfl⟩

theorem tr_dradix (qb : Nat) (L : Hp) (l : List DN) (hH : DstH l qb L) (hl : l.length ≤ 2 ^ 20) (x : Int) : TrR Try.prog 44 [.pointer (some ⟨qb, 0, none⟩), .int .i64 x] L (.int .i64 (dradix l x)) := by
  cases h : dfind l x with
  | none => exact (tr_dradix_none qb L l hH hl x h).eq (by simp [dradix, h])
  | some d => exact (tr_dradix_some qb L l hH hl x d h).eq (by simp [dradix, h])

theorem tr_dis_none (qb : Nat) (L : Hp) (l : List DN) (hH : DstH l qb L) (hl : l.length ≤ 2 ^ 20) (s : SlotM) (h : dfind l s.1 = none) : TrR Try.prog 63 [.pointer (some ⟨qb, 0, none⟩), slotV s] (L) (.bool false) := by
  obtain ⟨v, H, hs, rfl⟩ := hH
  obtain ⟨a, c0, rfl⟩ := hs.form
  have hv := hs.view
  refine Tr.enter Try.func63 rfl Try.ntmps63 rfl (fun W F => ?_)
  refine Wp.app ?_
  refine Wp.seq ?_
  refine Wp.region ?_
  refine Ops.ef rfl (ef_boxK rfl rfl) ?_
  rintro _ _ ⟨b1, rfl, rfl⟩
  refine Ops.pv (pv_assign rfl) rfl ?_
  refine Ops.nil ?_
  refine Ends.seq ?_
  refine Wp.seq ?_
  refine Wp.region ?_
  refine Ops.pv (pv_move rfl) rfl ?_
  first | refine Ops.pv (pv_fieldAddr0 rfl rfl) rfl ?_ | refine Ops.pv (pv_fieldAddr rfl rfl) rfl ?_
  first | refine Ops.pv (pv_load rfl rfl rfl) rfl ?_ | refine Ops.pv (pv_load rfl rfl (by assumption)) rfl ?_
  refine Ops.ef rfl (ef_callr ((tr_dat qb _ l ⟨_, H, hs, rfl⟩ hl s.1).eq (by rw [dfind_none h])) rfl rfl) ?_
  rintro _ _ ⟨rfl, rfl⟩
  refine Ops.pv (pv_assign rfl) rfl ?_
  refine Ops.nil ?_
  refine Ends.seq ?_
  refine Wp.seq ?_
  refine AnyH.startL 22 rfl ?_
  refine AnyH.take 0 rfl (by kernel_rfl) (by kernel_rfl) (by kernel_rfl) PF.pf rfl (pv_move rfl) rfl ?_
  refine AnyH.take 1 rfl (by kernel_rfl) (by kernel_rfl) (by kernel_rfl) PF.pf rfl ((pv_geq rfl rfl).fls (by first | exact fun h => h rfl | decide | omega | assumption)) rfl ?_
  refine AnyH.take 2 rfl (by kernel_rfl) (by kernel_rfl) (by kernel_rfl) PF.pf rfl (pv_move rfl) rfl ?_
  refine AnyH.skip 3 rfl (by kernel_rfl) (by kernel_rfl) (by kernel_rfl) PF.pf ⟨_, _, rfl, rfl, rfl⟩ rfl ?_
  refine AnyH.skip 4 rfl (by kernel_rfl) (by kernel_rfl) (by kernel_rfl) PF.pf ⟨_, _, rfl, rfl, rfl⟩ rfl ?_
  refine AnyH.skip 5 rfl (by kernel_rfl) (by kernel_rfl) (by kernel_rfl) PF.pf ⟨_, _, rfl, rfl, rfl⟩ rfl ?_
  refine AnyH.take 6 rfl (by kernel_rfl) (by kernel_rfl) (by kernel_rfl) PF.pf rfl (pv_pick_false rfl rfl) rfl ?_
  refine AnyH.take 7 rfl (by kernel_rfl) (by kernel_rfl) (by kernel_rfl) PF.pf rfl (pv_move rfl) rfl ?_
  refine AnyH.skip 8 rfl (by kernel_rfl) (by kernel_rfl) (by kernel_rfl) PF.pf ⟨_, _, rfl, rfl, rfl⟩ rfl ?_
  refine AnyH.skip 9 rfl (by kernel_rfl) (by kernel_rfl) (by kernel_rfl) PF.pf ⟨_, _, rfl, rfl, rfl⟩ rfl ?_
  refine AnyH.skip 10 rfl (by kernel_rfl) (by kernel_rfl) (by kernel_rfl) PF.pf ⟨_, _, rfl, rfl, rfl⟩ rfl ?_
  refine AnyH.skip 11 rfl (by kernel_rfl) (by kernel_rfl) (by kernel_rfl) PF.pf ⟨_, _, rfl, rfl, rfl⟩ rfl ?_
  refine AnyH.skip 12 rfl (by kernel_rfl) (by kernel_rfl) (by kernel_rfl) PF.pf ⟨_, _, rfl, rfl, rfl⟩ rfl ?_
  refine AnyH.skip 13 rfl (by kernel_rfl) (by kernel_rfl) (by kernel_rfl) PF.pf ⟨_, _, rfl, rfl, rfl⟩ rfl ?_
  refine AnyH.skip 14 rfl (by kernel_rfl) (by kernel_rfl) (by kernel_rfl) PF.pf ⟨_, _, rfl, rfl, rfl⟩ rfl ?_
  refine AnyH.skip 15 rfl (by kernel_rfl) (by kernel_rfl) (by kernel_rfl) PF.pf ⟨_, _, rfl, rfl, rfl⟩ rfl ?_
  refine AnyH.skip 16 rfl (by kernel_rfl) (by kernel_rfl) (by kernel_rfl) PF.pf ⟨_, _, rfl, rfl, rfl⟩ rfl ?_
  refine AnyH.skip 17 rfl (by kernel_rfl) (by kernel_rfl) (by kernel_rfl) PF.pf ⟨_, _, rfl, rfl, rfl⟩ rfl ?_
  refine AnyH.skip 18 rfl (by kernel_rfl) (by kernel_rfl) (by kernel_rfl) PF.pf ⟨_, _, rfl, rfl, rfl⟩ rfl ?_
  refine AnyH.skip 19 rfl (by kernel_rfl) (by kernel_rfl) (by kernel_rfl) PF.pf ⟨_, _, rfl, rfl, rfl⟩ rfl ?_
  refine AnyH.take 20 rfl (by kernel_rfl) (by kernel_rfl) (by kernel_rfl) PF.pf rfl (pv_pick_false rfl rfl) rfl ?_
  refine AnyH.take 21 rfl (by kernel_rfl) (by kernel_rfl) (by kernel_rfl) PF.pf rfl (pv_assign rfl) rfl ?_
  refine AnyH.done (by kernel_rfl) ?_
  refine Ends.seq ?_
  refine Wp.ret ?_
  exact Ends.ret (res1 rfl rfl) ⟨rfl, rfl⟩

theorem tr_dis_some (qb : Nat) (L : Hp) (l : List DN) (hH : DstH l qb L) (hl : l.length ≤ 2 ^ 20) (s : SlotM) (d : DN) (h : dfind l s.1 = some d) : TrR Try.prog 63 [.pointer (some ⟨qb, 0, none⟩), slotV s] (L) (.bool (decide (0 ≤ s.2 ∧ s.2 < d.caps.length))) := by
  obtain ⟨v, H, hs, rfl⟩ := hH
  obtain ⟨a, c0, rfl⟩ := hs.form
  have hv := hs.view
  obtain ⟨i, hi, hd, hid⟩ := dfind_some h
  have hlt := d_lt hd
  obtain ⟨b, o, cap, cc, T, f, hv1, hbv, hr⟩ := hv.open (by omega)
  cases hv1
  obtain ⟨q0, q1, q2, _⟩ := cel_reads (f := dnC) hr hd
  refine Tr.enter Try.func63 rfl Try.ntmps63 rfl (fun W F => ?_)
  refine Wp.app ?_
  refine Wp.seq ?_
  refine Wp.region ?_
  refine Ops.ef rfl (ef_boxK rfl rfl) ?_
  rintro _ _ ⟨b1, rfl, rfl⟩
  refine Ops.pv (pv_assign rfl) rfl ?_
  refine Ops.nil ?_
  refine Ends.seq ?_
  refine Wp.seq ?_
  refine Wp.region ?_
  refine Ops.pv (pv_move rfl) rfl ?_
  first | refine Ops.pv (pv_fieldAddr0 rfl rfl) rfl ?_ | refine Ops.pv (pv_fieldAddr rfl rfl) rfl ?_
  first | refine Ops.pv (pv_load rfl rfl rfl) rfl ?_ | refine Ops.pv (pv_load rfl rfl (by assumption)) rfl ?_
  refine Ops.ef rfl (ef_callr ((tr_dat qb _ l ⟨_, H, hs, rfl⟩ hl s.1).eq (by rw [hi])) rfl rfl) ?_
  rintro _ _ ⟨rfl, rfl⟩
  refine Ops.pv (pv_assign rfl) rfl ?_
  refine Ops.nil ?_
  refine Ends.seq ?_
  refine Wp.seq ?_
  refine AnyH.startL 22 rfl ?_
  refine AnyH.take 0 rfl (by kernel_rfl) (by kernel_rfl) (by kernel_rfl) PF.pf rfl (pv_move rfl) rfl ?_
  refine AnyH.take 1 rfl (by kernel_rfl) (by kernel_rfl) (by kernel_rfl) PF.pf rfl ((pv_geq rfl rfl).tru (by first | rfl | decide | omega | assumption | (simp; done) | (simp; omega))) rfl ?_
  refine AnyH.take 2 rfl (by kernel_rfl) (by kernel_rfl) (by kernel_rfl) PF.pf rfl (pv_move rfl) rfl ?_
  first | refine AnyH.take 3 rfl (by kernel_rfl) (by kernel_rfl) (by kernel_rfl) PF.pf ⟨_, _, rfl, rfl, rfl⟩ (pv_fieldAddr0 rfl rfl) rfl ?_ | refine AnyH.take 3 rfl (by kernel_rfl) (by kernel_rfl) (by kernel_rfl) PF.pf ⟨_, _, rfl, rfl, rfl⟩ (pv_fieldAddr rfl rfl) rfl ?_
  first | refine AnyH.take 4 rfl (by kernel_rfl) (by kernel_rfl) (by kernel_rfl) PF.pf ⟨_, _, rfl, rfl, rfl⟩ (pv_load rfl rfl rfl) rfl ?_ | refine AnyH.take 4 rfl (by kernel_rfl) (by kernel_rfl) (by kernel_rfl) PF.pf ⟨_, _, rfl, rfl, rfl⟩ (pv_load rfl rfl (by assumption)) rfl ?_
  refine AnyH.take 5 rfl (by kernel_rfl) (by kernel_rfl) (by kernel_rfl) PF.pf ⟨_, _, rfl, rfl, rfl⟩ (pv_geq rfl rfl) rfl ?_
  refine AnyH.take 6 rfl (by kernel_rfl) (by kernel_rfl) (by kernel_rfl) PF.pf rfl (pv_pick_true rfl rfl) rfl ?_
  refine AnyH.take 7 rfl (by kernel_rfl) (by kernel_rfl) (by kernel_rfl) PF.pf rfl (pv_move rfl) rfl ?_
  first | refine AnyH.takec 8 rfl (by kernel_rfl) (by kernel_rfl) (by kernel_rfl) PF.pf rfl rfl (fun hg => pv_fieldAddr0 rfl rfl) rfl ?_ | refine AnyH.takec 8 rfl (by kernel_rfl) (by kernel_rfl) (by kernel_rfl) PF.pf rfl rfl (fun hg => pv_fieldAddr rfl rfl) rfl ?_
  first | refine AnyH.takec 9 rfl (by kernel_rfl) (by kernel_rfl) (by kernel_rfl) PF.pf rfl rfl (fun hg => Pv.setE (t := 18) rfl (cv_pos hg) (pv_load rfl rfl rfl)) rfl ?_ | refine AnyH.takec 9 rfl (by kernel_rfl) (by kernel_rfl) (by kernel_rfl) PF.pf rfl rfl (fun hg => Pv.setE (t := 18) rfl (cv_pos hg) (pv_load rfl rfl (by assumption))) rfl ?_
  refine AnyH.takec 10 rfl (by kernel_rfl) (by kernel_rfl) (by kernel_rfl) PF.pf rfl rfl (fun hg => Pv.setE (t := 18) rfl (cv_pos hg) (Pv.setE (t := 19) rfl (cv_pos hg) (pv_move rfl))) rfl ?_
  first | refine AnyH.takec 11 rfl (by kernel_rfl) (by kernel_rfl) (by kernel_rfl) PF.pf rfl rfl (fun hg => Pv.setE (t := 18) rfl (cv_pos hg) (Pv.setE (t := 19) rfl (cv_pos hg) (Pv.setE (t := 20) rfl (cv_pos hg) (pv_nilCheck rfl)))) rfl ?_ | refine AnyH.takec 11 rfl (by kernel_rfl) (by kernel_rfl) (by kernel_rfl) PF.pf rfl rfl (fun hg => Pv.setE (t := 18) rfl (cv_pos hg) (Pv.setE (t := 19) rfl (cv_pos hg) (Pv.setE (t := 20) rfl (cv_pos hg) (pv_nilCheck_func rfl rfl)))) rfl ?_
  first | refine AnyH.takec 12 rfl (by kernel_rfl) (by kernel_rfl) (by kernel_rfl) PF.pf rfl rfl (fun hg => Pv.setE (t := 18) rfl (cv_pos hg) (Pv.setE (t := 19) rfl (cv_pos hg) (Pv.setE (t := 20) rfl (cv_pos hg) (Pv.setE (t := 21) rfl (cv_pos hg) (pv_fieldAddr0 rfl rfl))))) rfl ?_ | refine AnyH.takec 12 rfl (by kernel_rfl) (by kernel_rfl) (by kernel_rfl) PF.pf rfl rfl (fun hg => Pv.setE (t := 18) rfl (cv_pos hg) (Pv.setE (t := 19) rfl (cv_pos hg) (Pv.setE (t := 20) rfl (cv_pos hg) (Pv.setE (t := 21) rfl (cv_pos hg) (pv_fieldAddr rfl rfl))))) rfl ?_
  first | refine AnyH.takec 13 rfl (by kernel_rfl) (by kernel_rfl) (by kernel_rfl) PF.pf rfl rfl (fun hg => Pv.setE (t := 18) rfl (cv_pos hg) (Pv.setE (t := 19) rfl (cv_pos hg) (Pv.setE (t := 20) rfl (cv_pos hg) (Pv.setE (t := 21) rfl (cv_pos hg) (Pv.setE (t := 22) rfl (cv_pos hg) (pv_load rfl rfl rfl)))))) rfl ?_ | refine AnyH.takec 13 rfl (by kernel_rfl) (by kernel_rfl) (by kernel_rfl) PF.pf rfl rfl (fun hg => Pv.setE (t := 18) rfl (cv_pos hg) (Pv.setE (t := 19) rfl (cv_pos hg) (Pv.setE (t := 20) rfl (cv_pos hg) (Pv.setE (t := 21) rfl (cv_pos hg) (Pv.setE (t := 22) rfl (cv_pos hg) (pv_load rfl rfl (by assumption))))))) rfl ?_
  refine AnyH.takec 14 rfl (by kernel_rfl) (by kernel_rfl) (by kernel_rfl) PF.pf rfl rfl (fun hg => Pv.setE (t := 18) rfl (cv_pos hg) (Pv.setE (t := 19) rfl (cv_pos hg) (Pv.setE (t := 20) rfl (cv_pos hg) (Pv.setE (t := 21) rfl (cv_pos hg) (Pv.setE (t := 22) rfl (cv_pos hg) (Pv.setE (t := 23) rfl (cv_pos hg) (pv_move rfl))))))) rfl ?_
  refine AnyH.takec 15 rfl (by kernel_rfl) (by kernel_rfl) (by kernel_rfl) PF.pf rfl rfl (fun hg => Pv.setE (t := 18) rfl (cv_pos hg) (Pv.setE (t := 19) rfl (cv_pos hg) (Pv.setE (t := 20) rfl (cv_pos hg) (Pv.setE (t := 21) rfl (cv_pos hg) (Pv.setE (t := 22) rfl (cv_pos hg) (Pv.setE (t := 23) rfl (cv_pos hg) (Pv.setE (t := 24) rfl (cv_pos hg) (pv_indexAddr (i := i) rfl rfl rfl (by omega))))))))) rfl ?_
  first | refine AnyH.takec 16 rfl (by kernel_rfl) (by kernel_rfl) (by kernel_rfl) PF.pf rfl rfl (fun hg => Pv.setE (t := 18) rfl (cv_pos hg) (Pv.setE (t := 19) rfl (cv_pos hg) (Pv.setE (t := 20) rfl (cv_pos hg) (Pv.setE (t := 21) rfl (cv_pos hg) (Pv.setE (t := 22) rfl (cv_pos hg) (Pv.setE (t := 23) rfl (cv_pos hg) (Pv.setE (t := 24) rfl (cv_pos hg) (Pv.setE (t := 25) rfl (cv_pos hg) (pv_fieldAddr0 rfl rfl))))))))) rfl ?_ | refine AnyH.takec 16 rfl (by kernel_rfl) (by kernel_rfl) (by kernel_rfl) PF.pf rfl rfl (fun hg => Pv.setE (t := 18) rfl (cv_pos hg) (Pv.setE (t := 19) rfl (cv_pos hg) (Pv.setE (t := 20) rfl (cv_pos hg) (Pv.setE (t := 21) rfl (cv_pos hg) (Pv.setE (t := 22) rfl (cv_pos hg) (Pv.setE (t := 23) rfl (cv_pos hg) (Pv.setE (t := 24) rfl (cv_pos hg) (Pv.setE (t := 25) rfl (cv_pos hg) (pv_fieldAddr rfl rfl))))))))) rfl ?_
  refine AnyH.takec 17 rfl (by kernel_rfl) (by kernel_rfl) (by kernel_rfl) PF.pf rfl rfl (fun hg => Pv.setE (t := 18) rfl (cv_pos hg) (Pv.setE (t := 19) rfl (cv_pos hg) (Pv.setE (t := 20) rfl (cv_pos hg) (Pv.setE (t := 21) rfl (cv_pos hg) (Pv.setE (t := 22) rfl (cv_pos hg) (Pv.setE (t := 23) rfl (cv_pos hg) (Pv.setE (t := 24) rfl (cv_pos hg) (Pv.setE (t := 25) rfl (cv_pos hg) (Pv.setE (t := 26) rfl (cv_pos hg) (pv_load rfl rfl q2)))))))))) rfl ?_
  refine AnyH.takec 18 rfl (by kernel_rfl) (by kernel_rfl) (by kernel_rfl) PF.pf rfl rfl (fun hg => Pv.setE (t := 18) rfl (cv_pos hg) (Pv.setE (t := 19) rfl (cv_pos hg) (Pv.setE (t := 20) rfl (cv_pos hg) (Pv.setE (t := 21) rfl (cv_pos hg) (Pv.setE (t := 22) rfl (cv_pos hg) (Pv.setE (t := 23) rfl (cv_pos hg) (Pv.setE (t := 24) rfl (cv_pos hg) (Pv.setE (t := 25) rfl (cv_pos hg) (Pv.setE (t := 26) rfl (cv_pos hg) (Pv.setE (t := 27) rfl (cv_pos hg) (pv_len_slice (T := 116) rfl rfl))))))))))) rfl ?_
  refine AnyH.takec 19 rfl (by kernel_rfl) (by kernel_rfl) (by kernel_rfl) PF.pf rfl rfl (fun hg => Pv.setE (t := 18) rfl (cv_pos hg) (Pv.setE (t := 19) rfl (cv_pos hg) (Pv.setE (t := 20) rfl (cv_pos hg) (Pv.setE (t := 21) rfl (cv_pos hg) (Pv.setE (t := 22) rfl (cv_pos hg) (Pv.setE (t := 23) rfl (cv_pos hg) (Pv.setE (t := 24) rfl (cv_pos hg) (Pv.setE (t := 25) rfl (cv_pos hg) (Pv.setE (t := 26) rfl (cv_pos hg) (Pv.setE (t := 27) rfl (cv_pos hg) (Pv.setE (t := 28) rfl (cv_pos hg) (pv_lss rfl rfl)))))))))))) rfl ?_
  refine AnyH.take 20 rfl (by kernel_rfl) (by kernel_rfl) (by kernel_rfl) PF.pf rfl (pv_pick_and rfl rfl) rfl ?_
  refine AnyH.take 21 rfl (by kernel_rfl) (by kernel_rfl) (by kernel_rfl) PF.pf rfl (pv_assign rfl) rfl ?_
  refine AnyH.done (by kernel_rfl) ?_
  refine Ends.seq ?_
  refine Wp.ret ?_
  exact Ends.ret (res1 rfl rfl) ⟨rfl, rfl⟩

theorem tr_dis_no (qb : Nat) (L : Hp) (l : List DN) (hH : DstH l qb L) (hl : l.length ≤ 2 ^ 20) (s : SlotM) (h : dcap? l s = none) : TrR Try.prog 63 [.pointer (some ⟨qb, 0, none⟩), slotV s] L (.bool false) := by
  cases e : dfind l s.1 with
  | none => exact tr_dis_none qb L l hH hl s e
  | some d => exact (tr_dis_some qb L l hH hl s d e).eq (by rw [decide_eq_false (dcap_none h e)])
theorem tr_dis_yes (qb : Nat) (L : Hp) (l : List DN) (hH : DstH l qb L) (hl : l.length ≤ 2 ^ 20) (s : SlotM) (x : CapM) (h : dcap? l s = some x) : TrR Try.prog 63 [.pointer (some ⟨qb, 0, none⟩), slotV s] L (.bool true) := by
  obtain ⟨d, e, hh, _⟩ := dcap_some h
  exact (tr_dis_some qb L l hH hl s d e).eq (by rw [decide_eq_true hh])

theorem tr_dget_none (qb : Nat) (L : Hp) (l : List DN) (hH : DstH l qb L) (hl : l.length ≤ 2 ^ 20) (s : SlotM) (h : dcap? l s = none) : TrR Try.prog 42 [.pointer (some ⟨qb, 0, none⟩), slotV s] (L) (.tuple #[CapM.zero.v, .int .i64 6]) := by
  obtain ⟨v, H, hs, rfl⟩ := hH
  obtain ⟨a, c0, rfl⟩ := hs.form
  have hv := hs.view
  refine Tr.enter Try.func42 rfl Try.ntmps42 rfl (fun W F => ?_)
  refine Wp.app ?_
  refine Wp.seq ?_
  refine Wp.region ?_
  refine Ops.ef rfl (ef_boxK rfl rfl) ?_
  rintro _ _ ⟨b1, rfl, rfl⟩
  refine Ops.ef rfl (ef_allocK tyZ29 rfl) ?_
  rintro _ _ ⟨b2, rfl, rfl⟩
  refine Ops.pv (pv_assign rfl) rfl ?_
  refine Ops.nil ?_
  refine Ends.seq ?_
  refine Wp.seq ?_
  refine Wp.seq ?_
  refine Wp.region ?_
  refine Ops.pv (pv_move rfl) rfl ?_
  refine Ops.pv (pv_loadK [_, _] rfl rfl rfl ⟨rfl, rfl, trivial⟩) rfl ?_
  refine Ops.ef rfl (ef_callr (tr_dis_no qb _ l ⟨_, H, hs, rfl⟩ hl s h) rfl rfl) ?_
  rintro _ _ ⟨rfl, rfl⟩
  first | refine Ops.pv (pv_not_dec rfl) rfl ?_ | refine Ops.pv (pv_not rfl) rfl ?_
  refine Ops.nil ?_
  refine Ends.seq ?_
  refine Wp.cond_true rfl ?_
  refine Wp.seq ?_
  refine Wp.region ?_
  refine Ops.pv (pv_build rfl) rfl ?_
  refine Ops.ef rfl (ef_storeK rfl rfl rfl rfl) ?_
  rintro _ _ ⟨rfl, rfl⟩
  refine Ops.pv (pv_assign rfl) rfl ?_
  refine Ops.nil ?_
  refine Ends.seq ?_
  refine Wp.ret ?_
  refine Ends.then_ret ?_
  exact Ends.ret (res_list (rs := [.cell 4 29, .tmp 5]) rfl ⟨_, _, rfl, rv_cellK [_, _, _, _, _, _] rfl rfl rfl ⟨rfl, rfl, rfl, rfl, rfl, rfl, trivial⟩, ⟨_, _, rfl, rv_tmp rfl, rfl⟩⟩ rfl) ⟨rfl, rfl⟩

theorem tr_dget_some (qb : Nat) (L : Hp) (l : List DN) (hH : DstH l qb L) (hl : l.length ≤ 2 ^ 20) (s : SlotM) (x : CapM) (h : dcap? l s = some x) : TrR Try.prog 42 [.pointer (some ⟨qb, 0, none⟩), slotV s] (L) (.tuple #[x.v, .int .i64 0]) := by
  obtain ⟨v, H, hs, rfl⟩ := hH
  obtain ⟨a, c0, rfl⟩ := hs.form
  have hv := hs.view
  obtain ⟨d, hf, hh, hx⟩ := dcap_some h
  obtain ⟨i, hi, hd, hid⟩ := dfind_some hf
  have hlt := d_lt hd
  obtain ⟨j, hj⟩ : ∃ j : Nat, s.2 = j := ⟨s.2.toNat, by omega⟩
  have hblk := dCaps_blk hd
  rw [hj, Int.toNat_natCast] at hx
  obtain ⟨b, o, cap, cc, T, f, hv1, hbv, hr⟩ := hv.open (by omega)
  cases hv1
  obtain ⟨q0, q1, q2, _⟩ := cel_reads (f := dnC) hr hd
  refine Tr.enter Try.func42 rfl Try.ntmps42 rfl (fun W F => ?_)
  refine Wp.app ?_
  refine Wp.seq ?_
  refine Wp.region ?_
  refine Ops.ef rfl (ef_boxK rfl rfl) ?_
  rintro _ _ ⟨b1, rfl, rfl⟩
  refine Ops.ef rfl (ef_allocK tyZ29 rfl) ?_
  rintro _ _ ⟨b2, rfl, rfl⟩
  refine Ops.pv (pv_assign rfl) rfl ?_
  refine Ops.nil ?_
  refine Ends.seq ?_
  refine Wp.seq ?_
  refine Wp.seq ?_
  refine Wp.region ?_
  refine Ops.pv (pv_move rfl) rfl ?_
  refine Ops.pv (pv_loadK [_, _] rfl rfl rfl ⟨rfl, rfl, trivial⟩) rfl ?_
  refine Ops.ef rfl (ef_callr (tr_dis_yes qb _ l ⟨_, H, hs, rfl⟩ hl s x h) rfl rfl) ?_
  rintro _ _ ⟨rfl, rfl⟩
  first | refine Ops.pv (pv_not_dec rfl) rfl ?_ | refine Ops.pv (pv_not rfl) rfl ?_
  refine Ops.nil ?_
  refine Ends.seq ?_
  refine Wp.cond_false rfl ?_
  refine Wp.skip ?_
  refine Ends.seq ?_
  refine Wp.seq ?_
  refine AnyH.start ((b1, .cells [.int .i64 s.1, .int .i64 s.2].toArray 31) :: (dBlk qb (.slice (some ⟨b, o, none⟩) l.length c0) :: (H ++ dCaps l))) 17 rfl ?_
  refine AnyH.take 0 rfl (by kernel_rfl) (by kernel_rfl) (by kernel_rfl) PF.pf rfl (pv_move rfl) rfl ?_
  first | refine AnyH.take 1 rfl (by kernel_rfl) (by kernel_rfl) (by kernel_rfl) PF.pf rfl (pv_nilCheck rfl) rfl ?_ | refine AnyH.take 1 rfl (by kernel_rfl) (by kernel_rfl) (by kernel_rfl) PF.pf rfl (pv_nilCheck_func rfl rfl) rfl ?_
  first | refine AnyH.take 2 rfl (by kernel_rfl) (by kernel_rfl) (by kernel_rfl) PF.pf rfl (pv_fieldAddr0 rfl rfl) rfl ?_ | refine AnyH.take 2 rfl (by kernel_rfl) (by kernel_rfl) (by kernel_rfl) PF.pf rfl (pv_fieldAddr rfl rfl) rfl ?_
  first | refine AnyH.take 3 rfl (by kernel_rfl) (by kernel_rfl) (by kernel_rfl) PF.pf rfl (pv_load rfl rfl rfl) rfl ?_ | refine AnyH.take 3 rfl (by kernel_rfl) (by kernel_rfl) (by kernel_rfl) PF.pf rfl (pv_load rfl rfl (by assumption)) rfl ?_
  refine AnyH.take 4 rfl (by kernel_rfl) (by kernel_rfl) (by kernel_rfl) PF.pf rfl (pv_move rfl) rfl ?_
  first | refine AnyH.take 5 rfl (by kernel_rfl) (by kernel_rfl) (by kernel_rfl) PF.pf rfl (pv_fieldAddr0 rfl rfl) rfl ?_ | refine AnyH.take 5 rfl (by kernel_rfl) (by kernel_rfl) (by kernel_rfl) PF.pf rfl (pv_fieldAddr rfl rfl) rfl ?_
  first | refine AnyH.take 6 rfl (by kernel_rfl) (by kernel_rfl) (by kernel_rfl) PF.pf rfl (pv_load rfl rfl rfl) rfl ?_ | refine AnyH.take 6 rfl (by kernel_rfl) (by kernel_rfl) (by kernel_rfl) PF.pf rfl (pv_load rfl rfl (by assumption)) rfl ?_
  first | refine AnyH.take 11 rfl (by kernel_rfl) (by kernel_rfl) (by kernel_rfl) PF.pf rfl (pv_fieldAddr0 rfl rfl) rfl ?_ | refine AnyH.take 11 rfl (by kernel_rfl) (by kernel_rfl) (by kernel_rfl) PF.pf rfl (pv_fieldAddr rfl rfl) rfl ?_
  first | refine AnyH.take 12 rfl (by kernel_rfl) (by kernel_rfl) (by kernel_rfl) PF.pf rfl (pv_load rfl rfl rfl) rfl ?_ | refine AnyH.take 12 rfl (by kernel_rfl) (by kernel_rfl) (by kernel_rfl) PF.pf rfl (pv_load rfl rfl (by assumption)) rfl ?_
  refine AnyH.one 7 (by kernel_rfl) ?_
  refine Turn.ef rfl rfl (ef_callr ((tr_dat qb _ l ⟨_, H, hs, rfl⟩ hl s.1).eq (by rw [hi])) rfl rfl) ?_ ?_
  · rintro _ _ ⟨rfl, rfl⟩; infer_instance
  rintro _ _ ⟨rfl, rfl⟩
  refine AnyH.take 8 rfl (by kernel_rfl) (by kernel_rfl) (by kernel_rfl) PF.pf rfl (pv_indexAddr (i := i) rfl rfl rfl (by omega)) rfl ?_
  first | refine AnyH.take 9 rfl (by kernel_rfl) (by kernel_rfl) (by kernel_rfl) PF.pf rfl (pv_fieldAddr0 rfl rfl) rfl ?_ | refine AnyH.take 9 rfl (by kernel_rfl) (by kernel_rfl) (by kernel_rfl) PF.pf rfl (pv_fieldAddr rfl rfl) rfl ?_
  refine AnyH.take 10 rfl (by kernel_rfl) (by kernel_rfl) (by kernel_rfl) PF.pf rfl (pv_load rfl rfl q2) rfl ?_
  refine AnyH.take 13 rfl (by kernel_rfl) (by kernel_rfl) (by kernel_rfl) PF.pf rfl (pv_indexAddr (i := j) rfl (congrArg (fun z => some (Value.int .i64 z)) hj) rfl (by omega)) rfl ?_
  refine AnyH.take 14 rfl (by kernel_rfl) (by kernel_rfl) (by kernel_rfl) PF.pf rfl (pv_loadK x.cells rfl rfl rfl (caps_reads0 hx)) rfl ?_
  refine AnyH.one 15 (by kernel_rfl) ?_
  refine Turn.ef rfl rfl (ef_storeK rfl rfl rfl rfl) ?_ ?_
  · rintro _ _ ⟨rfl, rfl⟩; infer_instance
  rintro _ _ ⟨rfl, rfl⟩
  refine AnyH.take 16 rfl (by kernel_rfl) (by kernel_rfl) (by kernel_rfl) PF.pf rfl (pv_assign rfl) rfl ?_
  refine AnyH.done (by kernel_rfl) ?_
  refine Ends.seq ?_
  refine Wp.ret ?_
  exact Ends.ret (res_list (rs := [.cell 4 29, .tmp 5]) rfl ⟨_, _, rfl, rv_cellK [_, _, _, _, _, _] rfl rfl rfl ⟨rfl, rfl, rfl, rfl, rfl, rfl, trivial⟩, ⟨_, _, rfl, rv_tmp rfl, rfl⟩⟩ rfl) ⟨rfl, rfl⟩

theorem tr_dget (qb : Nat) (L : Hp) (l : List DN) (hH : DstH l qb L) (hl : l.length ≤ 2 ^ 20) (s : SlotM) : TrR Try.prog 42 [.pointer (some ⟨qb, 0, none⟩), slotV s] L (.tuple #[(dget l s).1.v, .int .i64 (dget l s).2]) := by
  cases h : dcap? l s with
  | none => exact (tr_dget_none qb L l hH hl s h).eq (by rw [dget_none h])
  | some x => exact (tr_dget_some qb L l hH hl s x h).eq (by rw [dget_some h])

theorem tr_check4 (r : Int) : TrR Try.prog 80 [.int .i64 r] ([]) (.bool (decide (0 ≤ r ∧ r ≤ 7))) := by
  refine Tr.enter Try.func80 rfl Try.ntmps80 rfl (fun W F => ?_)
  refine Wp.app ?_
  refine Wp.seq ?_
  refine Wp.region ?_
  refine Ops.pv (pv_assign rfl) rfl ?_
  refine Ops.nil ?_
  refine Ends.seq ?_
  refine Wp.seq ?_
  refine Wp.region ?_
  refine Ops.pv (pv_move rfl) rfl ?_
  refine Ops.pv (pv_geq rfl rfl) rfl ?_
  refine Ops.pv (pv_move rfl) rfl ?_
  refine Ops.pvc rfl rfl (fun hg => pv_move rfl) rfl ?_
  refine Ops.pvc rfl rfl (fun hg => Pv.setE (t := 6) rfl (cv_pos hg) (pv_leq rfl rfl)) rfl ?_
  refine Ops.pv (pv_pick_and rfl rfl) rfl ?_
  refine Ops.pv (pv_assign rfl) rfl ?_
  refine Ops.nil ?_
  refine Ends.seq ?_
  refine Wp.ret ?_
  exact Ends.ret (res1 rfl rfl) ⟨rfl, rfl⟩

theorem tr_guarded (g b : Int) : TrR Try.prog 81 [.int .u64 g, .int .i64 b] ([]) (.bool (decide ((0 ≤ b ∧ b ≤ 16) ∧ g < 2 ^ b.toNat))) := by
  refine Tr.enter Try.func81 rfl Try.ntmps81 rfl (fun W F => ?_)
  refine Wp.app ?_
  refine Wp.seq ?_
  refine Wp.region ?_
  refine Ops.pv (pv_assign rfl) rfl ?_
  refine Ops.nil ?_
  refine Ends.seq ?_
  refine Wp.seq ?_
  refine Wp.region ?_
  refine Ops.pv (pv_move rfl) rfl ?_
  refine Ops.pv (pv_geq rfl rfl) rfl ?_
  refine Ops.pv (pv_move rfl) rfl ?_
  refine Ops.pvc rfl rfl (fun hg => pv_move rfl) rfl ?_
  refine Ops.pvc rfl rfl (fun hg => Pv.setE (t := 8) rfl (cv_pos hg) (pv_leq rfl rfl)) rfl ?_
  refine Ops.pv (pv_pick_and rfl rfl) rfl ?_
  refine Ops.pv (pv_move rfl) rfl ?_
  refine Ops.pvc rfl rfl (fun hg => pv_move rfl) rfl ?_
  refine Ops.pvc rfl rfl (fun hg => Pv.setE (t := 12) rfl (cv_pos hg) (pv_move rfl)) rfl ?_
  refine Ops.pvc rfl rfl (fun hg => Pv.setE (t := 12) rfl (cv_pos hg) (Pv.setE (t := 13) rfl (cv_pos hg) (pv_shl rfl rfl (by omega) (shlI (by omega) (by omega))))) rfl ?_
  refine Ops.pvc rfl rfl (fun hg => Pv.setE (t := 12) rfl (cv_pos hg) (Pv.setE (t := 13) rfl (cv_pos hg) (Pv.setE (t := 14) rfl (cv_pos hg) (pv_lss rfl rfl)))) rfl ?_
  refine Ops.pv (pv_pick_and rfl rfl) rfl ?_
  refine Ops.pv (pv_assign rfl) rfl ?_
  refine Ops.nil ?_
  refine Ends.seq ?_
  refine Wp.ret ?_
  exact Ends.ret (res1 rfl rfl) ⟨rfl, rfl⟩

theorem tr_righted (k : Int) : TrR Try.prog 82 [.int .i64 k] ([]) (.bool (decide ((k = 4 ∨ k = 5) ∨ k = 6))) := by
  refine Tr.enter Try.func82 rfl Try.ntmps82 rfl (fun W F => ?_)
  refine Wp.app ?_
  refine Wp.seq ?_
  refine Wp.region ?_
  refine Ops.pv (pv_assign rfl) rfl ?_
  refine Ops.nil ?_
  refine Ends.seq ?_
  refine Wp.seq ?_
  refine Wp.region ?_
  refine Ops.pv (pv_move rfl) rfl ?_
  refine Ops.pv (pv_eql rfl rfl) rfl ?_
  refine Ops.pv (pv_move rfl) rfl ?_
  refine Ops.pvcn rfl rfl (fun hg => pv_move rfl) rfl ?_
  refine Ops.pvcn rfl rfl (fun hg => Pv.setE (t := 6) rfl (cv_pos hg) (pv_eql rfl rfl)) rfl ?_
  refine Ops.pv (pv_pick_or rfl rfl) rfl ?_
  refine Ops.pv (pv_move rfl) rfl ?_
  refine Ops.pvcn rfl rfl (fun hg => pv_move rfl) rfl ?_
  refine Ops.pvcn rfl rfl (fun hg => Pv.setE (t := 10) rfl (cv_pos hg) (pv_eql rfl rfl)) rfl ?_
  refine Ops.pv (pv_pick_or rfl rfl) rfl ?_
  refine Ops.pv (pv_assign rfl) rfl ?_
  refine Ops.nil ?_
  refine Ends.seq ?_
  refine Wp.ret ?_
  exact Ends.ret (res1 rfl rfl) ⟨rfl, rfl⟩

theorem tr_badged (k : Int) : TrR Try.prog 83 [.int .i64 k] ([]) (.bool (decide (k = 4 ∨ k = 5))) := by
  refine Tr.enter Try.func83 rfl Try.ntmps83 rfl (fun W F => ?_)
  refine Wp.app ?_
  refine Wp.seq ?_
  refine Wp.region ?_
  refine Ops.pv (pv_assign rfl) rfl ?_
  refine Ops.nil ?_
  refine Ends.seq ?_
  refine Wp.seq ?_
  refine Wp.region ?_
  refine Ops.pv (pv_move rfl) rfl ?_
  refine Ops.pv (pv_eql rfl rfl) rfl ?_
  refine Ops.pv (pv_move rfl) rfl ?_
  refine Ops.pvcn rfl rfl (fun hg => pv_move rfl) rfl ?_
  refine Ops.pvcn rfl rfl (fun hg => Pv.setE (t := 6) rfl (cv_pos hg) (pv_eql rfl rfl)) rfl ?_
  refine Ops.pv (pv_pick_or rfl rfl) rfl ?_
  refine Ops.pv (pv_assign rfl) rfl ?_
  refine Ops.nil ?_
  refine Ends.seq ?_
  refine Wp.ret ?_
  exact Ends.ret (res1 rfl rfl) ⟨rfl, rfl⟩

set_option maxHeartbeats 4000000 in
theorem tr_dcheck (c : CapM) (hr : c.Rg) : TrR Try.prog 64 [c.v] ([]) (.int .i64 (checkM c)) := by
  refine Tr.enter Try.func64 rfl Try.ntmps64 rfl (fun W F => ?_)
  refine Wp.app ?_
  refine Wp.seq ?_
  refine Wp.region ?_
  refine Ops.ef rfl (ef_boxK rfl rfl) ?_
  rintro _ _ ⟨b1, rfl, rfl⟩
  refine Ops.pv (pv_assign rfl) rfl ?_
  refine Ops.nil ?_
  refine Ends.seq ?_
  refine Wp.seq ?_
  refine Wp.seq ?_
  refine Wp.region ?_
  first | refine Ops.pv (pv_fieldAddr0 rfl rfl) rfl ?_ | refine Ops.pv (pv_fieldAddr rfl rfl) rfl ?_
  first | refine Ops.pv (pv_load rfl rfl rfl) rfl ?_ | refine Ops.pv (pv_load rfl rfl (by assumption)) rfl ?_
  refine Ops.pv (pv_lss rfl rfl) rfl ?_
  refine Ops.pv (pv_move rfl) rfl ?_
  first | refine Ops.pvcn rfl rfl (fun hg => pv_fieldAddr0 rfl rfl) rfl ?_ | refine Ops.pvcn rfl rfl (fun hg => pv_fieldAddr rfl rfl) rfl ?_
  first | refine Ops.pvcn rfl rfl (fun hg => Pv.setE (t := 8) rfl (cv_pos hg) (pv_load rfl rfl rfl)) rfl ?_ | refine Ops.pvcn rfl rfl (fun hg => Pv.setE (t := 8) rfl (cv_pos hg) (pv_load rfl rfl (by assumption))) rfl ?_
  refine Ops.pvcn rfl rfl (fun hg => Pv.setE (t := 8) rfl (cv_pos hg) (Pv.setE (t := 9) rfl (cv_pos hg) (pv_gtr rfl rfl))) rfl ?_
  refine Ops.pv (pv_pick_or rfl rfl) rfl ?_
  refine Ops.nil ?_
  refine Ends.seq ?_
  first | refine Wp.cond_dect rfl (fun h1 => ?_) (fun h1 => ?_) | refine Wp.cond_t rfl (fun h1 => ?_) (fun h1 => ?_)
  · refine Wp.seq ?_
    refine Wp.region ?_
    refine Ops.pv (pv_assign rfl) rfl ?_
    refine Ops.nil ?_
    refine Ends.seq ?_
    refine Wp.ret ?_
    refine Ends.then_ret ?_
    exact Ends.ret (res1 rfl rfl) ⟨by first | (rw [check_bad (by omega)]; done) | (rw [check_ok hr (by omega) (by unfold dOk; omega)]; done) | (rw [check_no hr (by omega) (by unfold dOk; omega)]; done), rfl⟩
  · refine Wp.skip ?_
    refine Ends.seq ?_
    refine Wp.seq ?_
    refine Wp.region ?_
    first | refine Ops.pv (pv_fieldAddr0 rfl rfl) rfl ?_ | refine Ops.pv (pv_fieldAddr rfl rfl) rfl ?_
    first | refine Ops.pv (pv_load rfl rfl rfl) rfl ?_ | refine Ops.pv (pv_load rfl rfl (by assumption)) rfl ?_
    refine Ops.pv (pv_geq rfl rfl) rfl ?_
    refine Ops.pv (pv_move rfl) rfl ?_
    first | refine Ops.pvc rfl rfl (fun hg => pv_fieldAddr0 rfl rfl) rfl ?_ | refine Ops.pvc rfl rfl (fun hg => pv_fieldAddr rfl rfl) rfl ?_
    first | refine Ops.pvc rfl rfl (fun hg => Pv.setE (t := 16) rfl (cv_pos hg) (pv_load rfl rfl rfl)) rfl ?_ | refine Ops.pvc rfl rfl (fun hg => Pv.setE (t := 16) rfl (cv_pos hg) (pv_load rfl rfl (by assumption))) rfl ?_
    refine Ops.pvc rfl rfl (fun hg => Pv.setE (t := 16) rfl (cv_pos hg) (Pv.setE (t := 17) rfl (cv_pos hg) (pv_leq rfl rfl))) rfl ?_
    refine Ops.pv (pv_pick_and rfl rfl) rfl ?_
    refine Ops.pv (pv_move rfl) rfl ?_
    first | refine Ops.split (t := 20) rfl (fun h2 => ?_) (fun h2 => ?_) | refine Ops.splitb (t := 20) rfl (fun h2 => ?_) (fun h2 => ?_)
    · first | refine Ops.pvg ⟨_, _, rfl, rfl, rfl⟩ (pv_fieldAddr0 rfl rfl) rfl ?_ | refine Ops.pvg ⟨_, _, rfl, rfl, rfl⟩ (pv_fieldAddr rfl rfl) rfl ?_
      first | refine Ops.pvg ⟨_, _, rfl, rfl, rfl⟩ (pv_load rfl rfl rfl) rfl ?_ | refine Ops.pvg ⟨_, _, rfl, rfl, rfl⟩ (pv_load rfl rfl (by assumption)) rfl ?_
      refine Ops.efg ⟨_, _, rfl, rfl, rfl⟩ (ef_callr (tr_check4 c.rights) rfl rfl) ?_
      rintro _ _ ⟨rfl, rfl⟩
      refine Ops.pv (pv_pick_true rfl rfl) rfl ?_
      refine Ops.pv (pv_move rfl) rfl ?_
      first | refine Ops.split (t := 25) rfl (fun h3 => ?_) (fun h3 => ?_) | refine Ops.splitb (t := 25) rfl (fun h3 => ?_) (fun h3 => ?_)
      · first | refine Ops.pvg ⟨_, _, rfl, rfl, rfl⟩ (pv_fieldAddr0 rfl rfl) rfl ?_ | refine Ops.pvg ⟨_, _, rfl, rfl, rfl⟩ (pv_fieldAddr rfl rfl) rfl ?_
        first | refine Ops.pvg ⟨_, _, rfl, rfl, rfl⟩ (pv_load rfl rfl rfl) rfl ?_ | refine Ops.pvg ⟨_, _, rfl, rfl, rfl⟩ (pv_load rfl rfl (by assumption)) rfl ?_
        refine Ops.pvg ⟨_, _, rfl, rfl, rfl⟩ (pv_lss rfl rfl) rfl ?_
        refine Ops.pv (pv_pick_true rfl rfl) rfl ?_
        refine Ops.pv (pv_move rfl) rfl ?_
        first | refine Ops.split (t := 30) rfl (fun h4 => ?_) (fun h4 => ?_) | refine Ops.splitb (t := 30) rfl (fun h4 => ?_) (fun h4 => ?_)
        · first | refine Ops.pvg ⟨_, _, rfl, rfl, rfl⟩ (pv_fieldAddr0 rfl rfl) rfl ?_ | refine Ops.pvg ⟨_, _, rfl, rfl, rfl⟩ (pv_fieldAddr rfl rfl) rfl ?_
          first | refine Ops.pvg ⟨_, _, rfl, rfl, rfl⟩ (pv_load rfl rfl rfl) rfl ?_ | refine Ops.pvg ⟨_, _, rfl, rfl, rfl⟩ (pv_load rfl rfl (by assumption)) rfl ?_
          first | refine Ops.pvg ⟨_, _, rfl, rfl, rfl⟩ (pv_fieldAddr0 rfl rfl) rfl ?_ | refine Ops.pvg ⟨_, _, rfl, rfl, rfl⟩ (pv_fieldAddr rfl rfl) rfl ?_
          first | refine Ops.pvg ⟨_, _, rfl, rfl, rfl⟩ (pv_load rfl rfl rfl) rfl ?_ | refine Ops.pvg ⟨_, _, rfl, rfl, rfl⟩ (pv_load rfl rfl (by assumption)) rfl ?_
          refine Ops.efg ⟨_, _, rfl, rfl, rfl⟩ (ef_callr (tr_guarded c.guard c.bits) rfl rfl) ?_
          rintro _ _ ⟨rfl, rfl⟩
          refine Ops.pv (pv_pick_true rfl rfl) rfl ?_
          refine Ops.pv (pv_assign rfl) rfl ?_
          refine Ops.nil ?_
          refine Ends.seq ?_
          refine Wp.seq ?_
          refine Wp.seq ?_
          refine Wp.region ?_
          first | refine Ops.pv (pv_fieldAddr0 rfl rfl) rfl ?_ | refine Ops.pv (pv_fieldAddr rfl rfl) rfl ?_
          first | refine Ops.pv (pv_load rfl rfl rfl) rfl ?_ | refine Ops.pv (pv_load rfl rfl (by assumption)) rfl ?_
          refine Ops.pv (pv_eql rfl rfl) rfl ?_
          refine Ops.pv (pv_move rfl) rfl ?_
          first | refine Ops.pvcn rfl rfl (fun hg => pv_fieldAddr0 rfl rfl) rfl ?_ | refine Ops.pvcn rfl rfl (fun hg => pv_fieldAddr rfl rfl) rfl ?_
          first | refine Ops.pvcn rfl rfl (fun hg => Pv.setE (t := 41) rfl (cv_pos hg) (pv_load rfl rfl rfl)) rfl ?_ | refine Ops.pvcn rfl rfl (fun hg => Pv.setE (t := 41) rfl (cv_pos hg) (pv_load rfl rfl (by assumption))) rfl ?_
          refine Ops.pvcn rfl rfl (fun hg => Pv.setE (t := 41) rfl (cv_pos hg) (Pv.setE (t := 42) rfl (cv_pos hg) (pv_eql rfl rfl))) rfl ?_
          refine Ops.pv (pv_pick_or rfl rfl) rfl ?_
          refine Ops.nil ?_
          refine Ends.seq ?_
          first | refine Wp.cond_dect rfl (fun h5 => ?_) (fun h5 => ?_) | refine Wp.cond_t rfl (fun h5 => ?_) (fun h5 => ?_)
          · refine Wp.region ?_
            refine Ops.pv (pv_move rfl) rfl ?_
            refine Ops.pv (pv_move rfl) rfl ?_
            first | refine Ops.split (t := 46) rfl (fun h6 => ?_) (fun h6 => ?_) | refine Ops.splitb (t := 46) rfl (fun h6 => ?_) (fun h6 => ?_)
            · first | refine Ops.pvg ⟨_, _, rfl, rfl, rfl⟩ (pv_fieldAddr0 rfl rfl) rfl ?_ | refine Ops.pvg ⟨_, _, rfl, rfl, rfl⟩ (pv_fieldAddr rfl rfl) rfl ?_
              first | refine Ops.pvg ⟨_, _, rfl, rfl, rfl⟩ (pv_load rfl rfl rfl) rfl ?_ | refine Ops.pvg ⟨_, _, rfl, rfl, rfl⟩ (pv_load rfl rfl (by assumption)) rfl ?_
              refine Ops.pvg ⟨_, _, rfl, rfl, rfl⟩ (pv_eql rfl rfl) rfl ?_
              refine Ops.pv (pv_pick_true rfl rfl) rfl ?_
              refine Ops.pv (pv_assign rfl) rfl ?_
              refine Ops.nil ?_
              refine Ends.seq ?_
              refine Wp.seq ?_
              refine Wp.seq ?_
              refine Wp.region ?_
              first | refine Ops.pv (pv_fieldAddr0 rfl rfl) rfl ?_ | refine Ops.pv (pv_fieldAddr rfl rfl) rfl ?_
              first | refine Ops.pv (pv_load rfl rfl rfl) rfl ?_ | refine Ops.pv (pv_load rfl rfl (by assumption)) rfl ?_
              refine Ops.ef rfl (ef_callr (tr_righted c.kind) rfl rfl) ?_
              rintro _ _ ⟨rfl, rfl⟩
              first | refine Ops.pv (pv_not_dec rfl) rfl ?_ | refine Ops.pv (pv_not rfl) rfl ?_
              refine Ops.nil ?_
              refine Ends.seq ?_
              first | refine Wp.cond_dect rfl (fun h7 => ?_) (fun h7 => ?_) | refine Wp.cond_t rfl (fun h7 => ?_) (fun h7 => ?_)
              · refine Wp.region ?_
                refine Ops.pv (pv_move rfl) rfl ?_
                refine Ops.pv (pv_move rfl) rfl ?_
                first | refine Ops.pvc rfl rfl (fun hg => pv_fieldAddr0 rfl rfl) rfl ?_ | refine Ops.pvc rfl rfl (fun hg => pv_fieldAddr rfl rfl) rfl ?_
                first | refine Ops.pvc rfl rfl (fun hg => Pv.setE (t := 57) rfl (cv_pos hg) (pv_load rfl rfl rfl)) rfl ?_ | refine Ops.pvc rfl rfl (fun hg => Pv.setE (t := 57) rfl (cv_pos hg) (pv_load rfl rfl (by assumption))) rfl ?_
                refine Ops.pvc rfl rfl (fun hg => Pv.setE (t := 57) rfl (cv_pos hg) (Pv.setE (t := 58) rfl (cv_pos hg) (pv_eql rfl rfl))) rfl ?_
                refine Ops.pv (pv_pick_and rfl rfl) rfl ?_
                refine Ops.pv (pv_assign rfl) rfl ?_
                refine Ops.nil ?_
                refine Ends.seq ?_
                refine Wp.seq ?_
                refine Wp.seq ?_
                refine Wp.region ?_
                first | refine Ops.pv (pv_fieldAddr0 rfl rfl) rfl ?_ | refine Ops.pv (pv_fieldAddr rfl rfl) rfl ?_
                first | refine Ops.pv (pv_load rfl rfl rfl) rfl ?_ | refine Ops.pv (pv_load rfl rfl (by assumption)) rfl ?_
                refine Ops.ef rfl (ef_callr (tr_badged c.kind) rfl rfl) ?_
                rintro _ _ ⟨rfl, rfl⟩
                first | refine Ops.pv (pv_not_dec rfl) rfl ?_ | refine Ops.pv (pv_not rfl) rfl ?_
                refine Ops.nil ?_
                refine Ends.seq ?_
                first | refine Wp.cond_dect rfl (fun h8 => ?_) (fun h8 => ?_) | refine Wp.cond_t rfl (fun h8 => ?_) (fun h8 => ?_)
                · refine Wp.region ?_
                  refine Ops.pv (pv_move rfl) rfl ?_
                  refine Ops.pv (pv_move rfl) rfl ?_
                  first | refine Ops.pvc rfl rfl (fun hg => pv_fieldAddr0 rfl rfl) rfl ?_ | refine Ops.pvc rfl rfl (fun hg => pv_fieldAddr rfl rfl) rfl ?_
                  first | refine Ops.pvc rfl rfl (fun hg => Pv.setE (t := 67) rfl (cv_pos hg) (pv_load rfl rfl rfl)) rfl ?_ | refine Ops.pvc rfl rfl (fun hg => Pv.setE (t := 67) rfl (cv_pos hg) (pv_load rfl rfl (by assumption))) rfl ?_
                  refine Ops.pvc rfl rfl (fun hg => Pv.setE (t := 67) rfl (cv_pos hg) (Pv.setE (t := 68) rfl (cv_pos hg) (pv_eql rfl rfl))) rfl ?_
                  refine Ops.pv (pv_pick_and rfl rfl) rfl ?_
                  refine Ops.pv (pv_assign rfl) rfl ?_
                  refine Ops.nil ?_
                  refine Ends.seq ?_
                  refine Wp.seq ?_
                  refine Wp.seq ?_
                  refine Wp.region ?_
                  first | refine Ops.pv (pv_fieldAddr0 rfl rfl) rfl ?_ | refine Ops.pv (pv_fieldAddr rfl rfl) rfl ?_
                  first | refine Ops.pv (pv_load rfl rfl rfl) rfl ?_ | refine Ops.pv (pv_load rfl rfl (by assumption)) rfl ?_
                  refine Ops.pv (pv_neq rfl rfl) rfl ?_
                  refine Ops.nil ?_
                  refine Ends.seq ?_
                  first | refine Wp.cond_dect rfl (fun h9 => ?_) (fun h9 => ?_) | refine Wp.cond_t rfl (fun h9 => ?_) (fun h9 => ?_)
                  · refine Wp.region ?_
                    refine Ops.pv (pv_move rfl) rfl ?_
                    refine Ops.pv (pv_move rfl) rfl ?_
                    first | refine Ops.pvc rfl rfl (fun hg => pv_fieldAddr0 rfl rfl) rfl ?_ | refine Ops.pvc rfl rfl (fun hg => pv_fieldAddr rfl rfl) rfl ?_
                    first | refine Ops.pvc rfl rfl (fun hg => Pv.setE (t := 76) rfl (cv_pos hg) (pv_load rfl rfl rfl)) rfl ?_ | refine Ops.pvc rfl rfl (fun hg => Pv.setE (t := 76) rfl (cv_pos hg) (pv_load rfl rfl (by assumption))) rfl ?_
                    refine Ops.pvc rfl rfl (fun hg => Pv.setE (t := 76) rfl (cv_pos hg) (Pv.setE (t := 77) rfl (cv_pos hg) (pv_eql rfl rfl))) rfl ?_
                    refine Ops.pv (pv_pick_and rfl rfl) rfl ?_
                    refine Ops.pv (pv_assign rfl) rfl ?_
                    refine Ops.nil ?_
                    refine Ends.seq ?_
                    refine Wp.seq ?_
                    refine Wp.seq ?_
                    refine Wp.region ?_
                    refine Ops.pv (pv_move rfl) rfl ?_
                    first | refine Ops.pv (pv_not_dec rfl) rfl ?_ | refine Ops.pv (pv_not rfl) rfl ?_
                    refine Ops.nil ?_
                    refine Ends.seq ?_
                    first | refine Wp.cond_dect rfl (fun h10 => ?_) (fun h10 => ?_) | refine Wp.cond_t rfl (fun h10 => ?_) (fun h10 => ?_)
                    · refine Wp.seq ?_
                      refine Wp.region ?_
                      refine Ops.pv (pv_assign rfl) rfl ?_
                      refine Ops.nil ?_
                      refine Ends.seq ?_
                      refine Wp.ret ?_
                      refine Ends.then_ret ?_
                      exact Ends.ret (res1 rfl rfl) ⟨by first | (rw [check_bad (by omega)]; done) | (rw [check_ok hr (by omega) (by unfold dOk; omega)]; done) | (rw [check_no hr (by omega) (by unfold dOk; omega)]; done), rfl⟩
                    · refine Wp.skip ?_
                      refine Ends.seq ?_
                      refine Wp.seq ?_
                      refine Wp.region ?_
                      refine Ops.pv (pv_assign rfl) rfl ?_
                      refine Ops.nil ?_
                      refine Ends.seq ?_
                      refine Wp.ret ?_
                      exact Ends.ret (res1 rfl rfl) ⟨by first | (rw [check_bad (by omega)]; done) | (rw [check_ok hr (by omega) (by unfold dOk; omega)]; done) | (rw [check_no hr (by omega) (by unfold dOk; omega)]; done), rfl⟩
                  · refine Wp.skip ?_
                    refine Ends.seq ?_
                    refine Wp.seq ?_
                    refine Wp.seq ?_
                    refine Wp.region ?_
                    refine Ops.pv (pv_move rfl) rfl ?_
                    first | refine Ops.pv (pv_not_dec rfl) rfl ?_ | refine Ops.pv (pv_not rfl) rfl ?_
                    refine Ops.nil ?_
                    refine Ends.seq ?_
                    first | refine Wp.cond_dect rfl (fun h11 => ?_) (fun h11 => ?_) | refine Wp.cond_t rfl (fun h11 => ?_) (fun h11 => ?_)
                    · refine Wp.seq ?_
                      refine Wp.region ?_
                      refine Ops.pv (pv_assign rfl) rfl ?_
                      refine Ops.nil ?_
                      refine Ends.seq ?_
                      refine Wp.ret ?_
                      refine Ends.then_ret ?_
                      exact Ends.ret (res1 rfl rfl) ⟨by first | (rw [check_bad (by omega)]; done) | (rw [check_ok hr (by omega) (by unfold dOk; omega)]; done) | (rw [check_no hr (by omega) (by unfold dOk; omega)]; done), rfl⟩
                    · refine Wp.skip ?_
                      refine Ends.seq ?_
                      refine Wp.seq ?_
                      refine Wp.region ?_
                      refine Ops.pv (pv_assign rfl) rfl ?_
                      refine Ops.nil ?_
                      refine Ends.seq ?_
                      refine Wp.ret ?_
                      exact Ends.ret (res1 rfl rfl) ⟨by first | (rw [check_bad (by omega)]; done) | (rw [check_ok hr (by omega) (by unfold dOk; omega)]; done) | (rw [check_no hr (by omega) (by unfold dOk; omega)]; done), rfl⟩
                · refine Wp.skip ?_
                  refine Ends.seq ?_
                  refine Wp.seq ?_
                  refine Wp.seq ?_
                  refine Wp.region ?_
                  first | refine Ops.pv (pv_fieldAddr0 rfl rfl) rfl ?_ | refine Ops.pv (pv_fieldAddr rfl rfl) rfl ?_
                  first | refine Ops.pv (pv_load rfl rfl rfl) rfl ?_ | refine Ops.pv (pv_load rfl rfl (by assumption)) rfl ?_
                  refine Ops.pv (pv_neq rfl rfl) rfl ?_
                  refine Ops.nil ?_
                  refine Ends.seq ?_
                  first | refine Wp.cond_dect rfl (fun h12 => ?_) (fun h12 => ?_) | refine Wp.cond_t rfl (fun h12 => ?_) (fun h12 => ?_)
                  · refine Wp.region ?_
                    refine Ops.pv (pv_move rfl) rfl ?_
                    refine Ops.pv (pv_move rfl) rfl ?_
                    first | refine Ops.pvc rfl rfl (fun hg => pv_fieldAddr0 rfl rfl) rfl ?_ | refine Ops.pvc rfl rfl (fun hg => pv_fieldAddr rfl rfl) rfl ?_
                    first | refine Ops.pvc rfl rfl (fun hg => Pv.setE (t := 76) rfl (cv_pos hg) (pv_load rfl rfl rfl)) rfl ?_ | refine Ops.pvc rfl rfl (fun hg => Pv.setE (t := 76) rfl (cv_pos hg) (pv_load rfl rfl (by assumption))) rfl ?_
                    refine Ops.pvc rfl rfl (fun hg => Pv.setE (t := 76) rfl (cv_pos hg) (Pv.setE (t := 77) rfl (cv_pos hg) (pv_eql rfl rfl))) rfl ?_
                    refine Ops.pv (pv_pick_and rfl rfl) rfl ?_
                    refine Ops.pv (pv_assign rfl) rfl ?_
                    refine Ops.nil ?_
                    refine Ends.seq ?_
                    refine Wp.seq ?_
                    refine Wp.seq ?_
                    refine Wp.region ?_
                    refine Ops.pv (pv_move rfl) rfl ?_
                    first | refine Ops.pv (pv_not_dec rfl) rfl ?_ | refine Ops.pv (pv_not rfl) rfl ?_
                    refine Ops.nil ?_
                    refine Ends.seq ?_
                    first | refine Wp.cond_dect rfl (fun h13 => ?_) (fun h13 => ?_) | refine Wp.cond_t rfl (fun h13 => ?_) (fun h13 => ?_)
                    · refine Wp.seq ?_
                      refine Wp.region ?_
                      refine Ops.pv (pv_assign rfl) rfl ?_
                      refine Ops.nil ?_
                      refine Ends.seq ?_
                      refine Wp.ret ?_
                      refine Ends.then_ret ?_
                      exact Ends.ret (res1 rfl rfl) ⟨by first | (rw [check_bad (by omega)]; done) | (rw [check_ok hr (by omega) (by unfold dOk; omega)]; done) | (rw [check_no hr (by omega) (by unfold dOk; omega)]; done), rfl⟩
                    · refine Wp.skip ?_
                      refine Ends.seq ?_
                      refine Wp.seq ?_
                      refine Wp.region ?_
                      refine Ops.pv (pv_assign rfl) rfl ?_
                      refine Ops.nil ?_
                      refine Ends.seq ?_
                      refine Wp.ret ?_
                      exact Ends.ret (res1 rfl rfl) ⟨by first | (rw [check_bad (by omega)]; done) | (rw [check_ok hr (by omega) (by unfold dOk; omega)]; done) | (rw [check_no hr (by omega) (by unfold dOk; omega)]; done), rfl⟩
                  · refine Wp.skip ?_
                    refine Ends.seq ?_
                    refine Wp.seq ?_
                    refine Wp.seq ?_
                    refine Wp.region ?_
                    refine Ops.pv (pv_move rfl) rfl ?_
                    first | refine Ops.pv (pv_not_dec rfl) rfl ?_ | refine Ops.pv (pv_not rfl) rfl ?_
                    refine Ops.nil ?_
                    refine Ends.seq ?_
                    first | refine Wp.cond_dect rfl (fun h14 => ?_) (fun h14 => ?_) | refine Wp.cond_t rfl (fun h14 => ?_) (fun h14 => ?_)
                    · refine Wp.seq ?_
                      refine Wp.region ?_
                      refine Ops.pv (pv_assign rfl) rfl ?_
                      refine Ops.nil ?_
                      refine Ends.seq ?_
                      refine Wp.ret ?_
                      refine Ends.then_ret ?_
                      exact Ends.ret (res1 rfl rfl) ⟨by first | (rw [check_bad (by omega)]; done) | (rw [check_ok hr (by omega) (by unfold dOk; omega)]; done) | (rw [check_no hr (by omega) (by unfold dOk; omega)]; done), rfl⟩
                    · refine Wp.skip ?_
                      refine Ends.seq ?_
                      refine Wp.seq ?_
                      refine Wp.region ?_
                      refine Ops.pv (pv_assign rfl) rfl ?_
                      refine Ops.nil ?_
                      refine Ends.seq ?_
                      refine Wp.ret ?_
                      exact Ends.ret (res1 rfl rfl) ⟨by first | (rw [check_bad (by omega)]; done) | (rw [check_ok hr (by omega) (by unfold dOk; omega)]; done) | (rw [check_no hr (by omega) (by unfold dOk; omega)]; done), rfl⟩
              · refine Wp.skip ?_
                refine Ends.seq ?_
                refine Wp.seq ?_
                refine Wp.seq ?_
                refine Wp.region ?_
                first | refine Ops.pv (pv_fieldAddr0 rfl rfl) rfl ?_ | refine Ops.pv (pv_fieldAddr rfl rfl) rfl ?_
                first | refine Ops.pv (pv_load rfl rfl rfl) rfl ?_ | refine Ops.pv (pv_load rfl rfl (by assumption)) rfl ?_
                refine Ops.ef rfl (ef_callr (tr_badged c.kind) rfl rfl) ?_
                rintro _ _ ⟨rfl, rfl⟩
                first | refine Ops.pv (pv_not_dec rfl) rfl ?_ | refine Ops.pv (pv_not rfl) rfl ?_
                refine Ops.nil ?_
                refine Ends.seq ?_
                first | refine Wp.cond_dect rfl (fun h15 => ?_) (fun h15 => ?_) | refine Wp.cond_t rfl (fun h15 => ?_) (fun h15 => ?_)
                · refine Wp.region ?_
                  refine Ops.pv (pv_move rfl) rfl ?_
                  refine Ops.pv (pv_move rfl) rfl ?_
                  first | refine Ops.pvc rfl rfl (fun hg => pv_fieldAddr0 rfl rfl) rfl ?_ | refine Ops.pvc rfl rfl (fun hg => pv_fieldAddr rfl rfl) rfl ?_
                  first | refine Ops.pvc rfl rfl (fun hg => Pv.setE (t := 67) rfl (cv_pos hg) (pv_load rfl rfl rfl)) rfl ?_ | refine Ops.pvc rfl rfl (fun hg => Pv.setE (t := 67) rfl (cv_pos hg) (pv_load rfl rfl (by assumption))) rfl ?_
                  refine Ops.pvc rfl rfl (fun hg => Pv.setE (t := 67) rfl (cv_pos hg) (Pv.setE (t := 68) rfl (cv_pos hg) (pv_eql rfl rfl))) rfl ?_
                  refine Ops.pv (pv_pick_and rfl rfl) rfl ?_
                  refine Ops.pv (pv_assign rfl) rfl ?_
                  refine Ops.nil ?_
                  refine Ends.seq ?_
                  refine Wp.seq ?_
                  refine Wp.seq ?_
                  refine Wp.region ?_
                  first | refine Ops.pv (pv_fieldAddr0 rfl rfl) rfl ?_ | refine Ops.pv (pv_fieldAddr rfl rfl) rfl ?_
                  first | refine Ops.pv (pv_load rfl rfl rfl) rfl ?_ | refine Ops.pv (pv_load rfl rfl (by assumption)) rfl ?_
                  refine Ops.pv (pv_neq rfl rfl) rfl ?_
                  refine Ops.nil ?_
                  refine Ends.seq ?_
                  first | refine Wp.cond_dect rfl (fun h16 => ?_) (fun h16 => ?_) | refine Wp.cond_t rfl (fun h16 => ?_) (fun h16 => ?_)
                  · refine Wp.region ?_
                    refine Ops.pv (pv_move rfl) rfl ?_
                    refine Ops.pv (pv_move rfl) rfl ?_
                    first | refine Ops.pvc rfl rfl (fun hg => pv_fieldAddr0 rfl rfl) rfl ?_ | refine Ops.pvc rfl rfl (fun hg => pv_fieldAddr rfl rfl) rfl ?_
                    first | refine Ops.pvc rfl rfl (fun hg => Pv.setE (t := 76) rfl (cv_pos hg) (pv_load rfl rfl rfl)) rfl ?_ | refine Ops.pvc rfl rfl (fun hg => Pv.setE (t := 76) rfl (cv_pos hg) (pv_load rfl rfl (by assumption))) rfl ?_
                    refine Ops.pvc rfl rfl (fun hg => Pv.setE (t := 76) rfl (cv_pos hg) (Pv.setE (t := 77) rfl (cv_pos hg) (pv_eql rfl rfl))) rfl ?_
                    refine Ops.pv (pv_pick_and rfl rfl) rfl ?_
                    refine Ops.pv (pv_assign rfl) rfl ?_
                    refine Ops.nil ?_
                    refine Ends.seq ?_
                    refine Wp.seq ?_
                    refine Wp.seq ?_
                    refine Wp.region ?_
                    refine Ops.pv (pv_move rfl) rfl ?_
                    first | refine Ops.pv (pv_not_dec rfl) rfl ?_ | refine Ops.pv (pv_not rfl) rfl ?_
                    refine Ops.nil ?_
                    refine Ends.seq ?_
                    first | refine Wp.cond_dect rfl (fun h17 => ?_) (fun h17 => ?_) | refine Wp.cond_t rfl (fun h17 => ?_) (fun h17 => ?_)
                    · refine Wp.seq ?_
                      refine Wp.region ?_
                      refine Ops.pv (pv_assign rfl) rfl ?_
                      refine Ops.nil ?_
                      refine Ends.seq ?_
                      refine Wp.ret ?_
                      refine Ends.then_ret ?_
                      exact Ends.ret (res1 rfl rfl) ⟨by first | (rw [check_bad (by omega)]; done) | (rw [check_ok hr (by omega) (by unfold dOk; omega)]; done) | (rw [check_no hr (by omega) (by unfold dOk; omega)]; done), rfl⟩
                    · refine Wp.skip ?_
                      refine Ends.seq ?_
                      refine Wp.seq ?_
                      refine Wp.region ?_
                      refine Ops.pv (pv_assign rfl) rfl ?_
                      refine Ops.nil ?_
                      refine Ends.seq ?_
                      refine Wp.ret ?_
                      exact Ends.ret (res1 rfl rfl) ⟨by first | (rw [check_bad (by omega)]; done) | (rw [check_ok hr (by omega) (by unfold dOk; omega)]; done) | (rw [check_no hr (by omega) (by unfold dOk; omega)]; done), rfl⟩
                  · refine Wp.skip ?_
                    refine Ends.seq ?_
                    refine Wp.seq ?_
                    refine Wp.seq ?_
                    refine Wp.region ?_
                    refine Ops.pv (pv_move rfl) rfl ?_
                    first | refine Ops.pv (pv_not_dec rfl) rfl ?_ | refine Ops.pv (pv_not rfl) rfl ?_
                    refine Ops.nil ?_
                    refine Ends.seq ?_
                    first | refine Wp.cond_dect rfl (fun h18 => ?_) (fun h18 => ?_) | refine Wp.cond_t rfl (fun h18 => ?_) (fun h18 => ?_)
                    · refine Wp.seq ?_
                      refine Wp.region ?_
                      refine Ops.pv (pv_assign rfl) rfl ?_
                      refine Ops.nil ?_
                      refine Ends.seq ?_
                      refine Wp.ret ?_
                      refine Ends.then_ret ?_
                      exact Ends.ret (res1 rfl rfl) ⟨by first | (rw [check_bad (by omega)]; done) | (rw [check_ok hr (by omega) (by unfold dOk; omega)]; done) | (rw [check_no hr (by omega) (by unfold dOk; omega)]; done), rfl⟩
                    · refine Wp.skip ?_
                      refine Ends.seq ?_
                      refine Wp.seq ?_
                      refine Wp.region ?_
                      refine Ops.pv (pv_assign rfl) rfl ?_
                      refine Ops.nil ?_
                      refine Ends.seq ?_
                      refine Wp.ret ?_
                      exact Ends.ret (res1 rfl rfl) ⟨by first | (rw [check_bad (by omega)]; done) | (rw [check_ok hr (by omega) (by unfold dOk; omega)]; done) | (rw [check_no hr (by omega) (by unfold dOk; omega)]; done), rfl⟩
                · refine Wp.skip ?_
                  refine Ends.seq ?_
                  refine Wp.seq ?_
                  refine Wp.seq ?_
                  refine Wp.region ?_
                  first | refine Ops.pv (pv_fieldAddr0 rfl rfl) rfl ?_ | refine Ops.pv (pv_fieldAddr rfl rfl) rfl ?_
                  first | refine Ops.pv (pv_load rfl rfl rfl) rfl ?_ | refine Ops.pv (pv_load rfl rfl (by assumption)) rfl ?_
                  refine Ops.pv (pv_neq rfl rfl) rfl ?_
                  refine Ops.nil ?_
                  refine Ends.seq ?_
                  first | refine Wp.cond_dect rfl (fun h19 => ?_) (fun h19 => ?_) | refine Wp.cond_t rfl (fun h19 => ?_) (fun h19 => ?_)
                  · refine Wp.region ?_
                    refine Ops.pv (pv_move rfl) rfl ?_
                    refine Ops.pv (pv_move rfl) rfl ?_
                    first | refine Ops.pvc rfl rfl (fun hg => pv_fieldAddr0 rfl rfl) rfl ?_ | refine Ops.pvc rfl rfl (fun hg => pv_fieldAddr rfl rfl) rfl ?_
                    first | refine Ops.pvc rfl rfl (fun hg => Pv.setE (t := 76) rfl (cv_pos hg) (pv_load rfl rfl rfl)) rfl ?_ | refine Ops.pvc rfl rfl (fun hg => Pv.setE (t := 76) rfl (cv_pos hg) (pv_load rfl rfl (by assumption))) rfl ?_
                    refine Ops.pvc rfl rfl (fun hg => Pv.setE (t := 76) rfl (cv_pos hg) (Pv.setE (t := 77) rfl (cv_pos hg) (pv_eql rfl rfl))) rfl ?_
                    refine Ops.pv (pv_pick_and rfl rfl) rfl ?_
                    refine Ops.pv (pv_assign rfl) rfl ?_
                    refine Ops.nil ?_
                    refine Ends.seq ?_
                    refine Wp.seq ?_
                    refine Wp.seq ?_
                    refine Wp.region ?_
                    refine Ops.pv (pv_move rfl) rfl ?_
                    first | refine Ops.pv (pv_not_dec rfl) rfl ?_ | refine Ops.pv (pv_not rfl) rfl ?_
                    refine Ops.nil ?_
                    refine Ends.seq ?_
                    first | refine Wp.cond_dect rfl (fun h20 => ?_) (fun h20 => ?_) | refine Wp.cond_t rfl (fun h20 => ?_) (fun h20 => ?_)
                    · refine Wp.seq ?_
                      refine Wp.region ?_
                      refine Ops.pv (pv_assign rfl) rfl ?_
                      refine Ops.nil ?_
                      refine Ends.seq ?_
                      refine Wp.ret ?_
                      refine Ends.then_ret ?_
                      exact Ends.ret (res1 rfl rfl) ⟨by first | (rw [check_bad (by omega)]; done) | (rw [check_ok hr (by omega) (by unfold dOk; omega)]; done) | (rw [check_no hr (by omega) (by unfold dOk; omega)]; done), rfl⟩
                    · refine Wp.skip ?_
                      refine Ends.seq ?_
                      refine Wp.seq ?_
                      refine Wp.region ?_
                      refine Ops.pv (pv_assign rfl) rfl ?_
                      refine Ops.nil ?_
                      refine Ends.seq ?_
                      refine Wp.ret ?_
                      exact Ends.ret (res1 rfl rfl) ⟨by first | (rw [check_bad (by omega)]; done) | (rw [check_ok hr (by omega) (by unfold dOk; omega)]; done) | (rw [check_no hr (by omega) (by unfold dOk; omega)]; done), rfl⟩
                  · refine Wp.skip ?_
                    refine Ends.seq ?_
                    refine Wp.seq ?_
                    refine Wp.seq ?_
                    refine Wp.region ?_
                    refine Ops.pv (pv_move rfl) rfl ?_
                    first | refine Ops.pv (pv_not_dec rfl) rfl ?_ | refine Ops.pv (pv_not rfl) rfl ?_
                    refine Ops.nil ?_
                    refine Ends.seq ?_
                    first | refine Wp.cond_dect rfl (fun h21 => ?_) (fun h21 => ?_) | refine Wp.cond_t rfl (fun h21 => ?_) (fun h21 => ?_)
                    · refine Wp.seq ?_
                      refine Wp.region ?_
                      refine Ops.pv (pv_assign rfl) rfl ?_
                      refine Ops.nil ?_
                      refine Ends.seq ?_
                      refine Wp.ret ?_
                      refine Ends.then_ret ?_
                      exact Ends.ret (res1 rfl rfl) ⟨by first | (rw [check_bad (by omega)]; done) | (rw [check_ok hr (by omega) (by unfold dOk; omega)]; done) | (rw [check_no hr (by omega) (by unfold dOk; omega)]; done), rfl⟩
                    · refine Wp.skip ?_
                      refine Ends.seq ?_
                      refine Wp.seq ?_
                      refine Wp.region ?_
                      refine Ops.pv (pv_assign rfl) rfl ?_
                      refine Ops.nil ?_
                      refine Ends.seq ?_
                      refine Wp.ret ?_
                      exact Ends.ret (res1 rfl rfl) ⟨by first | (rw [check_bad (by omega)]; done) | (rw [check_ok hr (by omega) (by unfold dOk; omega)]; done) | (rw [check_no hr (by omega) (by unfold dOk; omega)]; done), rfl⟩
            · refine Ops.skipg ⟨_, _, rfl, rfl, rfl⟩ rfl ?_
              refine Ops.skipg ⟨_, _, rfl, rfl, rfl⟩ rfl ?_
              refine Ops.skipg ⟨_, _, rfl, rfl, rfl⟩ rfl ?_
              refine Ops.pv (pv_pick_false rfl rfl) rfl ?_
              refine Ops.pv (pv_assign rfl) rfl ?_
              refine Ops.nil ?_
              refine Ends.seq ?_
              refine Wp.seq ?_
              refine Wp.seq ?_
              refine Wp.region ?_
              first | refine Ops.pv (pv_fieldAddr0 rfl rfl) rfl ?_ | refine Ops.pv (pv_fieldAddr rfl rfl) rfl ?_
              first | refine Ops.pv (pv_load rfl rfl rfl) rfl ?_ | refine Ops.pv (pv_load rfl rfl (by assumption)) rfl ?_
              refine Ops.ef rfl (ef_callr (tr_righted c.kind) rfl rfl) ?_
              rintro _ _ ⟨rfl, rfl⟩
              first | refine Ops.pv (pv_not_dec rfl) rfl ?_ | refine Ops.pv (pv_not rfl) rfl ?_
              refine Ops.nil ?_
              refine Ends.seq ?_
              first | refine Wp.cond_dect rfl (fun h22 => ?_) (fun h22 => ?_) | refine Wp.cond_t rfl (fun h22 => ?_) (fun h22 => ?_)
              · refine Wp.region ?_
                refine Ops.pv (pv_move rfl) rfl ?_
                refine Ops.pv (pv_move rfl) rfl ?_
                refine Ops.skipg ⟨_, _, rfl, rfl, rfl⟩ rfl ?_
                refine Ops.skipg ⟨_, _, rfl, rfl, rfl⟩ rfl ?_
                refine Ops.skipg ⟨_, _, rfl, rfl, rfl⟩ rfl ?_
                refine Ops.pv (pv_pick_false rfl rfl) rfl ?_
                refine Ops.pv (pv_assign rfl) rfl ?_
                refine Ops.nil ?_
                refine Ends.seq ?_
                refine Wp.seq ?_
                refine Wp.seq ?_
                refine Wp.region ?_
                first | refine Ops.pv (pv_fieldAddr0 rfl rfl) rfl ?_ | refine Ops.pv (pv_fieldAddr rfl rfl) rfl ?_
                first | refine Ops.pv (pv_load rfl rfl rfl) rfl ?_ | refine Ops.pv (pv_load rfl rfl (by assumption)) rfl ?_
                refine Ops.ef rfl (ef_callr (tr_badged c.kind) rfl rfl) ?_
                rintro _ _ ⟨rfl, rfl⟩
                first | refine Ops.pv (pv_not_dec rfl) rfl ?_ | refine Ops.pv (pv_not rfl) rfl ?_
                refine Ops.nil ?_
                refine Ends.seq ?_
                first | refine Wp.cond_dect rfl (fun h23 => ?_) (fun h23 => ?_) | refine Wp.cond_t rfl (fun h23 => ?_) (fun h23 => ?_)
                · refine Wp.region ?_
                  refine Ops.pv (pv_move rfl) rfl ?_
                  refine Ops.pv (pv_move rfl) rfl ?_
                  refine Ops.skipg ⟨_, _, rfl, rfl, rfl⟩ rfl ?_
                  refine Ops.skipg ⟨_, _, rfl, rfl, rfl⟩ rfl ?_
                  refine Ops.skipg ⟨_, _, rfl, rfl, rfl⟩ rfl ?_
                  refine Ops.pv (pv_pick_false rfl rfl) rfl ?_
                  refine Ops.pv (pv_assign rfl) rfl ?_
                  refine Ops.nil ?_
                  refine Ends.seq ?_
                  refine Wp.seq ?_
                  refine Wp.seq ?_
                  refine Wp.region ?_
                  first | refine Ops.pv (pv_fieldAddr0 rfl rfl) rfl ?_ | refine Ops.pv (pv_fieldAddr rfl rfl) rfl ?_
                  first | refine Ops.pv (pv_load rfl rfl rfl) rfl ?_ | refine Ops.pv (pv_load rfl rfl (by assumption)) rfl ?_
                  refine Ops.pv (pv_neq rfl rfl) rfl ?_
                  refine Ops.nil ?_
                  refine Ends.seq ?_
                  first | refine Wp.cond_dect rfl (fun h24 => ?_) (fun h24 => ?_) | refine Wp.cond_t rfl (fun h24 => ?_) (fun h24 => ?_)
                  · refine Wp.region ?_
                    refine Ops.pv (pv_move rfl) rfl ?_
                    refine Ops.pv (pv_move rfl) rfl ?_
                    refine Ops.skipg ⟨_, _, rfl, rfl, rfl⟩ rfl ?_
                    refine Ops.skipg ⟨_, _, rfl, rfl, rfl⟩ rfl ?_
                    refine Ops.skipg ⟨_, _, rfl, rfl, rfl⟩ rfl ?_
                    refine Ops.pv (pv_pick_false rfl rfl) rfl ?_
                    refine Ops.pv (pv_assign rfl) rfl ?_
                    refine Ops.nil ?_
                    refine Ends.seq ?_
                    refine Wp.seq ?_
                    refine Wp.seq ?_
                    refine Wp.region ?_
                    refine Ops.pv (pv_move rfl) rfl ?_
                    first | refine Ops.pv (pv_not_dec rfl) rfl ?_ | refine Ops.pv (pv_not rfl) rfl ?_
                    refine Ops.nil ?_
                    refine Ends.seq ?_
                    refine Wp.cond_true rfl ?_
                    refine Wp.seq ?_
                    refine Wp.region ?_
                    refine Ops.pv (pv_assign rfl) rfl ?_
                    refine Ops.nil ?_
                    refine Ends.seq ?_
                    refine Wp.ret ?_
                    refine Ends.then_ret ?_
                    exact Ends.ret (res1 rfl rfl) ⟨by first | (rw [check_bad (by omega)]; done) | (rw [check_ok hr (by omega) (by unfold dOk; omega)]; done) | (rw [check_no hr (by omega) (by unfold dOk; omega)]; done), rfl⟩
                  · refine Wp.skip ?_
                    refine Ends.seq ?_
                    refine Wp.seq ?_
                    refine Wp.seq ?_
                    refine Wp.region ?_
                    refine Ops.pv (pv_move rfl) rfl ?_
                    first | refine Ops.pv (pv_not_dec rfl) rfl ?_ | refine Ops.pv (pv_not rfl) rfl ?_
                    refine Ops.nil ?_
                    refine Ends.seq ?_
                    refine Wp.cond_true rfl ?_
                    refine Wp.seq ?_
                    refine Wp.region ?_
                    refine Ops.pv (pv_assign rfl) rfl ?_
                    refine Ops.nil ?_
                    refine Ends.seq ?_
                    refine Wp.ret ?_
                    refine Ends.then_ret ?_
                    exact Ends.ret (res1 rfl rfl) ⟨by first | (rw [check_bad (by omega)]; done) | (rw [check_ok hr (by omega) (by unfold dOk; omega)]; done) | (rw [check_no hr (by omega) (by unfold dOk; omega)]; done), rfl⟩
                · refine Wp.skip ?_
                  refine Ends.seq ?_
                  refine Wp.seq ?_
                  refine Wp.seq ?_
                  refine Wp.region ?_
                  first | refine Ops.pv (pv_fieldAddr0 rfl rfl) rfl ?_ | refine Ops.pv (pv_fieldAddr rfl rfl) rfl ?_
                  first | refine Ops.pv (pv_load rfl rfl rfl) rfl ?_ | refine Ops.pv (pv_load rfl rfl (by assumption)) rfl ?_
                  refine Ops.pv (pv_neq rfl rfl) rfl ?_
                  refine Ops.nil ?_
                  refine Ends.seq ?_
                  first | refine Wp.cond_dect rfl (fun h25 => ?_) (fun h25 => ?_) | refine Wp.cond_t rfl (fun h25 => ?_) (fun h25 => ?_)
                  · refine Wp.region ?_
                    refine Ops.pv (pv_move rfl) rfl ?_
                    refine Ops.pv (pv_move rfl) rfl ?_
                    refine Ops.skipg ⟨_, _, rfl, rfl, rfl⟩ rfl ?_
                    refine Ops.skipg ⟨_, _, rfl, rfl, rfl⟩ rfl ?_
                    refine Ops.skipg ⟨_, _, rfl, rfl, rfl⟩ rfl ?_
                    refine Ops.pv (pv_pick_false rfl rfl) rfl ?_
                    refine Ops.pv (pv_assign rfl) rfl ?_
                    refine Ops.nil ?_
                    refine Ends.seq ?_
                    refine Wp.seq ?_
                    refine Wp.seq ?_
                    refine Wp.region ?_
                    refine Ops.pv (pv_move rfl) rfl ?_
                    first | refine Ops.pv (pv_not_dec rfl) rfl ?_ | refine Ops.pv (pv_not rfl) rfl ?_
                    refine Ops.nil ?_
                    refine Ends.seq ?_
                    refine Wp.cond_true rfl ?_
                    refine Wp.seq ?_
                    refine Wp.region ?_
                    refine Ops.pv (pv_assign rfl) rfl ?_
                    refine Ops.nil ?_
                    refine Ends.seq ?_
                    refine Wp.ret ?_
                    refine Ends.then_ret ?_
                    exact Ends.ret (res1 rfl rfl) ⟨by first | (rw [check_bad (by omega)]; done) | (rw [check_ok hr (by omega) (by unfold dOk; omega)]; done) | (rw [check_no hr (by omega) (by unfold dOk; omega)]; done), rfl⟩
                  · refine Wp.skip ?_
                    refine Ends.seq ?_
                    refine Wp.seq ?_
                    refine Wp.seq ?_
                    refine Wp.region ?_
                    refine Ops.pv (pv_move rfl) rfl ?_
                    first | refine Ops.pv (pv_not_dec rfl) rfl ?_ | refine Ops.pv (pv_not rfl) rfl ?_
                    refine Ops.nil ?_
                    refine Ends.seq ?_
                    refine Wp.cond_true rfl ?_
                    refine Wp.seq ?_
                    refine Wp.region ?_
                    refine Ops.pv (pv_assign rfl) rfl ?_
                    refine Ops.nil ?_
                    refine Ends.seq ?_
                    refine Wp.ret ?_
                    refine Ends.then_ret ?_
                    exact Ends.ret (res1 rfl rfl) ⟨by first | (rw [check_bad (by omega)]; done) | (rw [check_ok hr (by omega) (by unfold dOk; omega)]; done) | (rw [check_no hr (by omega) (by unfold dOk; omega)]; done), rfl⟩
              · refine Wp.skip ?_
                refine Ends.seq ?_
                refine Wp.seq ?_
                refine Wp.seq ?_
                refine Wp.region ?_
                first | refine Ops.pv (pv_fieldAddr0 rfl rfl) rfl ?_ | refine Ops.pv (pv_fieldAddr rfl rfl) rfl ?_
                first | refine Ops.pv (pv_load rfl rfl rfl) rfl ?_ | refine Ops.pv (pv_load rfl rfl (by assumption)) rfl ?_
                refine Ops.ef rfl (ef_callr (tr_badged c.kind) rfl rfl) ?_
                rintro _ _ ⟨rfl, rfl⟩
                first | refine Ops.pv (pv_not_dec rfl) rfl ?_ | refine Ops.pv (pv_not rfl) rfl ?_
                refine Ops.nil ?_
                refine Ends.seq ?_
                first | refine Wp.cond_dect rfl (fun h26 => ?_) (fun h26 => ?_) | refine Wp.cond_t rfl (fun h26 => ?_) (fun h26 => ?_)
                · refine Wp.region ?_
                  refine Ops.pv (pv_move rfl) rfl ?_
                  refine Ops.pv (pv_move rfl) rfl ?_
                  refine Ops.skipg ⟨_, _, rfl, rfl, rfl⟩ rfl ?_
                  refine Ops.skipg ⟨_, _, rfl, rfl, rfl⟩ rfl ?_
                  refine Ops.skipg ⟨_, _, rfl, rfl, rfl⟩ rfl ?_
                  refine Ops.pv (pv_pick_false rfl rfl) rfl ?_
                  refine Ops.pv (pv_assign rfl) rfl ?_
                  refine Ops.nil ?_
                  refine Ends.seq ?_
                  refine Wp.seq ?_
                  refine Wp.seq ?_
                  refine Wp.region ?_
                  first | refine Ops.pv (pv_fieldAddr0 rfl rfl) rfl ?_ | refine Ops.pv (pv_fieldAddr rfl rfl) rfl ?_
                  first | refine Ops.pv (pv_load rfl rfl rfl) rfl ?_ | refine Ops.pv (pv_load rfl rfl (by assumption)) rfl ?_
                  refine Ops.pv (pv_neq rfl rfl) rfl ?_
                  refine Ops.nil ?_
                  refine Ends.seq ?_
                  first | refine Wp.cond_dect rfl (fun h27 => ?_) (fun h27 => ?_) | refine Wp.cond_t rfl (fun h27 => ?_) (fun h27 => ?_)
                  · refine Wp.region ?_
                    refine Ops.pv (pv_move rfl) rfl ?_
                    refine Ops.pv (pv_move rfl) rfl ?_
                    refine Ops.skipg ⟨_, _, rfl, rfl, rfl⟩ rfl ?_
                    refine Ops.skipg ⟨_, _, rfl, rfl, rfl⟩ rfl ?_
                    refine Ops.skipg ⟨_, _, rfl, rfl, rfl⟩ rfl ?_
                    refine Ops.pv (pv_pick_false rfl rfl) rfl ?_
                    refine Ops.pv (pv_assign rfl) rfl ?_
                    refine Ops.nil ?_
                    refine Ends.seq ?_
                    refine Wp.seq ?_
                    refine Wp.seq ?_
                    refine Wp.region ?_
                    refine Ops.pv (pv_move rfl) rfl ?_
                    first | refine Ops.pv (pv_not_dec rfl) rfl ?_ | refine Ops.pv (pv_not rfl) rfl ?_
                    refine Ops.nil ?_
                    refine Ends.seq ?_
                    refine Wp.cond_true rfl ?_
                    refine Wp.seq ?_
                    refine Wp.region ?_
                    refine Ops.pv (pv_assign rfl) rfl ?_
                    refine Ops.nil ?_
                    refine Ends.seq ?_
                    refine Wp.ret ?_
                    refine Ends.then_ret ?_
                    exact Ends.ret (res1 rfl rfl) ⟨by first | (rw [check_bad (by omega)]; done) | (rw [check_ok hr (by omega) (by unfold dOk; omega)]; done) | (rw [check_no hr (by omega) (by unfold dOk; omega)]; done), rfl⟩
                  · refine Wp.skip ?_
                    refine Ends.seq ?_
                    refine Wp.seq ?_
                    refine Wp.seq ?_
                    refine Wp.region ?_
                    refine Ops.pv (pv_move rfl) rfl ?_
                    first | refine Ops.pv (pv_not_dec rfl) rfl ?_ | refine Ops.pv (pv_not rfl) rfl ?_
                    refine Ops.nil ?_
                    refine Ends.seq ?_
                    refine Wp.cond_true rfl ?_
                    refine Wp.seq ?_
                    refine Wp.region ?_
                    refine Ops.pv (pv_assign rfl) rfl ?_
                    refine Ops.nil ?_
                    refine Ends.seq ?_
                    refine Wp.ret ?_
                    refine Ends.then_ret ?_
                    exact Ends.ret (res1 rfl rfl) ⟨by first | (rw [check_bad (by omega)]; done) | (rw [check_ok hr (by omega) (by unfold dOk; omega)]; done) | (rw [check_no hr (by omega) (by unfold dOk; omega)]; done), rfl⟩
                · refine Wp.skip ?_
                  refine Ends.seq ?_
                  refine Wp.seq ?_
                  refine Wp.seq ?_
                  refine Wp.region ?_
                  first | refine Ops.pv (pv_fieldAddr0 rfl rfl) rfl ?_ | refine Ops.pv (pv_fieldAddr rfl rfl) rfl ?_
                  first | refine Ops.pv (pv_load rfl rfl rfl) rfl ?_ | refine Ops.pv (pv_load rfl rfl (by assumption)) rfl ?_
                  refine Ops.pv (pv_neq rfl rfl) rfl ?_
                  refine Ops.nil ?_
                  refine Ends.seq ?_
                  first | refine Wp.cond_dect rfl (fun h28 => ?_) (fun h28 => ?_) | refine Wp.cond_t rfl (fun h28 => ?_) (fun h28 => ?_)
                  · refine Wp.region ?_
                    refine Ops.pv (pv_move rfl) rfl ?_
                    refine Ops.pv (pv_move rfl) rfl ?_
                    refine Ops.skipg ⟨_, _, rfl, rfl, rfl⟩ rfl ?_
                    refine Ops.skipg ⟨_, _, rfl, rfl, rfl⟩ rfl ?_
                    refine Ops.skipg ⟨_, _, rfl, rfl, rfl⟩ rfl ?_
                    refine Ops.pv (pv_pick_false rfl rfl) rfl ?_
                    refine Ops.pv (pv_assign rfl) rfl ?_
                    refine Ops.nil ?_
                    refine Ends.seq ?_
                    refine Wp.seq ?_
                    refine Wp.seq ?_
                    refine Wp.region ?_
                    refine Ops.pv (pv_move rfl) rfl ?_
                    first | refine Ops.pv (pv_not_dec rfl) rfl ?_ | refine Ops.pv (pv_not rfl) rfl ?_
                    refine Ops.nil ?_
                    refine Ends.seq ?_
                    refine Wp.cond_true rfl ?_
                    refine Wp.seq ?_
                    refine Wp.region ?_
                    refine Ops.pv (pv_assign rfl) rfl ?_
                    refine Ops.nil ?_
                    refine Ends.seq ?_
                    refine Wp.ret ?_
                    refine Ends.then_ret ?_
                    exact Ends.ret (res1 rfl rfl) ⟨by first | (rw [check_bad (by omega)]; done) | (rw [check_ok hr (by omega) (by unfold dOk; omega)]; done) | (rw [check_no hr (by omega) (by unfold dOk; omega)]; done), rfl⟩
                  · refine Wp.skip ?_
                    refine Ends.seq ?_
                    refine Wp.seq ?_
                    refine Wp.seq ?_
                    refine Wp.region ?_
                    refine Ops.pv (pv_move rfl) rfl ?_
                    first | refine Ops.pv (pv_not_dec rfl) rfl ?_ | refine Ops.pv (pv_not rfl) rfl ?_
                    refine Ops.nil ?_
                    refine Ends.seq ?_
                    refine Wp.cond_true rfl ?_
                    refine Wp.seq ?_
                    refine Wp.region ?_
                    refine Ops.pv (pv_assign rfl) rfl ?_
                    refine Ops.nil ?_
                    refine Ends.seq ?_
                    refine Wp.ret ?_
                    refine Ends.then_ret ?_
                    exact Ends.ret (res1 rfl rfl) ⟨by first | (rw [check_bad (by omega)]; done) | (rw [check_ok hr (by omega) (by unfold dOk; omega)]; done) | (rw [check_no hr (by omega) (by unfold dOk; omega)]; done), rfl⟩
          · refine Wp.skip ?_
            refine Ends.seq ?_
            refine Wp.seq ?_
            refine Wp.seq ?_
            refine Wp.region ?_
            first | refine Ops.pv (pv_fieldAddr0 rfl rfl) rfl ?_ | refine Ops.pv (pv_fieldAddr rfl rfl) rfl ?_
            first | refine Ops.pv (pv_load rfl rfl rfl) rfl ?_ | refine Ops.pv (pv_load rfl rfl (by assumption)) rfl ?_
            refine Ops.ef rfl (ef_callr (tr_righted c.kind) rfl rfl) ?_
            rintro _ _ ⟨rfl, rfl⟩
            first | refine Ops.pv (pv_not_dec rfl) rfl ?_ | refine Ops.pv (pv_not rfl) rfl ?_
            refine Ops.nil ?_
            refine Ends.seq ?_
            first | refine Wp.cond_dect rfl (fun h29 => ?_) (fun h29 => ?_) | refine Wp.cond_t rfl (fun h29 => ?_) (fun h29 => ?_)
            · refine Wp.region ?_
              refine Ops.pv (pv_move rfl) rfl ?_
              refine Ops.pv (pv_move rfl) rfl ?_
              first | refine Ops.split (t := 56) rfl (fun h30 => ?_) (fun h30 => ?_) | refine Ops.splitb (t := 56) rfl (fun h30 => ?_) (fun h30 => ?_)
              · first | refine Ops.pvg ⟨_, _, rfl, rfl, rfl⟩ (pv_fieldAddr0 rfl rfl) rfl ?_ | refine Ops.pvg ⟨_, _, rfl, rfl, rfl⟩ (pv_fieldAddr rfl rfl) rfl ?_
                first | refine Ops.pvg ⟨_, _, rfl, rfl, rfl⟩ (pv_load rfl rfl rfl) rfl ?_ | refine Ops.pvg ⟨_, _, rfl, rfl, rfl⟩ (pv_load rfl rfl (by assumption)) rfl ?_
                refine Ops.pvg ⟨_, _, rfl, rfl, rfl⟩ (pv_eql rfl rfl) rfl ?_
                refine Ops.pv (pv_pick_true rfl rfl) rfl ?_
                refine Ops.pv (pv_assign rfl) rfl ?_
                refine Ops.nil ?_
                refine Ends.seq ?_
                refine Wp.seq ?_
                refine Wp.seq ?_
                refine Wp.region ?_
                first | refine Ops.pv (pv_fieldAddr0 rfl rfl) rfl ?_ | refine Ops.pv (pv_fieldAddr rfl rfl) rfl ?_
                first | refine Ops.pv (pv_load rfl rfl rfl) rfl ?_ | refine Ops.pv (pv_load rfl rfl (by assumption)) rfl ?_
                refine Ops.ef rfl (ef_callr (tr_badged c.kind) rfl rfl) ?_
                rintro _ _ ⟨rfl, rfl⟩
                first | refine Ops.pv (pv_not_dec rfl) rfl ?_ | refine Ops.pv (pv_not rfl) rfl ?_
                refine Ops.nil ?_
                refine Ends.seq ?_
                first | refine Wp.cond_dect rfl (fun h31 => ?_) (fun h31 => ?_) | refine Wp.cond_t rfl (fun h31 => ?_) (fun h31 => ?_)
                · refine Wp.region ?_
                  refine Ops.pv (pv_move rfl) rfl ?_
                  refine Ops.pv (pv_move rfl) rfl ?_
                  first | refine Ops.pvc rfl rfl (fun hg => pv_fieldAddr0 rfl rfl) rfl ?_ | refine Ops.pvc rfl rfl (fun hg => pv_fieldAddr rfl rfl) rfl ?_
                  first | refine Ops.pvc rfl rfl (fun hg => Pv.setE (t := 67) rfl (cv_pos hg) (pv_load rfl rfl rfl)) rfl ?_ | refine Ops.pvc rfl rfl (fun hg => Pv.setE (t := 67) rfl (cv_pos hg) (pv_load rfl rfl (by assumption))) rfl ?_
                  refine Ops.pvc rfl rfl (fun hg => Pv.setE (t := 67) rfl (cv_pos hg) (Pv.setE (t := 68) rfl (cv_pos hg) (pv_eql rfl rfl))) rfl ?_
                  refine Ops.pv (pv_pick_and rfl rfl) rfl ?_
                  refine Ops.pv (pv_assign rfl) rfl ?_
                  refine Ops.nil ?_
                  refine Ends.seq ?_
                  refine Wp.seq ?_
                  refine Wp.seq ?_
                  refine Wp.region ?_
                  first | refine Ops.pv (pv_fieldAddr0 rfl rfl) rfl ?_ | refine Ops.pv (pv_fieldAddr rfl rfl) rfl ?_
                  first | refine Ops.pv (pv_load rfl rfl rfl) rfl ?_ | refine Ops.pv (pv_load rfl rfl (by assumption)) rfl ?_
                  refine Ops.pv (pv_neq rfl rfl) rfl ?_
                  refine Ops.nil ?_
                  refine Ends.seq ?_
                  first | refine Wp.cond_dect rfl (fun h32 => ?_) (fun h32 => ?_) | refine Wp.cond_t rfl (fun h32 => ?_) (fun h32 => ?_)
                  · refine Wp.region ?_
                    refine Ops.pv (pv_move rfl) rfl ?_
                    refine Ops.pv (pv_move rfl) rfl ?_
                    first | refine Ops.pvc rfl rfl (fun hg => pv_fieldAddr0 rfl rfl) rfl ?_ | refine Ops.pvc rfl rfl (fun hg => pv_fieldAddr rfl rfl) rfl ?_
                    first | refine Ops.pvc rfl rfl (fun hg => Pv.setE (t := 76) rfl (cv_pos hg) (pv_load rfl rfl rfl)) rfl ?_ | refine Ops.pvc rfl rfl (fun hg => Pv.setE (t := 76) rfl (cv_pos hg) (pv_load rfl rfl (by assumption))) rfl ?_
                    refine Ops.pvc rfl rfl (fun hg => Pv.setE (t := 76) rfl (cv_pos hg) (Pv.setE (t := 77) rfl (cv_pos hg) (pv_eql rfl rfl))) rfl ?_
                    refine Ops.pv (pv_pick_and rfl rfl) rfl ?_
                    refine Ops.pv (pv_assign rfl) rfl ?_
                    refine Ops.nil ?_
                    refine Ends.seq ?_
                    refine Wp.seq ?_
                    refine Wp.seq ?_
                    refine Wp.region ?_
                    refine Ops.pv (pv_move rfl) rfl ?_
                    first | refine Ops.pv (pv_not_dec rfl) rfl ?_ | refine Ops.pv (pv_not rfl) rfl ?_
                    refine Ops.nil ?_
                    refine Ends.seq ?_
                    first | refine Wp.cond_dect rfl (fun h33 => ?_) (fun h33 => ?_) | refine Wp.cond_t rfl (fun h33 => ?_) (fun h33 => ?_)
                    · refine Wp.seq ?_
                      refine Wp.region ?_
                      refine Ops.pv (pv_assign rfl) rfl ?_
                      refine Ops.nil ?_
                      refine Ends.seq ?_
                      refine Wp.ret ?_
                      refine Ends.then_ret ?_
                      exact Ends.ret (res1 rfl rfl) ⟨by first | (rw [check_bad (by omega)]; done) | (rw [check_ok hr (by omega) (by unfold dOk; omega)]; done) | (rw [check_no hr (by omega) (by unfold dOk; omega)]; done), rfl⟩
                    · refine Wp.skip ?_
                      refine Ends.seq ?_
                      refine Wp.seq ?_
                      refine Wp.region ?_
                      refine Ops.pv (pv_assign rfl) rfl ?_
                      refine Ops.nil ?_
                      refine Ends.seq ?_
                      refine Wp.ret ?_
                      exact Ends.ret (res1 rfl rfl) ⟨by first | (rw [check_bad (by omega)]; done) | (rw [check_ok hr (by omega) (by unfold dOk; omega)]; done) | (rw [check_no hr (by omega) (by unfold dOk; omega)]; done), rfl⟩
                  · refine Wp.skip ?_
                    refine Ends.seq ?_
                    refine Wp.seq ?_
                    refine Wp.seq ?_
                    refine Wp.region ?_
                    refine Ops.pv (pv_move rfl) rfl ?_
                    first | refine Ops.pv (pv_not_dec rfl) rfl ?_ | refine Ops.pv (pv_not rfl) rfl ?_
                    refine Ops.nil ?_
                    refine Ends.seq ?_
                    first | refine Wp.cond_dect rfl (fun h34 => ?_) (fun h34 => ?_) | refine Wp.cond_t rfl (fun h34 => ?_) (fun h34 => ?_)
                    · refine Wp.seq ?_
                      refine Wp.region ?_
                      refine Ops.pv (pv_assign rfl) rfl ?_
                      refine Ops.nil ?_
                      refine Ends.seq ?_
                      refine Wp.ret ?_
                      refine Ends.then_ret ?_
                      exact Ends.ret (res1 rfl rfl) ⟨by first | (rw [check_bad (by omega)]; done) | (rw [check_ok hr (by omega) (by unfold dOk; omega)]; done) | (rw [check_no hr (by omega) (by unfold dOk; omega)]; done), rfl⟩
                    · refine Wp.skip ?_
                      refine Ends.seq ?_
                      refine Wp.seq ?_
                      refine Wp.region ?_
                      refine Ops.pv (pv_assign rfl) rfl ?_
                      refine Ops.nil ?_
                      refine Ends.seq ?_
                      refine Wp.ret ?_
                      exact Ends.ret (res1 rfl rfl) ⟨by first | (rw [check_bad (by omega)]; done) | (rw [check_ok hr (by omega) (by unfold dOk; omega)]; done) | (rw [check_no hr (by omega) (by unfold dOk; omega)]; done), rfl⟩
                · refine Wp.skip ?_
                  refine Ends.seq ?_
                  refine Wp.seq ?_
                  refine Wp.seq ?_
                  refine Wp.region ?_
                  first | refine Ops.pv (pv_fieldAddr0 rfl rfl) rfl ?_ | refine Ops.pv (pv_fieldAddr rfl rfl) rfl ?_
                  first | refine Ops.pv (pv_load rfl rfl rfl) rfl ?_ | refine Ops.pv (pv_load rfl rfl (by assumption)) rfl ?_
                  refine Ops.pv (pv_neq rfl rfl) rfl ?_
                  refine Ops.nil ?_
                  refine Ends.seq ?_
                  first | refine Wp.cond_dect rfl (fun h35 => ?_) (fun h35 => ?_) | refine Wp.cond_t rfl (fun h35 => ?_) (fun h35 => ?_)
                  · refine Wp.region ?_
                    refine Ops.pv (pv_move rfl) rfl ?_
                    refine Ops.pv (pv_move rfl) rfl ?_
                    first | refine Ops.pvc rfl rfl (fun hg => pv_fieldAddr0 rfl rfl) rfl ?_ | refine Ops.pvc rfl rfl (fun hg => pv_fieldAddr rfl rfl) rfl ?_
                    first | refine Ops.pvc rfl rfl (fun hg => Pv.setE (t := 76) rfl (cv_pos hg) (pv_load rfl rfl rfl)) rfl ?_ | refine Ops.pvc rfl rfl (fun hg => Pv.setE (t := 76) rfl (cv_pos hg) (pv_load rfl rfl (by assumption))) rfl ?_
                    refine Ops.pvc rfl rfl (fun hg => Pv.setE (t := 76) rfl (cv_pos hg) (Pv.setE (t := 77) rfl (cv_pos hg) (pv_eql rfl rfl))) rfl ?_
                    refine Ops.pv (pv_pick_and rfl rfl) rfl ?_
                    refine Ops.pv (pv_assign rfl) rfl ?_
                    refine Ops.nil ?_
                    refine Ends.seq ?_
                    refine Wp.seq ?_
                    refine Wp.seq ?_
                    refine Wp.region ?_
                    refine Ops.pv (pv_move rfl) rfl ?_
                    first | refine Ops.pv (pv_not_dec rfl) rfl ?_ | refine Ops.pv (pv_not rfl) rfl ?_
                    refine Ops.nil ?_
                    refine Ends.seq ?_
                    first | refine Wp.cond_dect rfl (fun h36 => ?_) (fun h36 => ?_) | refine Wp.cond_t rfl (fun h36 => ?_) (fun h36 => ?_)
                    · refine Wp.seq ?_
                      refine Wp.region ?_
                      refine Ops.pv (pv_assign rfl) rfl ?_
                      refine Ops.nil ?_
                      refine Ends.seq ?_
                      refine Wp.ret ?_
                      refine Ends.then_ret ?_
                      exact Ends.ret (res1 rfl rfl) ⟨by first | (rw [check_bad (by omega)]; done) | (rw [check_ok hr (by omega) (by unfold dOk; omega)]; done) | (rw [check_no hr (by omega) (by unfold dOk; omega)]; done), rfl⟩
                    · refine Wp.skip ?_
                      refine Ends.seq ?_
                      refine Wp.seq ?_
                      refine Wp.region ?_
                      refine Ops.pv (pv_assign rfl) rfl ?_
                      refine Ops.nil ?_
                      refine Ends.seq ?_
                      refine Wp.ret ?_
                      exact Ends.ret (res1 rfl rfl) ⟨by first | (rw [check_bad (by omega)]; done) | (rw [check_ok hr (by omega) (by unfold dOk; omega)]; done) | (rw [check_no hr (by omega) (by unfold dOk; omega)]; done), rfl⟩
                  · refine Wp.skip ?_
                    refine Ends.seq ?_
                    refine Wp.seq ?_
                    refine Wp.seq ?_
                    refine Wp.region ?_
                    refine Ops.pv (pv_move rfl) rfl ?_
                    first | refine Ops.pv (pv_not_dec rfl) rfl ?_ | refine Ops.pv (pv_not rfl) rfl ?_
                    refine Ops.nil ?_
                    refine Ends.seq ?_
                    first | refine Wp.cond_dect rfl (fun h37 => ?_) (fun h37 => ?_) | refine Wp.cond_t rfl (fun h37 => ?_) (fun h37 => ?_)
                    · refine Wp.seq ?_
                      refine Wp.region ?_
                      refine Ops.pv (pv_assign rfl) rfl ?_
                      refine Ops.nil ?_
                      refine Ends.seq ?_
                      refine Wp.ret ?_
                      refine Ends.then_ret ?_
                      exact Ends.ret (res1 rfl rfl) ⟨by first | (rw [check_bad (by omega)]; done) | (rw [check_ok hr (by omega) (by unfold dOk; omega)]; done) | (rw [check_no hr (by omega) (by unfold dOk; omega)]; done), rfl⟩
                    · refine Wp.skip ?_
                      refine Ends.seq ?_
                      refine Wp.seq ?_
                      refine Wp.region ?_
                      refine Ops.pv (pv_assign rfl) rfl ?_
                      refine Ops.nil ?_
                      refine Ends.seq ?_
                      refine Wp.ret ?_
                      exact Ends.ret (res1 rfl rfl) ⟨by first | (rw [check_bad (by omega)]; done) | (rw [check_ok hr (by omega) (by unfold dOk; omega)]; done) | (rw [check_no hr (by omega) (by unfold dOk; omega)]; done), rfl⟩
              · refine Ops.skipg ⟨_, _, rfl, rfl, rfl⟩ rfl ?_
                refine Ops.skipg ⟨_, _, rfl, rfl, rfl⟩ rfl ?_
                refine Ops.skipg ⟨_, _, rfl, rfl, rfl⟩ rfl ?_
                refine Ops.pv (pv_pick_false rfl rfl) rfl ?_
                refine Ops.pv (pv_assign rfl) rfl ?_
                refine Ops.nil ?_
                refine Ends.seq ?_
                refine Wp.seq ?_
                refine Wp.seq ?_
                refine Wp.region ?_
                first | refine Ops.pv (pv_fieldAddr0 rfl rfl) rfl ?_ | refine Ops.pv (pv_fieldAddr rfl rfl) rfl ?_
                first | refine Ops.pv (pv_load rfl rfl rfl) rfl ?_ | refine Ops.pv (pv_load rfl rfl (by assumption)) rfl ?_
                refine Ops.ef rfl (ef_callr (tr_badged c.kind) rfl rfl) ?_
                rintro _ _ ⟨rfl, rfl⟩
                first | refine Ops.pv (pv_not_dec rfl) rfl ?_ | refine Ops.pv (pv_not rfl) rfl ?_
                refine Ops.nil ?_
                refine Ends.seq ?_
                first | refine Wp.cond_dect rfl (fun h38 => ?_) (fun h38 => ?_) | refine Wp.cond_t rfl (fun h38 => ?_) (fun h38 => ?_)
                · refine Wp.region ?_
                  refine Ops.pv (pv_move rfl) rfl ?_
                  refine Ops.pv (pv_move rfl) rfl ?_
                  refine Ops.skipg ⟨_, _, rfl, rfl, rfl⟩ rfl ?_
                  refine Ops.skipg ⟨_, _, rfl, rfl, rfl⟩ rfl ?_
                  refine Ops.skipg ⟨_, _, rfl, rfl, rfl⟩ rfl ?_
                  refine Ops.pv (pv_pick_false rfl rfl) rfl ?_
                  refine Ops.pv (pv_assign rfl) rfl ?_
                  refine Ops.nil ?_
                  refine Ends.seq ?_
                  refine Wp.seq ?_
                  refine Wp.seq ?_
                  refine Wp.region ?_
                  first | refine Ops.pv (pv_fieldAddr0 rfl rfl) rfl ?_ | refine Ops.pv (pv_fieldAddr rfl rfl) rfl ?_
                  first | refine Ops.pv (pv_load rfl rfl rfl) rfl ?_ | refine Ops.pv (pv_load rfl rfl (by assumption)) rfl ?_
                  refine Ops.pv (pv_neq rfl rfl) rfl ?_
                  refine Ops.nil ?_
                  refine Ends.seq ?_
                  first | refine Wp.cond_dect rfl (fun h39 => ?_) (fun h39 => ?_) | refine Wp.cond_t rfl (fun h39 => ?_) (fun h39 => ?_)
                  · refine Wp.region ?_
                    refine Ops.pv (pv_move rfl) rfl ?_
                    refine Ops.pv (pv_move rfl) rfl ?_
                    refine Ops.skipg ⟨_, _, rfl, rfl, rfl⟩ rfl ?_
                    refine Ops.skipg ⟨_, _, rfl, rfl, rfl⟩ rfl ?_
                    refine Ops.skipg ⟨_, _, rfl, rfl, rfl⟩ rfl ?_
                    refine Ops.pv (pv_pick_false rfl rfl) rfl ?_
                    refine Ops.pv (pv_assign rfl) rfl ?_
                    refine Ops.nil ?_
                    refine Ends.seq ?_
                    refine Wp.seq ?_
                    refine Wp.seq ?_
                    refine Wp.region ?_
                    refine Ops.pv (pv_move rfl) rfl ?_
                    first | refine Ops.pv (pv_not_dec rfl) rfl ?_ | refine Ops.pv (pv_not rfl) rfl ?_
                    refine Ops.nil ?_
                    refine Ends.seq ?_
                    refine Wp.cond_true rfl ?_
                    refine Wp.seq ?_
                    refine Wp.region ?_
                    refine Ops.pv (pv_assign rfl) rfl ?_
                    refine Ops.nil ?_
                    refine Ends.seq ?_
                    refine Wp.ret ?_
                    refine Ends.then_ret ?_
                    exact Ends.ret (res1 rfl rfl) ⟨by first | (rw [check_bad (by omega)]; done) | (rw [check_ok hr (by omega) (by unfold dOk; omega)]; done) | (rw [check_no hr (by omega) (by unfold dOk; omega)]; done), rfl⟩
                  · refine Wp.skip ?_
                    refine Ends.seq ?_
                    refine Wp.seq ?_
                    refine Wp.seq ?_
                    refine Wp.region ?_
                    refine Ops.pv (pv_move rfl) rfl ?_
                    first | refine Ops.pv (pv_not_dec rfl) rfl ?_ | refine Ops.pv (pv_not rfl) rfl ?_
                    refine Ops.nil ?_
                    refine Ends.seq ?_
                    refine Wp.cond_true rfl ?_
                    refine Wp.seq ?_
                    refine Wp.region ?_
                    refine Ops.pv (pv_assign rfl) rfl ?_
                    refine Ops.nil ?_
                    refine Ends.seq ?_
                    refine Wp.ret ?_
                    refine Ends.then_ret ?_
                    exact Ends.ret (res1 rfl rfl) ⟨by first | (rw [check_bad (by omega)]; done) | (rw [check_ok hr (by omega) (by unfold dOk; omega)]; done) | (rw [check_no hr (by omega) (by unfold dOk; omega)]; done), rfl⟩
                · refine Wp.skip ?_
                  refine Ends.seq ?_
                  refine Wp.seq ?_
                  refine Wp.seq ?_
                  refine Wp.region ?_
                  first | refine Ops.pv (pv_fieldAddr0 rfl rfl) rfl ?_ | refine Ops.pv (pv_fieldAddr rfl rfl) rfl ?_
                  first | refine Ops.pv (pv_load rfl rfl rfl) rfl ?_ | refine Ops.pv (pv_load rfl rfl (by assumption)) rfl ?_
                  refine Ops.pv (pv_neq rfl rfl) rfl ?_
                  refine Ops.nil ?_
                  refine Ends.seq ?_
                  first | refine Wp.cond_dect rfl (fun h40 => ?_) (fun h40 => ?_) | refine Wp.cond_t rfl (fun h40 => ?_) (fun h40 => ?_)
                  · refine Wp.region ?_
                    refine Ops.pv (pv_move rfl) rfl ?_
                    refine Ops.pv (pv_move rfl) rfl ?_
                    refine Ops.skipg ⟨_, _, rfl, rfl, rfl⟩ rfl ?_
                    refine Ops.skipg ⟨_, _, rfl, rfl, rfl⟩ rfl ?_
                    refine Ops.skipg ⟨_, _, rfl, rfl, rfl⟩ rfl ?_
                    refine Ops.pv (pv_pick_false rfl rfl) rfl ?_
                    refine Ops.pv (pv_assign rfl) rfl ?_
                    refine Ops.nil ?_
                    refine Ends.seq ?_
                    refine Wp.seq ?_
                    refine Wp.seq ?_
                    refine Wp.region ?_
                    refine Ops.pv (pv_move rfl) rfl ?_
                    first | refine Ops.pv (pv_not_dec rfl) rfl ?_ | refine Ops.pv (pv_not rfl) rfl ?_
                    refine Ops.nil ?_
                    refine Ends.seq ?_
                    refine Wp.cond_true rfl ?_
                    refine Wp.seq ?_
                    refine Wp.region ?_
                    refine Ops.pv (pv_assign rfl) rfl ?_
                    refine Ops.nil ?_
                    refine Ends.seq ?_
                    refine Wp.ret ?_
                    refine Ends.then_ret ?_
                    exact Ends.ret (res1 rfl rfl) ⟨by first | (rw [check_bad (by omega)]; done) | (rw [check_ok hr (by omega) (by unfold dOk; omega)]; done) | (rw [check_no hr (by omega) (by unfold dOk; omega)]; done), rfl⟩
                  · refine Wp.skip ?_
                    refine Ends.seq ?_
                    refine Wp.seq ?_
                    refine Wp.seq ?_
                    refine Wp.region ?_
                    refine Ops.pv (pv_move rfl) rfl ?_
                    first | refine Ops.pv (pv_not_dec rfl) rfl ?_ | refine Ops.pv (pv_not rfl) rfl ?_
                    refine Ops.nil ?_
                    refine Ends.seq ?_
                    refine Wp.cond_true rfl ?_
                    refine Wp.seq ?_
                    refine Wp.region ?_
                    refine Ops.pv (pv_assign rfl) rfl ?_
                    refine Ops.nil ?_
                    refine Ends.seq ?_
                    refine Wp.ret ?_
                    refine Ends.then_ret ?_
                    exact Ends.ret (res1 rfl rfl) ⟨by first | (rw [check_bad (by omega)]; done) | (rw [check_ok hr (by omega) (by unfold dOk; omega)]; done) | (rw [check_no hr (by omega) (by unfold dOk; omega)]; done), rfl⟩
            · refine Wp.skip ?_
              refine Ends.seq ?_
              refine Wp.seq ?_
              refine Wp.seq ?_
              refine Wp.region ?_
              first | refine Ops.pv (pv_fieldAddr0 rfl rfl) rfl ?_ | refine Ops.pv (pv_fieldAddr rfl rfl) rfl ?_
              first | refine Ops.pv (pv_load rfl rfl rfl) rfl ?_ | refine Ops.pv (pv_load rfl rfl (by assumption)) rfl ?_
              refine Ops.ef rfl (ef_callr (tr_badged c.kind) rfl rfl) ?_
              rintro _ _ ⟨rfl, rfl⟩
              first | refine Ops.pv (pv_not_dec rfl) rfl ?_ | refine Ops.pv (pv_not rfl) rfl ?_
              refine Ops.nil ?_
              refine Ends.seq ?_
              first | refine Wp.cond_dect rfl (fun h41 => ?_) (fun h41 => ?_) | refine Wp.cond_t rfl (fun h41 => ?_) (fun h41 => ?_)
              · refine Wp.region ?_
                refine Ops.pv (pv_move rfl) rfl ?_
                refine Ops.pv (pv_move rfl) rfl ?_
                first | refine Ops.split (t := 66) rfl (fun h42 => ?_) (fun h42 => ?_) | refine Ops.splitb (t := 66) rfl (fun h42 => ?_) (fun h42 => ?_)
                · first | refine Ops.pvg ⟨_, _, rfl, rfl, rfl⟩ (pv_fieldAddr0 rfl rfl) rfl ?_ | refine Ops.pvg ⟨_, _, rfl, rfl, rfl⟩ (pv_fieldAddr rfl rfl) rfl ?_
                  first | refine Ops.pvg ⟨_, _, rfl, rfl, rfl⟩ (pv_load rfl rfl rfl) rfl ?_ | refine Ops.pvg ⟨_, _, rfl, rfl, rfl⟩ (pv_load rfl rfl (by assumption)) rfl ?_
                  refine Ops.pvg ⟨_, _, rfl, rfl, rfl⟩ (pv_eql rfl rfl) rfl ?_
                  refine Ops.pv (pv_pick_true rfl rfl) rfl ?_
                  refine Ops.pv (pv_assign rfl) rfl ?_
                  refine Ops.nil ?_
                  refine Ends.seq ?_
                  refine Wp.seq ?_
                  refine Wp.seq ?_
                  refine Wp.region ?_
                  first | refine Ops.pv (pv_fieldAddr0 rfl rfl) rfl ?_ | refine Ops.pv (pv_fieldAddr rfl rfl) rfl ?_
                  first | refine Ops.pv (pv_load rfl rfl rfl) rfl ?_ | refine Ops.pv (pv_load rfl rfl (by assumption)) rfl ?_
                  refine Ops.pv (pv_neq rfl rfl) rfl ?_
                  refine Ops.nil ?_
                  refine Ends.seq ?_
                  first | refine Wp.cond_dect rfl (fun h43 => ?_) (fun h43 => ?_) | refine Wp.cond_t rfl (fun h43 => ?_) (fun h43 => ?_)
                  · refine Wp.region ?_
                    refine Ops.pv (pv_move rfl) rfl ?_
                    refine Ops.pv (pv_move rfl) rfl ?_
                    first | refine Ops.pvc rfl rfl (fun hg => pv_fieldAddr0 rfl rfl) rfl ?_ | refine Ops.pvc rfl rfl (fun hg => pv_fieldAddr rfl rfl) rfl ?_
                    first | refine Ops.pvc rfl rfl (fun hg => Pv.setE (t := 76) rfl (cv_pos hg) (pv_load rfl rfl rfl)) rfl ?_ | refine Ops.pvc rfl rfl (fun hg => Pv.setE (t := 76) rfl (cv_pos hg) (pv_load rfl rfl (by assumption))) rfl ?_
                    refine Ops.pvc rfl rfl (fun hg => Pv.setE (t := 76) rfl (cv_pos hg) (Pv.setE (t := 77) rfl (cv_pos hg) (pv_eql rfl rfl))) rfl ?_
                    refine Ops.pv (pv_pick_and rfl rfl) rfl ?_
                    refine Ops.pv (pv_assign rfl) rfl ?_
                    refine Ops.nil ?_
                    refine Ends.seq ?_
                    refine Wp.seq ?_
                    refine Wp.seq ?_
                    refine Wp.region ?_
                    refine Ops.pv (pv_move rfl) rfl ?_
                    first | refine Ops.pv (pv_not_dec rfl) rfl ?_ | refine Ops.pv (pv_not rfl) rfl ?_
                    refine Ops.nil ?_
                    refine Ends.seq ?_
                    first | refine Wp.cond_dect rfl (fun h44 => ?_) (fun h44 => ?_) | refine Wp.cond_t rfl (fun h44 => ?_) (fun h44 => ?_)
                    · refine Wp.seq ?_
                      refine Wp.region ?_
                      refine Ops.pv (pv_assign rfl) rfl ?_
                      refine Ops.nil ?_
                      refine Ends.seq ?_
                      refine Wp.ret ?_
                      refine Ends.then_ret ?_
                      exact Ends.ret (res1 rfl rfl) ⟨by first | (rw [check_bad (by omega)]; done) | (rw [check_ok hr (by omega) (by unfold dOk; omega)]; done) | (rw [check_no hr (by omega) (by unfold dOk; omega)]; done), rfl⟩
                    · refine Wp.skip ?_
                      refine Ends.seq ?_
                      refine Wp.seq ?_
                      refine Wp.region ?_
                      refine Ops.pv (pv_assign rfl) rfl ?_
                      refine Ops.nil ?_
                      refine Ends.seq ?_
                      refine Wp.ret ?_
                      exact Ends.ret (res1 rfl rfl) ⟨by first | (rw [check_bad (by omega)]; done) | (rw [check_ok hr (by omega) (by unfold dOk; omega)]; done) | (rw [check_no hr (by omega) (by unfold dOk; omega)]; done), rfl⟩
                  · refine Wp.skip ?_
                    refine Ends.seq ?_
                    refine Wp.seq ?_
                    refine Wp.seq ?_
                    refine Wp.region ?_
                    refine Ops.pv (pv_move rfl) rfl ?_
                    first | refine Ops.pv (pv_not_dec rfl) rfl ?_ | refine Ops.pv (pv_not rfl) rfl ?_
                    refine Ops.nil ?_
                    refine Ends.seq ?_
                    first | refine Wp.cond_dect rfl (fun h45 => ?_) (fun h45 => ?_) | refine Wp.cond_t rfl (fun h45 => ?_) (fun h45 => ?_)
                    · refine Wp.seq ?_
                      refine Wp.region ?_
                      refine Ops.pv (pv_assign rfl) rfl ?_
                      refine Ops.nil ?_
                      refine Ends.seq ?_
                      refine Wp.ret ?_
                      refine Ends.then_ret ?_
                      exact Ends.ret (res1 rfl rfl) ⟨by first | (rw [check_bad (by omega)]; done) | (rw [check_ok hr (by omega) (by unfold dOk; omega)]; done) | (rw [check_no hr (by omega) (by unfold dOk; omega)]; done), rfl⟩
                    · refine Wp.skip ?_
                      refine Ends.seq ?_
                      refine Wp.seq ?_
                      refine Wp.region ?_
                      refine Ops.pv (pv_assign rfl) rfl ?_
                      refine Ops.nil ?_
                      refine Ends.seq ?_
                      refine Wp.ret ?_
                      exact Ends.ret (res1 rfl rfl) ⟨by first | (rw [check_bad (by omega)]; done) | (rw [check_ok hr (by omega) (by unfold dOk; omega)]; done) | (rw [check_no hr (by omega) (by unfold dOk; omega)]; done), rfl⟩
                · refine Ops.skipg ⟨_, _, rfl, rfl, rfl⟩ rfl ?_
                  refine Ops.skipg ⟨_, _, rfl, rfl, rfl⟩ rfl ?_
                  refine Ops.skipg ⟨_, _, rfl, rfl, rfl⟩ rfl ?_
                  refine Ops.pv (pv_pick_false rfl rfl) rfl ?_
                  refine Ops.pv (pv_assign rfl) rfl ?_
                  refine Ops.nil ?_
                  refine Ends.seq ?_
                  refine Wp.seq ?_
                  refine Wp.seq ?_
                  refine Wp.region ?_
                  first | refine Ops.pv (pv_fieldAddr0 rfl rfl) rfl ?_ | refine Ops.pv (pv_fieldAddr rfl rfl) rfl ?_
                  first | refine Ops.pv (pv_load rfl rfl rfl) rfl ?_ | refine Ops.pv (pv_load rfl rfl (by assumption)) rfl ?_
                  refine Ops.pv (pv_neq rfl rfl) rfl ?_
                  refine Ops.nil ?_
                  refine Ends.seq ?_
                  first | refine Wp.cond_dect rfl (fun h46 => ?_) (fun h46 => ?_) | refine Wp.cond_t rfl (fun h46 => ?_) (fun h46 => ?_)
                  · refine Wp.region ?_
                    refine Ops.pv (pv_move rfl) rfl ?_
                    refine Ops.pv (pv_move rfl) rfl ?_
                    refine Ops.skipg ⟨_, _, rfl, rfl, rfl⟩ rfl ?_
                    refine Ops.skipg ⟨_, _, rfl, rfl, rfl⟩ rfl ?_
                    refine Ops.skipg ⟨_, _, rfl, rfl, rfl⟩ rfl ?_
                    refine Ops.pv (pv_pick_false rfl rfl) rfl ?_
                    refine Ops.pv (pv_assign rfl) rfl ?_
                    refine Ops.nil ?_
                    refine Ends.seq ?_
                    refine Wp.seq ?_
                    refine Wp.seq ?_
                    refine Wp.region ?_
                    refine Ops.pv (pv_move rfl) rfl ?_
                    first | refine Ops.pv (pv_not_dec rfl) rfl ?_ | refine Ops.pv (pv_not rfl) rfl ?_
                    refine Ops.nil ?_
                    refine Ends.seq ?_
                    refine Wp.cond_true rfl ?_
                    refine Wp.seq ?_
                    refine Wp.region ?_
                    refine Ops.pv (pv_assign rfl) rfl ?_
                    refine Ops.nil ?_
                    refine Ends.seq ?_
                    refine Wp.ret ?_
                    refine Ends.then_ret ?_
                    exact Ends.ret (res1 rfl rfl) ⟨by first | (rw [check_bad (by omega)]; done) | (rw [check_ok hr (by omega) (by unfold dOk; omega)]; done) | (rw [check_no hr (by omega) (by unfold dOk; omega)]; done), rfl⟩
                  · refine Wp.skip ?_
                    refine Ends.seq ?_
                    refine Wp.seq ?_
                    refine Wp.seq ?_
                    refine Wp.region ?_
                    refine Ops.pv (pv_move rfl) rfl ?_
                    first | refine Ops.pv (pv_not_dec rfl) rfl ?_ | refine Ops.pv (pv_not rfl) rfl ?_
                    refine Ops.nil ?_
                    refine Ends.seq ?_
                    refine Wp.cond_true rfl ?_
                    refine Wp.seq ?_
                    refine Wp.region ?_
                    refine Ops.pv (pv_assign rfl) rfl ?_
                    refine Ops.nil ?_
                    refine Ends.seq ?_
                    refine Wp.ret ?_
                    refine Ends.then_ret ?_
                    exact Ends.ret (res1 rfl rfl) ⟨by first | (rw [check_bad (by omega)]; done) | (rw [check_ok hr (by omega) (by unfold dOk; omega)]; done) | (rw [check_no hr (by omega) (by unfold dOk; omega)]; done), rfl⟩
              · refine Wp.skip ?_
                refine Ends.seq ?_
                refine Wp.seq ?_
                refine Wp.seq ?_
                refine Wp.region ?_
                first | refine Ops.pv (pv_fieldAddr0 rfl rfl) rfl ?_ | refine Ops.pv (pv_fieldAddr rfl rfl) rfl ?_
                first | refine Ops.pv (pv_load rfl rfl rfl) rfl ?_ | refine Ops.pv (pv_load rfl rfl (by assumption)) rfl ?_
                refine Ops.pv (pv_neq rfl rfl) rfl ?_
                refine Ops.nil ?_
                refine Ends.seq ?_
                first | refine Wp.cond_dect rfl (fun h47 => ?_) (fun h47 => ?_) | refine Wp.cond_t rfl (fun h47 => ?_) (fun h47 => ?_)
                · refine Wp.region ?_
                  refine Ops.pv (pv_move rfl) rfl ?_
                  refine Ops.pv (pv_move rfl) rfl ?_
                  first | refine Ops.split (t := 75) rfl (fun h48 => ?_) (fun h48 => ?_) | refine Ops.splitb (t := 75) rfl (fun h48 => ?_) (fun h48 => ?_)
                  · first | refine Ops.pvg ⟨_, _, rfl, rfl, rfl⟩ (pv_fieldAddr0 rfl rfl) rfl ?_ | refine Ops.pvg ⟨_, _, rfl, rfl, rfl⟩ (pv_fieldAddr rfl rfl) rfl ?_
                    first | refine Ops.pvg ⟨_, _, rfl, rfl, rfl⟩ (pv_load rfl rfl rfl) rfl ?_ | refine Ops.pvg ⟨_, _, rfl, rfl, rfl⟩ (pv_load rfl rfl (by assumption)) rfl ?_
                    refine Ops.pvg ⟨_, _, rfl, rfl, rfl⟩ (pv_eql rfl rfl) rfl ?_
                    refine Ops.pv (pv_pick_true rfl rfl) rfl ?_
                    refine Ops.pv (pv_assign rfl) rfl ?_
                    refine Ops.nil ?_
                    refine Ends.seq ?_
                    refine Wp.seq ?_
                    refine Wp.seq ?_
                    refine Wp.region ?_
                    refine Ops.pv (pv_move rfl) rfl ?_
                    first | refine Ops.pv (pv_not_dec rfl) rfl ?_ | refine Ops.pv (pv_not rfl) rfl ?_
                    refine Ops.nil ?_
                    refine Ends.seq ?_
                    first | refine Wp.cond_dect rfl (fun h49 => ?_) (fun h49 => ?_) | refine Wp.cond_t rfl (fun h49 => ?_) (fun h49 => ?_)
                    · refine Wp.seq ?_
                      refine Wp.region ?_
                      refine Ops.pv (pv_assign rfl) rfl ?_
                      refine Ops.nil ?_
                      refine Ends.seq ?_
                      refine Wp.ret ?_
                      refine Ends.then_ret ?_
                      exact Ends.ret (res1 rfl rfl) ⟨by first | (rw [check_bad (by omega)]; done) | (rw [check_ok hr (by omega) (by unfold dOk; omega)]; done) | (rw [check_no hr (by omega) (by unfold dOk; omega)]; done), rfl⟩
                    · refine Wp.skip ?_
                      refine Ends.seq ?_
                      refine Wp.seq ?_
                      refine Wp.region ?_
                      refine Ops.pv (pv_assign rfl) rfl ?_
                      refine Ops.nil ?_
                      refine Ends.seq ?_
                      refine Wp.ret ?_
                      exact Ends.ret (res1 rfl rfl) ⟨by first | (rw [check_bad (by omega)]; done) | (rw [check_ok hr (by omega) (by unfold dOk; omega)]; done) | (rw [check_no hr (by omega) (by unfold dOk; omega)]; done), rfl⟩
                  · refine Ops.skipg ⟨_, _, rfl, rfl, rfl⟩ rfl ?_
                    refine Ops.skipg ⟨_, _, rfl, rfl, rfl⟩ rfl ?_
                    refine Ops.skipg ⟨_, _, rfl, rfl, rfl⟩ rfl ?_
                    refine Ops.pv (pv_pick_false rfl rfl) rfl ?_
                    refine Ops.pv (pv_assign rfl) rfl ?_
                    refine Ops.nil ?_
                    refine Ends.seq ?_
                    refine Wp.seq ?_
                    refine Wp.seq ?_
                    refine Wp.region ?_
                    refine Ops.pv (pv_move rfl) rfl ?_
                    first | refine Ops.pv (pv_not_dec rfl) rfl ?_ | refine Ops.pv (pv_not rfl) rfl ?_
                    refine Ops.nil ?_
                    refine Ends.seq ?_
                    refine Wp.cond_true rfl ?_
                    refine Wp.seq ?_
                    refine Wp.region ?_
                    refine Ops.pv (pv_assign rfl) rfl ?_
                    refine Ops.nil ?_
                    refine Ends.seq ?_
                    refine Wp.ret ?_
                    refine Ends.then_ret ?_
                    exact Ends.ret (res1 rfl rfl) ⟨by first | (rw [check_bad (by omega)]; done) | (rw [check_ok hr (by omega) (by unfold dOk; omega)]; done) | (rw [check_no hr (by omega) (by unfold dOk; omega)]; done), rfl⟩
                · refine Wp.skip ?_
                  refine Ends.seq ?_
                  refine Wp.seq ?_
                  refine Wp.seq ?_
                  refine Wp.region ?_
                  refine Ops.pv (pv_move rfl) rfl ?_
                  first | refine Ops.pv (pv_not_dec rfl) rfl ?_ | refine Ops.pv (pv_not rfl) rfl ?_
                  refine Ops.nil ?_
                  refine Ends.seq ?_
                  first | refine Wp.cond_dect rfl (fun h50 => ?_) (fun h50 => ?_) | refine Wp.cond_t rfl (fun h50 => ?_) (fun h50 => ?_)
                  · refine Wp.seq ?_
                    refine Wp.region ?_
                    refine Ops.pv (pv_assign rfl) rfl ?_
                    refine Ops.nil ?_
                    refine Ends.seq ?_
                    refine Wp.ret ?_
                    refine Ends.then_ret ?_
                    exact Ends.ret (res1 rfl rfl) ⟨by first | (rw [check_bad (by omega)]; done) | (rw [check_ok hr (by omega) (by unfold dOk; omega)]; done) | (rw [check_no hr (by omega) (by unfold dOk; omega)]; done), rfl⟩
                  · refine Wp.skip ?_
                    refine Ends.seq ?_
                    refine Wp.seq ?_
                    refine Wp.region ?_
                    refine Ops.pv (pv_assign rfl) rfl ?_
                    refine Ops.nil ?_
                    refine Ends.seq ?_
                    refine Wp.ret ?_
                    exact Ends.ret (res1 rfl rfl) ⟨by first | (rw [check_bad (by omega)]; done) | (rw [check_ok hr (by omega) (by unfold dOk; omega)]; done) | (rw [check_no hr (by omega) (by unfold dOk; omega)]; done), rfl⟩
        · refine Ops.skipg ⟨_, _, rfl, rfl, rfl⟩ rfl ?_
          refine Ops.skipg ⟨_, _, rfl, rfl, rfl⟩ rfl ?_
          refine Ops.skipg ⟨_, _, rfl, rfl, rfl⟩ rfl ?_
          refine Ops.skipg ⟨_, _, rfl, rfl, rfl⟩ rfl ?_
          refine Ops.skipg ⟨_, _, rfl, rfl, rfl⟩ rfl ?_
          refine Ops.pv (pv_pick_false rfl rfl) rfl ?_
          refine Ops.pv (pv_assign rfl) rfl ?_
          refine Ops.nil ?_
          refine Ends.seq ?_
          refine Wp.seq ?_
          refine Wp.seq ?_
          refine Wp.region ?_
          first | refine Ops.pv (pv_fieldAddr0 rfl rfl) rfl ?_ | refine Ops.pv (pv_fieldAddr rfl rfl) rfl ?_
          first | refine Ops.pv (pv_load rfl rfl rfl) rfl ?_ | refine Ops.pv (pv_load rfl rfl (by assumption)) rfl ?_
          refine Ops.pv (pv_eql rfl rfl) rfl ?_
          refine Ops.pv (pv_move rfl) rfl ?_
          first | refine Ops.pvcn rfl rfl (fun hg => pv_fieldAddr0 rfl rfl) rfl ?_ | refine Ops.pvcn rfl rfl (fun hg => pv_fieldAddr rfl rfl) rfl ?_
          first | refine Ops.pvcn rfl rfl (fun hg => Pv.setE (t := 41) rfl (cv_pos hg) (pv_load rfl rfl rfl)) rfl ?_ | refine Ops.pvcn rfl rfl (fun hg => Pv.setE (t := 41) rfl (cv_pos hg) (pv_load rfl rfl (by assumption))) rfl ?_
          refine Ops.pvcn rfl rfl (fun hg => Pv.setE (t := 41) rfl (cv_pos hg) (Pv.setE (t := 42) rfl (cv_pos hg) (pv_eql rfl rfl))) rfl ?_
          refine Ops.pv (pv_pick_or rfl rfl) rfl ?_
          refine Ops.nil ?_
          refine Ends.seq ?_
          first | refine Wp.cond_dect rfl (fun h51 => ?_) (fun h51 => ?_) | refine Wp.cond_t rfl (fun h51 => ?_) (fun h51 => ?_)
          · refine Wp.region ?_
            refine Ops.pv (pv_move rfl) rfl ?_
            refine Ops.pv (pv_move rfl) rfl ?_
            refine Ops.skipg ⟨_, _, rfl, rfl, rfl⟩ rfl ?_
            refine Ops.skipg ⟨_, _, rfl, rfl, rfl⟩ rfl ?_
            refine Ops.skipg ⟨_, _, rfl, rfl, rfl⟩ rfl ?_
            refine Ops.pv (pv_pick_false rfl rfl) rfl ?_
            refine Ops.pv (pv_assign rfl) rfl ?_
            refine Ops.nil ?_
            refine Ends.seq ?_
            refine Wp.seq ?_
            refine Wp.seq ?_
            refine Wp.region ?_
            first | refine Ops.pv (pv_fieldAddr0 rfl rfl) rfl ?_ | refine Ops.pv (pv_fieldAddr rfl rfl) rfl ?_
            first | refine Ops.pv (pv_load rfl rfl rfl) rfl ?_ | refine Ops.pv (pv_load rfl rfl (by assumption)) rfl ?_
            refine Ops.ef rfl (ef_callr (tr_righted c.kind) rfl rfl) ?_
            rintro _ _ ⟨rfl, rfl⟩
            first | refine Ops.pv (pv_not_dec rfl) rfl ?_ | refine Ops.pv (pv_not rfl) rfl ?_
            refine Ops.nil ?_
            refine Ends.seq ?_
            first | refine Wp.cond_dect rfl (fun h52 => ?_) (fun h52 => ?_) | refine Wp.cond_t rfl (fun h52 => ?_) (fun h52 => ?_)
            · refine Wp.region ?_
              refine Ops.pv (pv_move rfl) rfl ?_
              refine Ops.pv (pv_move rfl) rfl ?_
              refine Ops.skipg ⟨_, _, rfl, rfl, rfl⟩ rfl ?_
              refine Ops.skipg ⟨_, _, rfl, rfl, rfl⟩ rfl ?_
              refine Ops.skipg ⟨_, _, rfl, rfl, rfl⟩ rfl ?_
              refine Ops.pv (pv_pick_false rfl rfl) rfl ?_
              refine Ops.pv (pv_assign rfl) rfl ?_
              refine Ops.nil ?_
              refine Ends.seq ?_
              refine Wp.seq ?_
              refine Wp.seq ?_
              refine Wp.region ?_
              first | refine Ops.pv (pv_fieldAddr0 rfl rfl) rfl ?_ | refine Ops.pv (pv_fieldAddr rfl rfl) rfl ?_
              first | refine Ops.pv (pv_load rfl rfl rfl) rfl ?_ | refine Ops.pv (pv_load rfl rfl (by assumption)) rfl ?_
              refine Ops.ef rfl (ef_callr (tr_badged c.kind) rfl rfl) ?_
              rintro _ _ ⟨rfl, rfl⟩
              first | refine Ops.pv (pv_not_dec rfl) rfl ?_ | refine Ops.pv (pv_not rfl) rfl ?_
              refine Ops.nil ?_
              refine Ends.seq ?_
              first | refine Wp.cond_dect rfl (fun h53 => ?_) (fun h53 => ?_) | refine Wp.cond_t rfl (fun h53 => ?_) (fun h53 => ?_)
              · refine Wp.region ?_
                refine Ops.pv (pv_move rfl) rfl ?_
                refine Ops.pv (pv_move rfl) rfl ?_
                refine Ops.skipg ⟨_, _, rfl, rfl, rfl⟩ rfl ?_
                refine Ops.skipg ⟨_, _, rfl, rfl, rfl⟩ rfl ?_
                refine Ops.skipg ⟨_, _, rfl, rfl, rfl⟩ rfl ?_
                refine Ops.pv (pv_pick_false rfl rfl) rfl ?_
                refine Ops.pv (pv_assign rfl) rfl ?_
                refine Ops.nil ?_
                refine Ends.seq ?_
                refine Wp.seq ?_
                refine Wp.seq ?_
                refine Wp.region ?_
                first | refine Ops.pv (pv_fieldAddr0 rfl rfl) rfl ?_ | refine Ops.pv (pv_fieldAddr rfl rfl) rfl ?_
                first | refine Ops.pv (pv_load rfl rfl rfl) rfl ?_ | refine Ops.pv (pv_load rfl rfl (by assumption)) rfl ?_
                refine Ops.pv (pv_neq rfl rfl) rfl ?_
                refine Ops.nil ?_
                refine Ends.seq ?_
                first | refine Wp.cond_dect rfl (fun h54 => ?_) (fun h54 => ?_) | refine Wp.cond_t rfl (fun h54 => ?_) (fun h54 => ?_)
                · refine Wp.region ?_
                  refine Ops.pv (pv_move rfl) rfl ?_
                  refine Ops.pv (pv_move rfl) rfl ?_
                  refine Ops.skipg ⟨_, _, rfl, rfl, rfl⟩ rfl ?_
                  refine Ops.skipg ⟨_, _, rfl, rfl, rfl⟩ rfl ?_
                  refine Ops.skipg ⟨_, _, rfl, rfl, rfl⟩ rfl ?_
                  refine Ops.pv (pv_pick_false rfl rfl) rfl ?_
                  refine Ops.pv (pv_assign rfl) rfl ?_
                  refine Ops.nil ?_
                  refine Ends.seq ?_
                  refine Wp.seq ?_
                  refine Wp.seq ?_
                  refine Wp.region ?_
                  refine Ops.pv (pv_move rfl) rfl ?_
                  first | refine Ops.pv (pv_not_dec rfl) rfl ?_ | refine Ops.pv (pv_not rfl) rfl ?_
                  refine Ops.nil ?_
                  refine Ends.seq ?_
                  refine Wp.cond_true rfl ?_
                  refine Wp.seq ?_
                  refine Wp.region ?_
                  refine Ops.pv (pv_assign rfl) rfl ?_
                  refine Ops.nil ?_
                  refine Ends.seq ?_
                  refine Wp.ret ?_
                  refine Ends.then_ret ?_
                  exact Ends.ret (res1 rfl rfl) ⟨by first | (rw [check_bad (by omega)]; done) | (rw [check_ok hr (by omega) (by unfold dOk; omega)]; done) | (rw [check_no hr (by omega) (by unfold dOk; omega)]; done), rfl⟩
                · refine Wp.skip ?_
                  refine Ends.seq ?_
                  refine Wp.seq ?_
                  refine Wp.seq ?_
                  refine Wp.region ?_
                  refine Ops.pv (pv_move rfl) rfl ?_
                  first | refine Ops.pv (pv_not_dec rfl) rfl ?_ | refine Ops.pv (pv_not rfl) rfl ?_
                  refine Ops.nil ?_
                  refine Ends.seq ?_
                  refine Wp.cond_true rfl ?_
                  refine Wp.seq ?_
                  refine Wp.region ?_
                  refine Ops.pv (pv_assign rfl) rfl ?_
                  refine Ops.nil ?_
                  refine Ends.seq ?_
                  refine Wp.ret ?_
                  refine Ends.then_ret ?_
                  exact Ends.ret (res1 rfl rfl) ⟨by first | (rw [check_bad (by omega)]; done) | (rw [check_ok hr (by omega) (by unfold dOk; omega)]; done) | (rw [check_no hr (by omega) (by unfold dOk; omega)]; done), rfl⟩
              · refine Wp.skip ?_
                refine Ends.seq ?_
                refine Wp.seq ?_
                refine Wp.seq ?_
                refine Wp.region ?_
                first | refine Ops.pv (pv_fieldAddr0 rfl rfl) rfl ?_ | refine Ops.pv (pv_fieldAddr rfl rfl) rfl ?_
                first | refine Ops.pv (pv_load rfl rfl rfl) rfl ?_ | refine Ops.pv (pv_load rfl rfl (by assumption)) rfl ?_
                refine Ops.pv (pv_neq rfl rfl) rfl ?_
                refine Ops.nil ?_
                refine Ends.seq ?_
                first | refine Wp.cond_dect rfl (fun h55 => ?_) (fun h55 => ?_) | refine Wp.cond_t rfl (fun h55 => ?_) (fun h55 => ?_)
                · refine Wp.region ?_
                  refine Ops.pv (pv_move rfl) rfl ?_
                  refine Ops.pv (pv_move rfl) rfl ?_
                  refine Ops.skipg ⟨_, _, rfl, rfl, rfl⟩ rfl ?_
                  refine Ops.skipg ⟨_, _, rfl, rfl, rfl⟩ rfl ?_
                  refine Ops.skipg ⟨_, _, rfl, rfl, rfl⟩ rfl ?_
                  refine Ops.pv (pv_pick_false rfl rfl) rfl ?_
                  refine Ops.pv (pv_assign rfl) rfl ?_
                  refine Ops.nil ?_
                  refine Ends.seq ?_
                  refine Wp.seq ?_
                  refine Wp.seq ?_
                  refine Wp.region ?_
                  refine Ops.pv (pv_move rfl) rfl ?_
                  first | refine Ops.pv (pv_not_dec rfl) rfl ?_ | refine Ops.pv (pv_not rfl) rfl ?_
                  refine Ops.nil ?_
                  refine Ends.seq ?_
                  refine Wp.cond_true rfl ?_
                  refine Wp.seq ?_
                  refine Wp.region ?_
                  refine Ops.pv (pv_assign rfl) rfl ?_
                  refine Ops.nil ?_
                  refine Ends.seq ?_
                  refine Wp.ret ?_
                  refine Ends.then_ret ?_
                  exact Ends.ret (res1 rfl rfl) ⟨by first | (rw [check_bad (by omega)]; done) | (rw [check_ok hr (by omega) (by unfold dOk; omega)]; done) | (rw [check_no hr (by omega) (by unfold dOk; omega)]; done), rfl⟩
                · refine Wp.skip ?_
                  refine Ends.seq ?_
                  refine Wp.seq ?_
                  refine Wp.seq ?_
                  refine Wp.region ?_
                  refine Ops.pv (pv_move rfl) rfl ?_
                  first | refine Ops.pv (pv_not_dec rfl) rfl ?_ | refine Ops.pv (pv_not rfl) rfl ?_
                  refine Ops.nil ?_
                  refine Ends.seq ?_
                  refine Wp.cond_true rfl ?_
                  refine Wp.seq ?_
                  refine Wp.region ?_
                  refine Ops.pv (pv_assign rfl) rfl ?_
                  refine Ops.nil ?_
                  refine Ends.seq ?_
                  refine Wp.ret ?_
                  refine Ends.then_ret ?_
                  exact Ends.ret (res1 rfl rfl) ⟨by first | (rw [check_bad (by omega)]; done) | (rw [check_ok hr (by omega) (by unfold dOk; omega)]; done) | (rw [check_no hr (by omega) (by unfold dOk; omega)]; done), rfl⟩
            · refine Wp.skip ?_
              refine Ends.seq ?_
              refine Wp.seq ?_
              refine Wp.seq ?_
              refine Wp.region ?_
              first | refine Ops.pv (pv_fieldAddr0 rfl rfl) rfl ?_ | refine Ops.pv (pv_fieldAddr rfl rfl) rfl ?_
              first | refine Ops.pv (pv_load rfl rfl rfl) rfl ?_ | refine Ops.pv (pv_load rfl rfl (by assumption)) rfl ?_
              refine Ops.ef rfl (ef_callr (tr_badged c.kind) rfl rfl) ?_
              rintro _ _ ⟨rfl, rfl⟩
              first | refine Ops.pv (pv_not_dec rfl) rfl ?_ | refine Ops.pv (pv_not rfl) rfl ?_
              refine Ops.nil ?_
              refine Ends.seq ?_
              first | refine Wp.cond_dect rfl (fun h56 => ?_) (fun h56 => ?_) | refine Wp.cond_t rfl (fun h56 => ?_) (fun h56 => ?_)
              · refine Wp.region ?_
                refine Ops.pv (pv_move rfl) rfl ?_
                refine Ops.pv (pv_move rfl) rfl ?_
                refine Ops.skipg ⟨_, _, rfl, rfl, rfl⟩ rfl ?_
                refine Ops.skipg ⟨_, _, rfl, rfl, rfl⟩ rfl ?_
                refine Ops.skipg ⟨_, _, rfl, rfl, rfl⟩ rfl ?_
                refine Ops.pv (pv_pick_false rfl rfl) rfl ?_
                refine Ops.pv (pv_assign rfl) rfl ?_
                refine Ops.nil ?_
                refine Ends.seq ?_
                refine Wp.seq ?_
                refine Wp.seq ?_
                refine Wp.region ?_
                first | refine Ops.pv (pv_fieldAddr0 rfl rfl) rfl ?_ | refine Ops.pv (pv_fieldAddr rfl rfl) rfl ?_
                first | refine Ops.pv (pv_load rfl rfl rfl) rfl ?_ | refine Ops.pv (pv_load rfl rfl (by assumption)) rfl ?_
                refine Ops.pv (pv_neq rfl rfl) rfl ?_
                refine Ops.nil ?_
                refine Ends.seq ?_
                first | refine Wp.cond_dect rfl (fun h57 => ?_) (fun h57 => ?_) | refine Wp.cond_t rfl (fun h57 => ?_) (fun h57 => ?_)
                · refine Wp.region ?_
                  refine Ops.pv (pv_move rfl) rfl ?_
                  refine Ops.pv (pv_move rfl) rfl ?_
                  refine Ops.skipg ⟨_, _, rfl, rfl, rfl⟩ rfl ?_
                  refine Ops.skipg ⟨_, _, rfl, rfl, rfl⟩ rfl ?_
                  refine Ops.skipg ⟨_, _, rfl, rfl, rfl⟩ rfl ?_
                  refine Ops.pv (pv_pick_false rfl rfl) rfl ?_
                  refine Ops.pv (pv_assign rfl) rfl ?_
                  refine Ops.nil ?_
                  refine Ends.seq ?_
                  refine Wp.seq ?_
                  refine Wp.seq ?_
                  refine Wp.region ?_
                  refine Ops.pv (pv_move rfl) rfl ?_
                  first | refine Ops.pv (pv_not_dec rfl) rfl ?_ | refine Ops.pv (pv_not rfl) rfl ?_
                  refine Ops.nil ?_
                  refine Ends.seq ?_
                  refine Wp.cond_true rfl ?_
                  refine Wp.seq ?_
                  refine Wp.region ?_
                  refine Ops.pv (pv_assign rfl) rfl ?_
                  refine Ops.nil ?_
                  refine Ends.seq ?_
                  refine Wp.ret ?_
                  refine Ends.then_ret ?_
                  exact Ends.ret (res1 rfl rfl) ⟨by first | (rw [check_bad (by omega)]; done) | (rw [check_ok hr (by omega) (by unfold dOk; omega)]; done) | (rw [check_no hr (by omega) (by unfold dOk; omega)]; done), rfl⟩
                · refine Wp.skip ?_
                  refine Ends.seq ?_
                  refine Wp.seq ?_
                  refine Wp.seq ?_
                  refine Wp.region ?_
                  refine Ops.pv (pv_move rfl) rfl ?_
                  first | refine Ops.pv (pv_not_dec rfl) rfl ?_ | refine Ops.pv (pv_not rfl) rfl ?_
                  refine Ops.nil ?_
                  refine Ends.seq ?_
                  refine Wp.cond_true rfl ?_
                  refine Wp.seq ?_
                  refine Wp.region ?_
                  refine Ops.pv (pv_assign rfl) rfl ?_
                  refine Ops.nil ?_
                  refine Ends.seq ?_
                  refine Wp.ret ?_
                  refine Ends.then_ret ?_
                  exact Ends.ret (res1 rfl rfl) ⟨by first | (rw [check_bad (by omega)]; done) | (rw [check_ok hr (by omega) (by unfold dOk; omega)]; done) | (rw [check_no hr (by omega) (by unfold dOk; omega)]; done), rfl⟩
              · refine Wp.skip ?_
                refine Ends.seq ?_
                refine Wp.seq ?_
                refine Wp.seq ?_
                refine Wp.region ?_
                first | refine Ops.pv (pv_fieldAddr0 rfl rfl) rfl ?_ | refine Ops.pv (pv_fieldAddr rfl rfl) rfl ?_
                first | refine Ops.pv (pv_load rfl rfl rfl) rfl ?_ | refine Ops.pv (pv_load rfl rfl (by assumption)) rfl ?_
                refine Ops.pv (pv_neq rfl rfl) rfl ?_
                refine Ops.nil ?_
                refine Ends.seq ?_
                first | refine Wp.cond_dect rfl (fun h58 => ?_) (fun h58 => ?_) | refine Wp.cond_t rfl (fun h58 => ?_) (fun h58 => ?_)
                · refine Wp.region ?_
                  refine Ops.pv (pv_move rfl) rfl ?_
                  refine Ops.pv (pv_move rfl) rfl ?_
                  refine Ops.skipg ⟨_, _, rfl, rfl, rfl⟩ rfl ?_
                  refine Ops.skipg ⟨_, _, rfl, rfl, rfl⟩ rfl ?_
                  refine Ops.skipg ⟨_, _, rfl, rfl, rfl⟩ rfl ?_
                  refine Ops.pv (pv_pick_false rfl rfl) rfl ?_
                  refine Ops.pv (pv_assign rfl) rfl ?_
                  refine Ops.nil ?_
                  refine Ends.seq ?_
                  refine Wp.seq ?_
                  refine Wp.seq ?_
                  refine Wp.region ?_
                  refine Ops.pv (pv_move rfl) rfl ?_
                  first | refine Ops.pv (pv_not_dec rfl) rfl ?_ | refine Ops.pv (pv_not rfl) rfl ?_
                  refine Ops.nil ?_
                  refine Ends.seq ?_
                  refine Wp.cond_true rfl ?_
                  refine Wp.seq ?_
                  refine Wp.region ?_
                  refine Ops.pv (pv_assign rfl) rfl ?_
                  refine Ops.nil ?_
                  refine Ends.seq ?_
                  refine Wp.ret ?_
                  refine Ends.then_ret ?_
                  exact Ends.ret (res1 rfl rfl) ⟨by first | (rw [check_bad (by omega)]; done) | (rw [check_ok hr (by omega) (by unfold dOk; omega)]; done) | (rw [check_no hr (by omega) (by unfold dOk; omega)]; done), rfl⟩
                · refine Wp.skip ?_
                  refine Ends.seq ?_
                  refine Wp.seq ?_
                  refine Wp.seq ?_
                  refine Wp.region ?_
                  refine Ops.pv (pv_move rfl) rfl ?_
                  first | refine Ops.pv (pv_not_dec rfl) rfl ?_ | refine Ops.pv (pv_not rfl) rfl ?_
                  refine Ops.nil ?_
                  refine Ends.seq ?_
                  refine Wp.cond_true rfl ?_
                  refine Wp.seq ?_
                  refine Wp.region ?_
                  refine Ops.pv (pv_assign rfl) rfl ?_
                  refine Ops.nil ?_
                  refine Ends.seq ?_
                  refine Wp.ret ?_
                  refine Ends.then_ret ?_
                  exact Ends.ret (res1 rfl rfl) ⟨by first | (rw [check_bad (by omega)]; done) | (rw [check_ok hr (by omega) (by unfold dOk; omega)]; done) | (rw [check_no hr (by omega) (by unfold dOk; omega)]; done), rfl⟩
          · refine Wp.skip ?_
            refine Ends.seq ?_
            refine Wp.seq ?_
            refine Wp.seq ?_
            refine Wp.region ?_
            first | refine Ops.pv (pv_fieldAddr0 rfl rfl) rfl ?_ | refine Ops.pv (pv_fieldAddr rfl rfl) rfl ?_
            first | refine Ops.pv (pv_load rfl rfl rfl) rfl ?_ | refine Ops.pv (pv_load rfl rfl (by assumption)) rfl ?_
            refine Ops.ef rfl (ef_callr (tr_righted c.kind) rfl rfl) ?_
            rintro _ _ ⟨rfl, rfl⟩
            first | refine Ops.pv (pv_not_dec rfl) rfl ?_ | refine Ops.pv (pv_not rfl) rfl ?_
            refine Ops.nil ?_
            refine Ends.seq ?_
            first | refine Wp.cond_dect rfl (fun h59 => ?_) (fun h59 => ?_) | refine Wp.cond_t rfl (fun h59 => ?_) (fun h59 => ?_)
            · refine Wp.region ?_
              refine Ops.pv (pv_move rfl) rfl ?_
              refine Ops.pv (pv_move rfl) rfl ?_
              refine Ops.skipg ⟨_, _, rfl, rfl, rfl⟩ rfl ?_
              refine Ops.skipg ⟨_, _, rfl, rfl, rfl⟩ rfl ?_
              refine Ops.skipg ⟨_, _, rfl, rfl, rfl⟩ rfl ?_
              refine Ops.pv (pv_pick_false rfl rfl) rfl ?_
              refine Ops.pv (pv_assign rfl) rfl ?_
              refine Ops.nil ?_
              refine Ends.seq ?_
              refine Wp.seq ?_
              refine Wp.seq ?_
              refine Wp.region ?_
              first | refine Ops.pv (pv_fieldAddr0 rfl rfl) rfl ?_ | refine Ops.pv (pv_fieldAddr rfl rfl) rfl ?_
              first | refine Ops.pv (pv_load rfl rfl rfl) rfl ?_ | refine Ops.pv (pv_load rfl rfl (by assumption)) rfl ?_
              refine Ops.ef rfl (ef_callr (tr_badged c.kind) rfl rfl) ?_
              rintro _ _ ⟨rfl, rfl⟩
              first | refine Ops.pv (pv_not_dec rfl) rfl ?_ | refine Ops.pv (pv_not rfl) rfl ?_
              refine Ops.nil ?_
              refine Ends.seq ?_
              first | refine Wp.cond_dect rfl (fun h60 => ?_) (fun h60 => ?_) | refine Wp.cond_t rfl (fun h60 => ?_) (fun h60 => ?_)
              · refine Wp.region ?_
                refine Ops.pv (pv_move rfl) rfl ?_
                refine Ops.pv (pv_move rfl) rfl ?_
                refine Ops.skipg ⟨_, _, rfl, rfl, rfl⟩ rfl ?_
                refine Ops.skipg ⟨_, _, rfl, rfl, rfl⟩ rfl ?_
                refine Ops.skipg ⟨_, _, rfl, rfl, rfl⟩ rfl ?_
                refine Ops.pv (pv_pick_false rfl rfl) rfl ?_
                refine Ops.pv (pv_assign rfl) rfl ?_
                refine Ops.nil ?_
                refine Ends.seq ?_
                refine Wp.seq ?_
                refine Wp.seq ?_
                refine Wp.region ?_
                first | refine Ops.pv (pv_fieldAddr0 rfl rfl) rfl ?_ | refine Ops.pv (pv_fieldAddr rfl rfl) rfl ?_
                first | refine Ops.pv (pv_load rfl rfl rfl) rfl ?_ | refine Ops.pv (pv_load rfl rfl (by assumption)) rfl ?_
                refine Ops.pv (pv_neq rfl rfl) rfl ?_
                refine Ops.nil ?_
                refine Ends.seq ?_
                first | refine Wp.cond_dect rfl (fun h61 => ?_) (fun h61 => ?_) | refine Wp.cond_t rfl (fun h61 => ?_) (fun h61 => ?_)
                · refine Wp.region ?_
                  refine Ops.pv (pv_move rfl) rfl ?_
                  refine Ops.pv (pv_move rfl) rfl ?_
                  refine Ops.skipg ⟨_, _, rfl, rfl, rfl⟩ rfl ?_
                  refine Ops.skipg ⟨_, _, rfl, rfl, rfl⟩ rfl ?_
                  refine Ops.skipg ⟨_, _, rfl, rfl, rfl⟩ rfl ?_
                  refine Ops.pv (pv_pick_false rfl rfl) rfl ?_
                  refine Ops.pv (pv_assign rfl) rfl ?_
                  refine Ops.nil ?_
                  refine Ends.seq ?_
                  refine Wp.seq ?_
                  refine Wp.seq ?_
                  refine Wp.region ?_
                  refine Ops.pv (pv_move rfl) rfl ?_
                  first | refine Ops.pv (pv_not_dec rfl) rfl ?_ | refine Ops.pv (pv_not rfl) rfl ?_
                  refine Ops.nil ?_
                  refine Ends.seq ?_
                  refine Wp.cond_true rfl ?_
                  refine Wp.seq ?_
                  refine Wp.region ?_
                  refine Ops.pv (pv_assign rfl) rfl ?_
                  refine Ops.nil ?_
                  refine Ends.seq ?_
                  refine Wp.ret ?_
                  refine Ends.then_ret ?_
                  exact Ends.ret (res1 rfl rfl) ⟨by first | (rw [check_bad (by omega)]; done) | (rw [check_ok hr (by omega) (by unfold dOk; omega)]; done) | (rw [check_no hr (by omega) (by unfold dOk; omega)]; done), rfl⟩
                · refine Wp.skip ?_
                  refine Ends.seq ?_
                  refine Wp.seq ?_
                  refine Wp.seq ?_
                  refine Wp.region ?_
                  refine Ops.pv (pv_move rfl) rfl ?_
                  first | refine Ops.pv (pv_not_dec rfl) rfl ?_ | refine Ops.pv (pv_not rfl) rfl ?_
                  refine Ops.nil ?_
                  refine Ends.seq ?_
                  refine Wp.cond_true rfl ?_
                  refine Wp.seq ?_
                  refine Wp.region ?_
                  refine Ops.pv (pv_assign rfl) rfl ?_
                  refine Ops.nil ?_
                  refine Ends.seq ?_
                  refine Wp.ret ?_
                  refine Ends.then_ret ?_
                  exact Ends.ret (res1 rfl rfl) ⟨by first | (rw [check_bad (by omega)]; done) | (rw [check_ok hr (by omega) (by unfold dOk; omega)]; done) | (rw [check_no hr (by omega) (by unfold dOk; omega)]; done), rfl⟩
              · refine Wp.skip ?_
                refine Ends.seq ?_
                refine Wp.seq ?_
                refine Wp.seq ?_
                refine Wp.region ?_
                first | refine Ops.pv (pv_fieldAddr0 rfl rfl) rfl ?_ | refine Ops.pv (pv_fieldAddr rfl rfl) rfl ?_
                first | refine Ops.pv (pv_load rfl rfl rfl) rfl ?_ | refine Ops.pv (pv_load rfl rfl (by assumption)) rfl ?_
                refine Ops.pv (pv_neq rfl rfl) rfl ?_
                refine Ops.nil ?_
                refine Ends.seq ?_
                first | refine Wp.cond_dect rfl (fun h62 => ?_) (fun h62 => ?_) | refine Wp.cond_t rfl (fun h62 => ?_) (fun h62 => ?_)
                · refine Wp.region ?_
                  refine Ops.pv (pv_move rfl) rfl ?_
                  refine Ops.pv (pv_move rfl) rfl ?_
                  refine Ops.skipg ⟨_, _, rfl, rfl, rfl⟩ rfl ?_
                  refine Ops.skipg ⟨_, _, rfl, rfl, rfl⟩ rfl ?_
                  refine Ops.skipg ⟨_, _, rfl, rfl, rfl⟩ rfl ?_
                  refine Ops.pv (pv_pick_false rfl rfl) rfl ?_
                  refine Ops.pv (pv_assign rfl) rfl ?_
                  refine Ops.nil ?_
                  refine Ends.seq ?_
                  refine Wp.seq ?_
                  refine Wp.seq ?_
                  refine Wp.region ?_
                  refine Ops.pv (pv_move rfl) rfl ?_
                  first | refine Ops.pv (pv_not_dec rfl) rfl ?_ | refine Ops.pv (pv_not rfl) rfl ?_
                  refine Ops.nil ?_
                  refine Ends.seq ?_
                  refine Wp.cond_true rfl ?_
                  refine Wp.seq ?_
                  refine Wp.region ?_
                  refine Ops.pv (pv_assign rfl) rfl ?_
                  refine Ops.nil ?_
                  refine Ends.seq ?_
                  refine Wp.ret ?_
                  refine Ends.then_ret ?_
                  exact Ends.ret (res1 rfl rfl) ⟨by first | (rw [check_bad (by omega)]; done) | (rw [check_ok hr (by omega) (by unfold dOk; omega)]; done) | (rw [check_no hr (by omega) (by unfold dOk; omega)]; done), rfl⟩
                · refine Wp.skip ?_
                  refine Ends.seq ?_
                  refine Wp.seq ?_
                  refine Wp.seq ?_
                  refine Wp.region ?_
                  refine Ops.pv (pv_move rfl) rfl ?_
                  first | refine Ops.pv (pv_not_dec rfl) rfl ?_ | refine Ops.pv (pv_not rfl) rfl ?_
                  refine Ops.nil ?_
                  refine Ends.seq ?_
                  refine Wp.cond_true rfl ?_
                  refine Wp.seq ?_
                  refine Wp.region ?_
                  refine Ops.pv (pv_assign rfl) rfl ?_
                  refine Ops.nil ?_
                  refine Ends.seq ?_
                  refine Wp.ret ?_
                  refine Ends.then_ret ?_
                  exact Ends.ret (res1 rfl rfl) ⟨by first | (rw [check_bad (by omega)]; done) | (rw [check_ok hr (by omega) (by unfold dOk; omega)]; done) | (rw [check_no hr (by omega) (by unfold dOk; omega)]; done), rfl⟩
            · refine Wp.skip ?_
              refine Ends.seq ?_
              refine Wp.seq ?_
              refine Wp.seq ?_
              refine Wp.region ?_
              first | refine Ops.pv (pv_fieldAddr0 rfl rfl) rfl ?_ | refine Ops.pv (pv_fieldAddr rfl rfl) rfl ?_
              first | refine Ops.pv (pv_load rfl rfl rfl) rfl ?_ | refine Ops.pv (pv_load rfl rfl (by assumption)) rfl ?_
              refine Ops.ef rfl (ef_callr (tr_badged c.kind) rfl rfl) ?_
              rintro _ _ ⟨rfl, rfl⟩
              first | refine Ops.pv (pv_not_dec rfl) rfl ?_ | refine Ops.pv (pv_not rfl) rfl ?_
              refine Ops.nil ?_
              refine Ends.seq ?_
              first | refine Wp.cond_dect rfl (fun h63 => ?_) (fun h63 => ?_) | refine Wp.cond_t rfl (fun h63 => ?_) (fun h63 => ?_)
              · refine Wp.region ?_
                refine Ops.pv (pv_move rfl) rfl ?_
                refine Ops.pv (pv_move rfl) rfl ?_
                refine Ops.skipg ⟨_, _, rfl, rfl, rfl⟩ rfl ?_
                refine Ops.skipg ⟨_, _, rfl, rfl, rfl⟩ rfl ?_
                refine Ops.skipg ⟨_, _, rfl, rfl, rfl⟩ rfl ?_
                refine Ops.pv (pv_pick_false rfl rfl) rfl ?_
                refine Ops.pv (pv_assign rfl) rfl ?_
                refine Ops.nil ?_
                refine Ends.seq ?_
                refine Wp.seq ?_
                refine Wp.seq ?_
                refine Wp.region ?_
                first | refine Ops.pv (pv_fieldAddr0 rfl rfl) rfl ?_ | refine Ops.pv (pv_fieldAddr rfl rfl) rfl ?_
                first | refine Ops.pv (pv_load rfl rfl rfl) rfl ?_ | refine Ops.pv (pv_load rfl rfl (by assumption)) rfl ?_
                refine Ops.pv (pv_neq rfl rfl) rfl ?_
                refine Ops.nil ?_
                refine Ends.seq ?_
                first | refine Wp.cond_dect rfl (fun h64 => ?_) (fun h64 => ?_) | refine Wp.cond_t rfl (fun h64 => ?_) (fun h64 => ?_)
                · refine Wp.region ?_
                  refine Ops.pv (pv_move rfl) rfl ?_
                  refine Ops.pv (pv_move rfl) rfl ?_
                  refine Ops.skipg ⟨_, _, rfl, rfl, rfl⟩ rfl ?_
                  refine Ops.skipg ⟨_, _, rfl, rfl, rfl⟩ rfl ?_
                  refine Ops.skipg ⟨_, _, rfl, rfl, rfl⟩ rfl ?_
                  refine Ops.pv (pv_pick_false rfl rfl) rfl ?_
                  refine Ops.pv (pv_assign rfl) rfl ?_
                  refine Ops.nil ?_
                  refine Ends.seq ?_
                  refine Wp.seq ?_
                  refine Wp.seq ?_
                  refine Wp.region ?_
                  refine Ops.pv (pv_move rfl) rfl ?_
                  first | refine Ops.pv (pv_not_dec rfl) rfl ?_ | refine Ops.pv (pv_not rfl) rfl ?_
                  refine Ops.nil ?_
                  refine Ends.seq ?_
                  refine Wp.cond_true rfl ?_
                  refine Wp.seq ?_
                  refine Wp.region ?_
                  refine Ops.pv (pv_assign rfl) rfl ?_
                  refine Ops.nil ?_
                  refine Ends.seq ?_
                  refine Wp.ret ?_
                  refine Ends.then_ret ?_
                  exact Ends.ret (res1 rfl rfl) ⟨by first | (rw [check_bad (by omega)]; done) | (rw [check_ok hr (by omega) (by unfold dOk; omega)]; done) | (rw [check_no hr (by omega) (by unfold dOk; omega)]; done), rfl⟩
                · refine Wp.skip ?_
                  refine Ends.seq ?_
                  refine Wp.seq ?_
                  refine Wp.seq ?_
                  refine Wp.region ?_
                  refine Ops.pv (pv_move rfl) rfl ?_
                  first | refine Ops.pv (pv_not_dec rfl) rfl ?_ | refine Ops.pv (pv_not rfl) rfl ?_
                  refine Ops.nil ?_
                  refine Ends.seq ?_
                  refine Wp.cond_true rfl ?_
                  refine Wp.seq ?_
                  refine Wp.region ?_
                  refine Ops.pv (pv_assign rfl) rfl ?_
                  refine Ops.nil ?_
                  refine Ends.seq ?_
                  refine Wp.ret ?_
                  refine Ends.then_ret ?_
                  exact Ends.ret (res1 rfl rfl) ⟨by first | (rw [check_bad (by omega)]; done) | (rw [check_ok hr (by omega) (by unfold dOk; omega)]; done) | (rw [check_no hr (by omega) (by unfold dOk; omega)]; done), rfl⟩
              · refine Wp.skip ?_
                refine Ends.seq ?_
                refine Wp.seq ?_
                refine Wp.seq ?_
                refine Wp.region ?_
                first | refine Ops.pv (pv_fieldAddr0 rfl rfl) rfl ?_ | refine Ops.pv (pv_fieldAddr rfl rfl) rfl ?_
                first | refine Ops.pv (pv_load rfl rfl rfl) rfl ?_ | refine Ops.pv (pv_load rfl rfl (by assumption)) rfl ?_
                refine Ops.pv (pv_neq rfl rfl) rfl ?_
                refine Ops.nil ?_
                refine Ends.seq ?_
                first | refine Wp.cond_dect rfl (fun h65 => ?_) (fun h65 => ?_) | refine Wp.cond_t rfl (fun h65 => ?_) (fun h65 => ?_)
                · refine Wp.region ?_
                  refine Ops.pv (pv_move rfl) rfl ?_
                  refine Ops.pv (pv_move rfl) rfl ?_
                  refine Ops.skipg ⟨_, _, rfl, rfl, rfl⟩ rfl ?_
                  refine Ops.skipg ⟨_, _, rfl, rfl, rfl⟩ rfl ?_
                  refine Ops.skipg ⟨_, _, rfl, rfl, rfl⟩ rfl ?_
                  refine Ops.pv (pv_pick_false rfl rfl) rfl ?_
                  refine Ops.pv (pv_assign rfl) rfl ?_
                  refine Ops.nil ?_
                  refine Ends.seq ?_
                  refine Wp.seq ?_
                  refine Wp.seq ?_
                  refine Wp.region ?_
                  refine Ops.pv (pv_move rfl) rfl ?_
                  first | refine Ops.pv (pv_not_dec rfl) rfl ?_ | refine Ops.pv (pv_not rfl) rfl ?_
                  refine Ops.nil ?_
                  refine Ends.seq ?_
                  refine Wp.cond_true rfl ?_
                  refine Wp.seq ?_
                  refine Wp.region ?_
                  refine Ops.pv (pv_assign rfl) rfl ?_
                  refine Ops.nil ?_
                  refine Ends.seq ?_
                  refine Wp.ret ?_
                  refine Ends.then_ret ?_
                  exact Ends.ret (res1 rfl rfl) ⟨by first | (rw [check_bad (by omega)]; done) | (rw [check_ok hr (by omega) (by unfold dOk; omega)]; done) | (rw [check_no hr (by omega) (by unfold dOk; omega)]; done), rfl⟩
                · refine Wp.skip ?_
                  refine Ends.seq ?_
                  refine Wp.seq ?_
                  refine Wp.seq ?_
                  refine Wp.region ?_
                  refine Ops.pv (pv_move rfl) rfl ?_
                  first | refine Ops.pv (pv_not_dec rfl) rfl ?_ | refine Ops.pv (pv_not rfl) rfl ?_
                  refine Ops.nil ?_
                  refine Ends.seq ?_
                  refine Wp.cond_true rfl ?_
                  refine Wp.seq ?_
                  refine Wp.region ?_
                  refine Ops.pv (pv_assign rfl) rfl ?_
                  refine Ops.nil ?_
                  refine Ends.seq ?_
                  refine Wp.ret ?_
                  refine Ends.then_ret ?_
                  exact Ends.ret (res1 rfl rfl) ⟨by first | (rw [check_bad (by omega)]; done) | (rw [check_ok hr (by omega) (by unfold dOk; omega)]; done) | (rw [check_no hr (by omega) (by unfold dOk; omega)]; done), rfl⟩
      · refine Ops.skipg ⟨_, _, rfl, rfl, rfl⟩ rfl ?_
        refine Ops.skipg ⟨_, _, rfl, rfl, rfl⟩ rfl ?_
        refine Ops.skipg ⟨_, _, rfl, rfl, rfl⟩ rfl ?_
        refine Ops.pv (pv_pick_false rfl rfl) rfl ?_
        refine Ops.pv (pv_move rfl) rfl ?_
        refine Ops.skipg ⟨_, _, rfl, rfl, rfl⟩ rfl ?_
        refine Ops.skipg ⟨_, _, rfl, rfl, rfl⟩ rfl ?_
        refine Ops.skipg ⟨_, _, rfl, rfl, rfl⟩ rfl ?_
        refine Ops.skipg ⟨_, _, rfl, rfl, rfl⟩ rfl ?_
        refine Ops.skipg ⟨_, _, rfl, rfl, rfl⟩ rfl ?_
        refine Ops.pv (pv_pick_false rfl rfl) rfl ?_
        refine Ops.pv (pv_assign rfl) rfl ?_
        refine Ops.nil ?_
        refine Ends.seq ?_
        refine Wp.seq ?_
        refine Wp.seq ?_
        refine Wp.region ?_
        first | refine Ops.pv (pv_fieldAddr0 rfl rfl) rfl ?_ | refine Ops.pv (pv_fieldAddr rfl rfl) rfl ?_
        first | refine Ops.pv (pv_load rfl rfl rfl) rfl ?_ | refine Ops.pv (pv_load rfl rfl (by assumption)) rfl ?_
        refine Ops.pv (pv_eql rfl rfl) rfl ?_
        refine Ops.pv (pv_move rfl) rfl ?_
        first | refine Ops.pvcn rfl rfl (fun hg => pv_fieldAddr0 rfl rfl) rfl ?_ | refine Ops.pvcn rfl rfl (fun hg => pv_fieldAddr rfl rfl) rfl ?_
        first | refine Ops.pvcn rfl rfl (fun hg => Pv.setE (t := 41) rfl (cv_pos hg) (pv_load rfl rfl rfl)) rfl ?_ | refine Ops.pvcn rfl rfl (fun hg => Pv.setE (t := 41) rfl (cv_pos hg) (pv_load rfl rfl (by assumption))) rfl ?_
        refine Ops.pvcn rfl rfl (fun hg => Pv.setE (t := 41) rfl (cv_pos hg) (Pv.setE (t := 42) rfl (cv_pos hg) (pv_eql rfl rfl))) rfl ?_
        refine Ops.pv (pv_pick_or rfl rfl) rfl ?_
        refine Ops.nil ?_
        refine Ends.seq ?_
        first | refine Wp.cond_dect rfl (fun h66 => ?_) (fun h66 => ?_) | refine Wp.cond_t rfl (fun h66 => ?_) (fun h66 => ?_)
        · refine Wp.region ?_
          refine Ops.pv (pv_move rfl) rfl ?_
          refine Ops.pv (pv_move rfl) rfl ?_
          refine Ops.skipg ⟨_, _, rfl, rfl, rfl⟩ rfl ?_
          refine Ops.skipg ⟨_, _, rfl, rfl, rfl⟩ rfl ?_
          refine Ops.skipg ⟨_, _, rfl, rfl, rfl⟩ rfl ?_
          refine Ops.pv (pv_pick_false rfl rfl) rfl ?_
          refine Ops.pv (pv_assign rfl) rfl ?_
          refine Ops.nil ?_
          refine Ends.seq ?_
          refine Wp.seq ?_
          refine Wp.seq ?_
          refine Wp.region ?_
          first | refine Ops.pv (pv_fieldAddr0 rfl rfl) rfl ?_ | refine Ops.pv (pv_fieldAddr rfl rfl) rfl ?_
          first | refine Ops.pv (pv_load rfl rfl rfl) rfl ?_ | refine Ops.pv (pv_load rfl rfl (by assumption)) rfl ?_
          refine Ops.ef rfl (ef_callr (tr_righted c.kind) rfl rfl) ?_
          rintro _ _ ⟨rfl, rfl⟩
          first | refine Ops.pv (pv_not_dec rfl) rfl ?_ | refine Ops.pv (pv_not rfl) rfl ?_
          refine Ops.nil ?_
          refine Ends.seq ?_
          first | refine Wp.cond_dect rfl (fun h67 => ?_) (fun h67 => ?_) | refine Wp.cond_t rfl (fun h67 => ?_) (fun h67 => ?_)
          · refine Wp.region ?_
            refine Ops.pv (pv_move rfl) rfl ?_
            refine Ops.pv (pv_move rfl) rfl ?_
            refine Ops.skipg ⟨_, _, rfl, rfl, rfl⟩ rfl ?_
            refine Ops.skipg ⟨_, _, rfl, rfl, rfl⟩ rfl ?_
            refine Ops.skipg ⟨_, _, rfl, rfl, rfl⟩ rfl ?_
            refine Ops.pv (pv_pick_false rfl rfl) rfl ?_
            refine Ops.pv (pv_assign rfl) rfl ?_
            refine Ops.nil ?_
            refine Ends.seq ?_
            refine Wp.seq ?_
            refine Wp.seq ?_
            refine Wp.region ?_
            first | refine Ops.pv (pv_fieldAddr0 rfl rfl) rfl ?_ | refine Ops.pv (pv_fieldAddr rfl rfl) rfl ?_
            first | refine Ops.pv (pv_load rfl rfl rfl) rfl ?_ | refine Ops.pv (pv_load rfl rfl (by assumption)) rfl ?_
            refine Ops.ef rfl (ef_callr (tr_badged c.kind) rfl rfl) ?_
            rintro _ _ ⟨rfl, rfl⟩
            first | refine Ops.pv (pv_not_dec rfl) rfl ?_ | refine Ops.pv (pv_not rfl) rfl ?_
            refine Ops.nil ?_
            refine Ends.seq ?_
            first | refine Wp.cond_dect rfl (fun h68 => ?_) (fun h68 => ?_) | refine Wp.cond_t rfl (fun h68 => ?_) (fun h68 => ?_)
            · refine Wp.region ?_
              refine Ops.pv (pv_move rfl) rfl ?_
              refine Ops.pv (pv_move rfl) rfl ?_
              refine Ops.skipg ⟨_, _, rfl, rfl, rfl⟩ rfl ?_
              refine Ops.skipg ⟨_, _, rfl, rfl, rfl⟩ rfl ?_
              refine Ops.skipg ⟨_, _, rfl, rfl, rfl⟩ rfl ?_
              refine Ops.pv (pv_pick_false rfl rfl) rfl ?_
              refine Ops.pv (pv_assign rfl) rfl ?_
              refine Ops.nil ?_
              refine Ends.seq ?_
              refine Wp.seq ?_
              refine Wp.seq ?_
              refine Wp.region ?_
              first | refine Ops.pv (pv_fieldAddr0 rfl rfl) rfl ?_ | refine Ops.pv (pv_fieldAddr rfl rfl) rfl ?_
              first | refine Ops.pv (pv_load rfl rfl rfl) rfl ?_ | refine Ops.pv (pv_load rfl rfl (by assumption)) rfl ?_
              refine Ops.pv (pv_neq rfl rfl) rfl ?_
              refine Ops.nil ?_
              refine Ends.seq ?_
              first | refine Wp.cond_dect rfl (fun h69 => ?_) (fun h69 => ?_) | refine Wp.cond_t rfl (fun h69 => ?_) (fun h69 => ?_)
              · refine Wp.region ?_
                refine Ops.pv (pv_move rfl) rfl ?_
                refine Ops.pv (pv_move rfl) rfl ?_
                refine Ops.skipg ⟨_, _, rfl, rfl, rfl⟩ rfl ?_
                refine Ops.skipg ⟨_, _, rfl, rfl, rfl⟩ rfl ?_
                refine Ops.skipg ⟨_, _, rfl, rfl, rfl⟩ rfl ?_
                refine Ops.pv (pv_pick_false rfl rfl) rfl ?_
                refine Ops.pv (pv_assign rfl) rfl ?_
                refine Ops.nil ?_
                refine Ends.seq ?_
                refine Wp.seq ?_
                refine Wp.seq ?_
                refine Wp.region ?_
                refine Ops.pv (pv_move rfl) rfl ?_
                first | refine Ops.pv (pv_not_dec rfl) rfl ?_ | refine Ops.pv (pv_not rfl) rfl ?_
                refine Ops.nil ?_
                refine Ends.seq ?_
                refine Wp.cond_true rfl ?_
                refine Wp.seq ?_
                refine Wp.region ?_
                refine Ops.pv (pv_assign rfl) rfl ?_
                refine Ops.nil ?_
                refine Ends.seq ?_
                refine Wp.ret ?_
                refine Ends.then_ret ?_
                exact Ends.ret (res1 rfl rfl) ⟨by first | (rw [check_bad (by omega)]; done) | (rw [check_ok hr (by omega) (by unfold dOk; omega)]; done) | (rw [check_no hr (by omega) (by unfold dOk; omega)]; done), rfl⟩
              · refine Wp.skip ?_
                refine Ends.seq ?_
                refine Wp.seq ?_
                refine Wp.seq ?_
                refine Wp.region ?_
                refine Ops.pv (pv_move rfl) rfl ?_
                first | refine Ops.pv (pv_not_dec rfl) rfl ?_ | refine Ops.pv (pv_not rfl) rfl ?_
                refine Ops.nil ?_
                refine Ends.seq ?_
                refine Wp.cond_true rfl ?_
                refine Wp.seq ?_
                refine Wp.region ?_
                refine Ops.pv (pv_assign rfl) rfl ?_
                refine Ops.nil ?_
                refine Ends.seq ?_
                refine Wp.ret ?_
                refine Ends.then_ret ?_
                exact Ends.ret (res1 rfl rfl) ⟨by first | (rw [check_bad (by omega)]; done) | (rw [check_ok hr (by omega) (by unfold dOk; omega)]; done) | (rw [check_no hr (by omega) (by unfold dOk; omega)]; done), rfl⟩
            · refine Wp.skip ?_
              refine Ends.seq ?_
              refine Wp.seq ?_
              refine Wp.seq ?_
              refine Wp.region ?_
              first | refine Ops.pv (pv_fieldAddr0 rfl rfl) rfl ?_ | refine Ops.pv (pv_fieldAddr rfl rfl) rfl ?_
              first | refine Ops.pv (pv_load rfl rfl rfl) rfl ?_ | refine Ops.pv (pv_load rfl rfl (by assumption)) rfl ?_
              refine Ops.pv (pv_neq rfl rfl) rfl ?_
              refine Ops.nil ?_
              refine Ends.seq ?_
              first | refine Wp.cond_dect rfl (fun h70 => ?_) (fun h70 => ?_) | refine Wp.cond_t rfl (fun h70 => ?_) (fun h70 => ?_)
              · refine Wp.region ?_
                refine Ops.pv (pv_move rfl) rfl ?_
                refine Ops.pv (pv_move rfl) rfl ?_
                refine Ops.skipg ⟨_, _, rfl, rfl, rfl⟩ rfl ?_
                refine Ops.skipg ⟨_, _, rfl, rfl, rfl⟩ rfl ?_
                refine Ops.skipg ⟨_, _, rfl, rfl, rfl⟩ rfl ?_
                refine Ops.pv (pv_pick_false rfl rfl) rfl ?_
                refine Ops.pv (pv_assign rfl) rfl ?_
                refine Ops.nil ?_
                refine Ends.seq ?_
                refine Wp.seq ?_
                refine Wp.seq ?_
                refine Wp.region ?_
                refine Ops.pv (pv_move rfl) rfl ?_
                first | refine Ops.pv (pv_not_dec rfl) rfl ?_ | refine Ops.pv (pv_not rfl) rfl ?_
                refine Ops.nil ?_
                refine Ends.seq ?_
                refine Wp.cond_true rfl ?_
                refine Wp.seq ?_
                refine Wp.region ?_
                refine Ops.pv (pv_assign rfl) rfl ?_
                refine Ops.nil ?_
                refine Ends.seq ?_
                refine Wp.ret ?_
                refine Ends.then_ret ?_
                exact Ends.ret (res1 rfl rfl) ⟨by first | (rw [check_bad (by omega)]; done) | (rw [check_ok hr (by omega) (by unfold dOk; omega)]; done) | (rw [check_no hr (by omega) (by unfold dOk; omega)]; done), rfl⟩
              · refine Wp.skip ?_
                refine Ends.seq ?_
                refine Wp.seq ?_
                refine Wp.seq ?_
                refine Wp.region ?_
                refine Ops.pv (pv_move rfl) rfl ?_
                first | refine Ops.pv (pv_not_dec rfl) rfl ?_ | refine Ops.pv (pv_not rfl) rfl ?_
                refine Ops.nil ?_
                refine Ends.seq ?_
                refine Wp.cond_true rfl ?_
                refine Wp.seq ?_
                refine Wp.region ?_
                refine Ops.pv (pv_assign rfl) rfl ?_
                refine Ops.nil ?_
                refine Ends.seq ?_
                refine Wp.ret ?_
                refine Ends.then_ret ?_
                exact Ends.ret (res1 rfl rfl) ⟨by first | (rw [check_bad (by omega)]; done) | (rw [check_ok hr (by omega) (by unfold dOk; omega)]; done) | (rw [check_no hr (by omega) (by unfold dOk; omega)]; done), rfl⟩
          · refine Wp.skip ?_
            refine Ends.seq ?_
            refine Wp.seq ?_
            refine Wp.seq ?_
            refine Wp.region ?_
            first | refine Ops.pv (pv_fieldAddr0 rfl rfl) rfl ?_ | refine Ops.pv (pv_fieldAddr rfl rfl) rfl ?_
            first | refine Ops.pv (pv_load rfl rfl rfl) rfl ?_ | refine Ops.pv (pv_load rfl rfl (by assumption)) rfl ?_
            refine Ops.ef rfl (ef_callr (tr_badged c.kind) rfl rfl) ?_
            rintro _ _ ⟨rfl, rfl⟩
            first | refine Ops.pv (pv_not_dec rfl) rfl ?_ | refine Ops.pv (pv_not rfl) rfl ?_
            refine Ops.nil ?_
            refine Ends.seq ?_
            first | refine Wp.cond_dect rfl (fun h71 => ?_) (fun h71 => ?_) | refine Wp.cond_t rfl (fun h71 => ?_) (fun h71 => ?_)
            · refine Wp.region ?_
              refine Ops.pv (pv_move rfl) rfl ?_
              refine Ops.pv (pv_move rfl) rfl ?_
              refine Ops.skipg ⟨_, _, rfl, rfl, rfl⟩ rfl ?_
              refine Ops.skipg ⟨_, _, rfl, rfl, rfl⟩ rfl ?_
              refine Ops.skipg ⟨_, _, rfl, rfl, rfl⟩ rfl ?_
              refine Ops.pv (pv_pick_false rfl rfl) rfl ?_
              refine Ops.pv (pv_assign rfl) rfl ?_
              refine Ops.nil ?_
              refine Ends.seq ?_
              refine Wp.seq ?_
              refine Wp.seq ?_
              refine Wp.region ?_
              first | refine Ops.pv (pv_fieldAddr0 rfl rfl) rfl ?_ | refine Ops.pv (pv_fieldAddr rfl rfl) rfl ?_
              first | refine Ops.pv (pv_load rfl rfl rfl) rfl ?_ | refine Ops.pv (pv_load rfl rfl (by assumption)) rfl ?_
              refine Ops.pv (pv_neq rfl rfl) rfl ?_
              refine Ops.nil ?_
              refine Ends.seq ?_
              first | refine Wp.cond_dect rfl (fun h72 => ?_) (fun h72 => ?_) | refine Wp.cond_t rfl (fun h72 => ?_) (fun h72 => ?_)
              · refine Wp.region ?_
                refine Ops.pv (pv_move rfl) rfl ?_
                refine Ops.pv (pv_move rfl) rfl ?_
                refine Ops.skipg ⟨_, _, rfl, rfl, rfl⟩ rfl ?_
                refine Ops.skipg ⟨_, _, rfl, rfl, rfl⟩ rfl ?_
                refine Ops.skipg ⟨_, _, rfl, rfl, rfl⟩ rfl ?_
                refine Ops.pv (pv_pick_false rfl rfl) rfl ?_
                refine Ops.pv (pv_assign rfl) rfl ?_
                refine Ops.nil ?_
                refine Ends.seq ?_
                refine Wp.seq ?_
                refine Wp.seq ?_
                refine Wp.region ?_
                refine Ops.pv (pv_move rfl) rfl ?_
                first | refine Ops.pv (pv_not_dec rfl) rfl ?_ | refine Ops.pv (pv_not rfl) rfl ?_
                refine Ops.nil ?_
                refine Ends.seq ?_
                refine Wp.cond_true rfl ?_
                refine Wp.seq ?_
                refine Wp.region ?_
                refine Ops.pv (pv_assign rfl) rfl ?_
                refine Ops.nil ?_
                refine Ends.seq ?_
                refine Wp.ret ?_
                refine Ends.then_ret ?_
                exact Ends.ret (res1 rfl rfl) ⟨by first | (rw [check_bad (by omega)]; done) | (rw [check_ok hr (by omega) (by unfold dOk; omega)]; done) | (rw [check_no hr (by omega) (by unfold dOk; omega)]; done), rfl⟩
              · refine Wp.skip ?_
                refine Ends.seq ?_
                refine Wp.seq ?_
                refine Wp.seq ?_
                refine Wp.region ?_
                refine Ops.pv (pv_move rfl) rfl ?_
                first | refine Ops.pv (pv_not_dec rfl) rfl ?_ | refine Ops.pv (pv_not rfl) rfl ?_
                refine Ops.nil ?_
                refine Ends.seq ?_
                refine Wp.cond_true rfl ?_
                refine Wp.seq ?_
                refine Wp.region ?_
                refine Ops.pv (pv_assign rfl) rfl ?_
                refine Ops.nil ?_
                refine Ends.seq ?_
                refine Wp.ret ?_
                refine Ends.then_ret ?_
                exact Ends.ret (res1 rfl rfl) ⟨by first | (rw [check_bad (by omega)]; done) | (rw [check_ok hr (by omega) (by unfold dOk; omega)]; done) | (rw [check_no hr (by omega) (by unfold dOk; omega)]; done), rfl⟩
            · refine Wp.skip ?_
              refine Ends.seq ?_
              refine Wp.seq ?_
              refine Wp.seq ?_
              refine Wp.region ?_
              first | refine Ops.pv (pv_fieldAddr0 rfl rfl) rfl ?_ | refine Ops.pv (pv_fieldAddr rfl rfl) rfl ?_
              first | refine Ops.pv (pv_load rfl rfl rfl) rfl ?_ | refine Ops.pv (pv_load rfl rfl (by assumption)) rfl ?_
              refine Ops.pv (pv_neq rfl rfl) rfl ?_
              refine Ops.nil ?_
              refine Ends.seq ?_
              first | refine Wp.cond_dect rfl (fun h73 => ?_) (fun h73 => ?_) | refine Wp.cond_t rfl (fun h73 => ?_) (fun h73 => ?_)
              · refine Wp.region ?_
                refine Ops.pv (pv_move rfl) rfl ?_
                refine Ops.pv (pv_move rfl) rfl ?_
                refine Ops.skipg ⟨_, _, rfl, rfl, rfl⟩ rfl ?_
                refine Ops.skipg ⟨_, _, rfl, rfl, rfl⟩ rfl ?_
                refine Ops.skipg ⟨_, _, rfl, rfl, rfl⟩ rfl ?_
                refine Ops.pv (pv_pick_false rfl rfl) rfl ?_
                refine Ops.pv (pv_assign rfl) rfl ?_
                refine Ops.nil ?_
                refine Ends.seq ?_
                refine Wp.seq ?_
                refine Wp.seq ?_
                refine Wp.region ?_
                refine Ops.pv (pv_move rfl) rfl ?_
                first | refine Ops.pv (pv_not_dec rfl) rfl ?_ | refine Ops.pv (pv_not rfl) rfl ?_
                refine Ops.nil ?_
                refine Ends.seq ?_
                refine Wp.cond_true rfl ?_
                refine Wp.seq ?_
                refine Wp.region ?_
                refine Ops.pv (pv_assign rfl) rfl ?_
                refine Ops.nil ?_
                refine Ends.seq ?_
                refine Wp.ret ?_
                refine Ends.then_ret ?_
                exact Ends.ret (res1 rfl rfl) ⟨by first | (rw [check_bad (by omega)]; done) | (rw [check_ok hr (by omega) (by unfold dOk; omega)]; done) | (rw [check_no hr (by omega) (by unfold dOk; omega)]; done), rfl⟩
              · refine Wp.skip ?_
                refine Ends.seq ?_
                refine Wp.seq ?_
                refine Wp.seq ?_
                refine Wp.region ?_
                refine Ops.pv (pv_move rfl) rfl ?_
                first | refine Ops.pv (pv_not_dec rfl) rfl ?_ | refine Ops.pv (pv_not rfl) rfl ?_
                refine Ops.nil ?_
                refine Ends.seq ?_
                refine Wp.cond_true rfl ?_
                refine Wp.seq ?_
                refine Wp.region ?_
                refine Ops.pv (pv_assign rfl) rfl ?_
                refine Ops.nil ?_
                refine Ends.seq ?_
                refine Wp.ret ?_
                refine Ends.then_ret ?_
                exact Ends.ret (res1 rfl rfl) ⟨by first | (rw [check_bad (by omega)]; done) | (rw [check_ok hr (by omega) (by unfold dOk; omega)]; done) | (rw [check_no hr (by omega) (by unfold dOk; omega)]; done), rfl⟩
        · refine Wp.skip ?_
          refine Ends.seq ?_
          refine Wp.seq ?_
          refine Wp.seq ?_
          refine Wp.region ?_
          first | refine Ops.pv (pv_fieldAddr0 rfl rfl) rfl ?_ | refine Ops.pv (pv_fieldAddr rfl rfl) rfl ?_
          first | refine Ops.pv (pv_load rfl rfl rfl) rfl ?_ | refine Ops.pv (pv_load rfl rfl (by assumption)) rfl ?_
          refine Ops.ef rfl (ef_callr (tr_righted c.kind) rfl rfl) ?_
          rintro _ _ ⟨rfl, rfl⟩
          first | refine Ops.pv (pv_not_dec rfl) rfl ?_ | refine Ops.pv (pv_not rfl) rfl ?_
          refine Ops.nil ?_
          refine Ends.seq ?_
          first | refine Wp.cond_dect rfl (fun h74 => ?_) (fun h74 => ?_) | refine Wp.cond_t rfl (fun h74 => ?_) (fun h74 => ?_)
          · refine Wp.region ?_
            refine Ops.pv (pv_move rfl) rfl ?_
            refine Ops.pv (pv_move rfl) rfl ?_
            refine Ops.skipg ⟨_, _, rfl, rfl, rfl⟩ rfl ?_
            refine Ops.skipg ⟨_, _, rfl, rfl, rfl⟩ rfl ?_
            refine Ops.skipg ⟨_, _, rfl, rfl, rfl⟩ rfl ?_
            refine Ops.pv (pv_pick_false rfl rfl) rfl ?_
            refine Ops.pv (pv_assign rfl) rfl ?_
            refine Ops.nil ?_
            refine Ends.seq ?_
            refine Wp.seq ?_
            refine Wp.seq ?_
            refine Wp.region ?_
            first | refine Ops.pv (pv_fieldAddr0 rfl rfl) rfl ?_ | refine Ops.pv (pv_fieldAddr rfl rfl) rfl ?_
            first | refine Ops.pv (pv_load rfl rfl rfl) rfl ?_ | refine Ops.pv (pv_load rfl rfl (by assumption)) rfl ?_
            refine Ops.ef rfl (ef_callr (tr_badged c.kind) rfl rfl) ?_
            rintro _ _ ⟨rfl, rfl⟩
            first | refine Ops.pv (pv_not_dec rfl) rfl ?_ | refine Ops.pv (pv_not rfl) rfl ?_
            refine Ops.nil ?_
            refine Ends.seq ?_
            first | refine Wp.cond_dect rfl (fun h75 => ?_) (fun h75 => ?_) | refine Wp.cond_t rfl (fun h75 => ?_) (fun h75 => ?_)
            · refine Wp.region ?_
              refine Ops.pv (pv_move rfl) rfl ?_
              refine Ops.pv (pv_move rfl) rfl ?_
              refine Ops.skipg ⟨_, _, rfl, rfl, rfl⟩ rfl ?_
              refine Ops.skipg ⟨_, _, rfl, rfl, rfl⟩ rfl ?_
              refine Ops.skipg ⟨_, _, rfl, rfl, rfl⟩ rfl ?_
              refine Ops.pv (pv_pick_false rfl rfl) rfl ?_
              refine Ops.pv (pv_assign rfl) rfl ?_
              refine Ops.nil ?_
              refine Ends.seq ?_
              refine Wp.seq ?_
              refine Wp.seq ?_
              refine Wp.region ?_
              first | refine Ops.pv (pv_fieldAddr0 rfl rfl) rfl ?_ | refine Ops.pv (pv_fieldAddr rfl rfl) rfl ?_
              first | refine Ops.pv (pv_load rfl rfl rfl) rfl ?_ | refine Ops.pv (pv_load rfl rfl (by assumption)) rfl ?_
              refine Ops.pv (pv_neq rfl rfl) rfl ?_
              refine Ops.nil ?_
              refine Ends.seq ?_
              first | refine Wp.cond_dect rfl (fun h76 => ?_) (fun h76 => ?_) | refine Wp.cond_t rfl (fun h76 => ?_) (fun h76 => ?_)
              · refine Wp.region ?_
                refine Ops.pv (pv_move rfl) rfl ?_
                refine Ops.pv (pv_move rfl) rfl ?_
                refine Ops.skipg ⟨_, _, rfl, rfl, rfl⟩ rfl ?_
                refine Ops.skipg ⟨_, _, rfl, rfl, rfl⟩ rfl ?_
                refine Ops.skipg ⟨_, _, rfl, rfl, rfl⟩ rfl ?_
                refine Ops.pv (pv_pick_false rfl rfl) rfl ?_
                refine Ops.pv (pv_assign rfl) rfl ?_
                refine Ops.nil ?_
                refine Ends.seq ?_
                refine Wp.seq ?_
                refine Wp.seq ?_
                refine Wp.region ?_
                refine Ops.pv (pv_move rfl) rfl ?_
                first | refine Ops.pv (pv_not_dec rfl) rfl ?_ | refine Ops.pv (pv_not rfl) rfl ?_
                refine Ops.nil ?_
                refine Ends.seq ?_
                refine Wp.cond_true rfl ?_
                refine Wp.seq ?_
                refine Wp.region ?_
                refine Ops.pv (pv_assign rfl) rfl ?_
                refine Ops.nil ?_
                refine Ends.seq ?_
                refine Wp.ret ?_
                refine Ends.then_ret ?_
                exact Ends.ret (res1 rfl rfl) ⟨by first | (rw [check_bad (by omega)]; done) | (rw [check_ok hr (by omega) (by unfold dOk; omega)]; done) | (rw [check_no hr (by omega) (by unfold dOk; omega)]; done), rfl⟩
              · refine Wp.skip ?_
                refine Ends.seq ?_
                refine Wp.seq ?_
                refine Wp.seq ?_
                refine Wp.region ?_
                refine Ops.pv (pv_move rfl) rfl ?_
                first | refine Ops.pv (pv_not_dec rfl) rfl ?_ | refine Ops.pv (pv_not rfl) rfl ?_
                refine Ops.nil ?_
                refine Ends.seq ?_
                refine Wp.cond_true rfl ?_
                refine Wp.seq ?_
                refine Wp.region ?_
                refine Ops.pv (pv_assign rfl) rfl ?_
                refine Ops.nil ?_
                refine Ends.seq ?_
                refine Wp.ret ?_
                refine Ends.then_ret ?_
                exact Ends.ret (res1 rfl rfl) ⟨by first | (rw [check_bad (by omega)]; done) | (rw [check_ok hr (by omega) (by unfold dOk; omega)]; done) | (rw [check_no hr (by omega) (by unfold dOk; omega)]; done), rfl⟩
            · refine Wp.skip ?_
              refine Ends.seq ?_
              refine Wp.seq ?_
              refine Wp.seq ?_
              refine Wp.region ?_
              first | refine Ops.pv (pv_fieldAddr0 rfl rfl) rfl ?_ | refine Ops.pv (pv_fieldAddr rfl rfl) rfl ?_
              first | refine Ops.pv (pv_load rfl rfl rfl) rfl ?_ | refine Ops.pv (pv_load rfl rfl (by assumption)) rfl ?_
              refine Ops.pv (pv_neq rfl rfl) rfl ?_
              refine Ops.nil ?_
              refine Ends.seq ?_
              first | refine Wp.cond_dect rfl (fun h77 => ?_) (fun h77 => ?_) | refine Wp.cond_t rfl (fun h77 => ?_) (fun h77 => ?_)
              · refine Wp.region ?_
                refine Ops.pv (pv_move rfl) rfl ?_
                refine Ops.pv (pv_move rfl) rfl ?_
                refine Ops.skipg ⟨_, _, rfl, rfl, rfl⟩ rfl ?_
                refine Ops.skipg ⟨_, _, rfl, rfl, rfl⟩ rfl ?_
                refine Ops.skipg ⟨_, _, rfl, rfl, rfl⟩ rfl ?_
                refine Ops.pv (pv_pick_false rfl rfl) rfl ?_
                refine Ops.pv (pv_assign rfl) rfl ?_
                refine Ops.nil ?_
                refine Ends.seq ?_
                refine Wp.seq ?_
                refine Wp.seq ?_
                refine Wp.region ?_
                refine Ops.pv (pv_move rfl) rfl ?_
                first | refine Ops.pv (pv_not_dec rfl) rfl ?_ | refine Ops.pv (pv_not rfl) rfl ?_
                refine Ops.nil ?_
                refine Ends.seq ?_
                refine Wp.cond_true rfl ?_
                refine Wp.seq ?_
                refine Wp.region ?_
                refine Ops.pv (pv_assign rfl) rfl ?_
                refine Ops.nil ?_
                refine Ends.seq ?_
                refine Wp.ret ?_
                refine Ends.then_ret ?_
                exact Ends.ret (res1 rfl rfl) ⟨by first | (rw [check_bad (by omega)]; done) | (rw [check_ok hr (by omega) (by unfold dOk; omega)]; done) | (rw [check_no hr (by omega) (by unfold dOk; omega)]; done), rfl⟩
              · refine Wp.skip ?_
                refine Ends.seq ?_
                refine Wp.seq ?_
                refine Wp.seq ?_
                refine Wp.region ?_
                refine Ops.pv (pv_move rfl) rfl ?_
                first | refine Ops.pv (pv_not_dec rfl) rfl ?_ | refine Ops.pv (pv_not rfl) rfl ?_
                refine Ops.nil ?_
                refine Ends.seq ?_
                refine Wp.cond_true rfl ?_
                refine Wp.seq ?_
                refine Wp.region ?_
                refine Ops.pv (pv_assign rfl) rfl ?_
                refine Ops.nil ?_
                refine Ends.seq ?_
                refine Wp.ret ?_
                refine Ends.then_ret ?_
                exact Ends.ret (res1 rfl rfl) ⟨by first | (rw [check_bad (by omega)]; done) | (rw [check_ok hr (by omega) (by unfold dOk; omega)]; done) | (rw [check_no hr (by omega) (by unfold dOk; omega)]; done), rfl⟩
          · refine Wp.skip ?_
            refine Ends.seq ?_
            refine Wp.seq ?_
            refine Wp.seq ?_
            refine Wp.region ?_
            first | refine Ops.pv (pv_fieldAddr0 rfl rfl) rfl ?_ | refine Ops.pv (pv_fieldAddr rfl rfl) rfl ?_
            first | refine Ops.pv (pv_load rfl rfl rfl) rfl ?_ | refine Ops.pv (pv_load rfl rfl (by assumption)) rfl ?_
            refine Ops.ef rfl (ef_callr (tr_badged c.kind) rfl rfl) ?_
            rintro _ _ ⟨rfl, rfl⟩
            first | refine Ops.pv (pv_not_dec rfl) rfl ?_ | refine Ops.pv (pv_not rfl) rfl ?_
            refine Ops.nil ?_
            refine Ends.seq ?_
            first | refine Wp.cond_dect rfl (fun h78 => ?_) (fun h78 => ?_) | refine Wp.cond_t rfl (fun h78 => ?_) (fun h78 => ?_)
            · refine Wp.region ?_
              refine Ops.pv (pv_move rfl) rfl ?_
              refine Ops.pv (pv_move rfl) rfl ?_
              refine Ops.skipg ⟨_, _, rfl, rfl, rfl⟩ rfl ?_
              refine Ops.skipg ⟨_, _, rfl, rfl, rfl⟩ rfl ?_
              refine Ops.skipg ⟨_, _, rfl, rfl, rfl⟩ rfl ?_
              refine Ops.pv (pv_pick_false rfl rfl) rfl ?_
              refine Ops.pv (pv_assign rfl) rfl ?_
              refine Ops.nil ?_
              refine Ends.seq ?_
              refine Wp.seq ?_
              refine Wp.seq ?_
              refine Wp.region ?_
              first | refine Ops.pv (pv_fieldAddr0 rfl rfl) rfl ?_ | refine Ops.pv (pv_fieldAddr rfl rfl) rfl ?_
              first | refine Ops.pv (pv_load rfl rfl rfl) rfl ?_ | refine Ops.pv (pv_load rfl rfl (by assumption)) rfl ?_
              refine Ops.pv (pv_neq rfl rfl) rfl ?_
              refine Ops.nil ?_
              refine Ends.seq ?_
              first | refine Wp.cond_dect rfl (fun h79 => ?_) (fun h79 => ?_) | refine Wp.cond_t rfl (fun h79 => ?_) (fun h79 => ?_)
              · refine Wp.region ?_
                refine Ops.pv (pv_move rfl) rfl ?_
                refine Ops.pv (pv_move rfl) rfl ?_
                refine Ops.skipg ⟨_, _, rfl, rfl, rfl⟩ rfl ?_
                refine Ops.skipg ⟨_, _, rfl, rfl, rfl⟩ rfl ?_
                refine Ops.skipg ⟨_, _, rfl, rfl, rfl⟩ rfl ?_
                refine Ops.pv (pv_pick_false rfl rfl) rfl ?_
                refine Ops.pv (pv_assign rfl) rfl ?_
                refine Ops.nil ?_
                refine Ends.seq ?_
                refine Wp.seq ?_
                refine Wp.seq ?_
                refine Wp.region ?_
                refine Ops.pv (pv_move rfl) rfl ?_
                first | refine Ops.pv (pv_not_dec rfl) rfl ?_ | refine Ops.pv (pv_not rfl) rfl ?_
                refine Ops.nil ?_
                refine Ends.seq ?_
                refine Wp.cond_true rfl ?_
                refine Wp.seq ?_
                refine Wp.region ?_
                refine Ops.pv (pv_assign rfl) rfl ?_
                refine Ops.nil ?_
                refine Ends.seq ?_
                refine Wp.ret ?_
                refine Ends.then_ret ?_
                exact Ends.ret (res1 rfl rfl) ⟨by first | (rw [check_bad (by omega)]; done) | (rw [check_ok hr (by omega) (by unfold dOk; omega)]; done) | (rw [check_no hr (by omega) (by unfold dOk; omega)]; done), rfl⟩
              · refine Wp.skip ?_
                refine Ends.seq ?_
                refine Wp.seq ?_
                refine Wp.seq ?_
                refine Wp.region ?_
                refine Ops.pv (pv_move rfl) rfl ?_
                first | refine Ops.pv (pv_not_dec rfl) rfl ?_ | refine Ops.pv (pv_not rfl) rfl ?_
                refine Ops.nil ?_
                refine Ends.seq ?_
                refine Wp.cond_true rfl ?_
                refine Wp.seq ?_
                refine Wp.region ?_
                refine Ops.pv (pv_assign rfl) rfl ?_
                refine Ops.nil ?_
                refine Ends.seq ?_
                refine Wp.ret ?_
                refine Ends.then_ret ?_
                exact Ends.ret (res1 rfl rfl) ⟨by first | (rw [check_bad (by omega)]; done) | (rw [check_ok hr (by omega) (by unfold dOk; omega)]; done) | (rw [check_no hr (by omega) (by unfold dOk; omega)]; done), rfl⟩
            · refine Wp.skip ?_
              refine Ends.seq ?_
              refine Wp.seq ?_
              refine Wp.seq ?_
              refine Wp.region ?_
              first | refine Ops.pv (pv_fieldAddr0 rfl rfl) rfl ?_ | refine Ops.pv (pv_fieldAddr rfl rfl) rfl ?_
              first | refine Ops.pv (pv_load rfl rfl rfl) rfl ?_ | refine Ops.pv (pv_load rfl rfl (by assumption)) rfl ?_
              refine Ops.pv (pv_neq rfl rfl) rfl ?_
              refine Ops.nil ?_
              refine Ends.seq ?_
              first | refine Wp.cond_dect rfl (fun h80 => ?_) (fun h80 => ?_) | refine Wp.cond_t rfl (fun h80 => ?_) (fun h80 => ?_)
              · refine Wp.region ?_
                refine Ops.pv (pv_move rfl) rfl ?_
                refine Ops.pv (pv_move rfl) rfl ?_
                refine Ops.skipg ⟨_, _, rfl, rfl, rfl⟩ rfl ?_
                refine Ops.skipg ⟨_, _, rfl, rfl, rfl⟩ rfl ?_
                refine Ops.skipg ⟨_, _, rfl, rfl, rfl⟩ rfl ?_
                refine Ops.pv (pv_pick_false rfl rfl) rfl ?_
                refine Ops.pv (pv_assign rfl) rfl ?_
                refine Ops.nil ?_
                refine Ends.seq ?_
                refine Wp.seq ?_
                refine Wp.seq ?_
                refine Wp.region ?_
                refine Ops.pv (pv_move rfl) rfl ?_
                first | refine Ops.pv (pv_not_dec rfl) rfl ?_ | refine Ops.pv (pv_not rfl) rfl ?_
                refine Ops.nil ?_
                refine Ends.seq ?_
                refine Wp.cond_true rfl ?_
                refine Wp.seq ?_
                refine Wp.region ?_
                refine Ops.pv (pv_assign rfl) rfl ?_
                refine Ops.nil ?_
                refine Ends.seq ?_
                refine Wp.ret ?_
                refine Ends.then_ret ?_
                exact Ends.ret (res1 rfl rfl) ⟨by first | (rw [check_bad (by omega)]; done) | (rw [check_ok hr (by omega) (by unfold dOk; omega)]; done) | (rw [check_no hr (by omega) (by unfold dOk; omega)]; done), rfl⟩
              · refine Wp.skip ?_
                refine Ends.seq ?_
                refine Wp.seq ?_
                refine Wp.seq ?_
                refine Wp.region ?_
                refine Ops.pv (pv_move rfl) rfl ?_
                first | refine Ops.pv (pv_not_dec rfl) rfl ?_ | refine Ops.pv (pv_not rfl) rfl ?_
                refine Ops.nil ?_
                refine Ends.seq ?_
                refine Wp.cond_true rfl ?_
                refine Wp.seq ?_
                refine Wp.region ?_
                refine Ops.pv (pv_assign rfl) rfl ?_
                refine Ops.nil ?_
                refine Ends.seq ?_
                refine Wp.ret ?_
                refine Ends.then_ret ?_
                exact Ends.ret (res1 rfl rfl) ⟨by first | (rw [check_bad (by omega)]; done) | (rw [check_ok hr (by omega) (by unfold dOk; omega)]; done) | (rw [check_no hr (by omega) (by unfold dOk; omega)]; done), rfl⟩
    · refine Ops.skipg ⟨_, _, rfl, rfl, rfl⟩ rfl ?_
      refine Ops.skipg ⟨_, _, rfl, rfl, rfl⟩ rfl ?_
      refine Ops.skipg ⟨_, _, rfl, rfl, rfl⟩ rfl ?_
      refine Ops.pv (pv_pick_false rfl rfl) rfl ?_
      refine Ops.pv (pv_move rfl) rfl ?_
      refine Ops.skipg ⟨_, _, rfl, rfl, rfl⟩ rfl ?_
      refine Ops.skipg ⟨_, _, rfl, rfl, rfl⟩ rfl ?_
      refine Ops.skipg ⟨_, _, rfl, rfl, rfl⟩ rfl ?_
      refine Ops.pv (pv_pick_false rfl rfl) rfl ?_
      refine Ops.pv (pv_move rfl) rfl ?_
      refine Ops.skipg ⟨_, _, rfl, rfl, rfl⟩ rfl ?_
      refine Ops.skipg ⟨_, _, rfl, rfl, rfl⟩ rfl ?_
      refine Ops.skipg ⟨_, _, rfl, rfl, rfl⟩ rfl ?_
      refine Ops.skipg ⟨_, _, rfl, rfl, rfl⟩ rfl ?_
      refine Ops.skipg ⟨_, _, rfl, rfl, rfl⟩ rfl ?_
      refine Ops.pv (pv_pick_false rfl rfl) rfl ?_
      refine Ops.pv (pv_assign rfl) rfl ?_
      refine Ops.nil ?_
      refine Ends.seq ?_
      refine Wp.seq ?_
      refine Wp.seq ?_
      refine Wp.region ?_
      first | refine Ops.pv (pv_fieldAddr0 rfl rfl) rfl ?_ | refine Ops.pv (pv_fieldAddr rfl rfl) rfl ?_
      first | refine Ops.pv (pv_load rfl rfl rfl) rfl ?_ | refine Ops.pv (pv_load rfl rfl (by assumption)) rfl ?_
      refine Ops.pv (pv_eql rfl rfl) rfl ?_
      refine Ops.pv (pv_move rfl) rfl ?_
      first | refine Ops.pvcn rfl rfl (fun hg => pv_fieldAddr0 rfl rfl) rfl ?_ | refine Ops.pvcn rfl rfl (fun hg => pv_fieldAddr rfl rfl) rfl ?_
      first | refine Ops.pvcn rfl rfl (fun hg => Pv.setE (t := 41) rfl (cv_pos hg) (pv_load rfl rfl rfl)) rfl ?_ | refine Ops.pvcn rfl rfl (fun hg => Pv.setE (t := 41) rfl (cv_pos hg) (pv_load rfl rfl (by assumption))) rfl ?_
      refine Ops.pvcn rfl rfl (fun hg => Pv.setE (t := 41) rfl (cv_pos hg) (Pv.setE (t := 42) rfl (cv_pos hg) (pv_eql rfl rfl))) rfl ?_
      refine Ops.pv (pv_pick_or rfl rfl) rfl ?_
      refine Ops.nil ?_
      refine Ends.seq ?_
      first | refine Wp.cond_dect rfl (fun h81 => ?_) (fun h81 => ?_) | refine Wp.cond_t rfl (fun h81 => ?_) (fun h81 => ?_)
      · refine Wp.region ?_
        refine Ops.pv (pv_move rfl) rfl ?_
        refine Ops.pv (pv_move rfl) rfl ?_
        refine Ops.skipg ⟨_, _, rfl, rfl, rfl⟩ rfl ?_
        refine Ops.skipg ⟨_, _, rfl, rfl, rfl⟩ rfl ?_
        refine Ops.skipg ⟨_, _, rfl, rfl, rfl⟩ rfl ?_
        refine Ops.pv (pv_pick_false rfl rfl) rfl ?_
        refine Ops.pv (pv_assign rfl) rfl ?_
        refine Ops.nil ?_
        refine Ends.seq ?_
        refine Wp.seq ?_
        refine Wp.seq ?_
        refine Wp.region ?_
        first | refine Ops.pv (pv_fieldAddr0 rfl rfl) rfl ?_ | refine Ops.pv (pv_fieldAddr rfl rfl) rfl ?_
        first | refine Ops.pv (pv_load rfl rfl rfl) rfl ?_ | refine Ops.pv (pv_load rfl rfl (by assumption)) rfl ?_
        refine Ops.ef rfl (ef_callr (tr_righted c.kind) rfl rfl) ?_
        rintro _ _ ⟨rfl, rfl⟩
        first | refine Ops.pv (pv_not_dec rfl) rfl ?_ | refine Ops.pv (pv_not rfl) rfl ?_
        refine Ops.nil ?_
        refine Ends.seq ?_
        first | refine Wp.cond_dect rfl (fun h82 => ?_) (fun h82 => ?_) | refine Wp.cond_t rfl (fun h82 => ?_) (fun h82 => ?_)
        · refine Wp.region ?_
          refine Ops.pv (pv_move rfl) rfl ?_
          refine Ops.pv (pv_move rfl) rfl ?_
          refine Ops.skipg ⟨_, _, rfl, rfl, rfl⟩ rfl ?_
          refine Ops.skipg ⟨_, _, rfl, rfl, rfl⟩ rfl ?_
          refine Ops.skipg ⟨_, _, rfl, rfl, rfl⟩ rfl ?_
          refine Ops.pv (pv_pick_false rfl rfl) rfl ?_
          refine Ops.pv (pv_assign rfl) rfl ?_
          refine Ops.nil ?_
          refine Ends.seq ?_
          refine Wp.seq ?_
          refine Wp.seq ?_
          refine Wp.region ?_
          first | refine Ops.pv (pv_fieldAddr0 rfl rfl) rfl ?_ | refine Ops.pv (pv_fieldAddr rfl rfl) rfl ?_
          first | refine Ops.pv (pv_load rfl rfl rfl) rfl ?_ | refine Ops.pv (pv_load rfl rfl (by assumption)) rfl ?_
          refine Ops.ef rfl (ef_callr (tr_badged c.kind) rfl rfl) ?_
          rintro _ _ ⟨rfl, rfl⟩
          first | refine Ops.pv (pv_not_dec rfl) rfl ?_ | refine Ops.pv (pv_not rfl) rfl ?_
          refine Ops.nil ?_
          refine Ends.seq ?_
          first | refine Wp.cond_dect rfl (fun h83 => ?_) (fun h83 => ?_) | refine Wp.cond_t rfl (fun h83 => ?_) (fun h83 => ?_)
          · refine Wp.region ?_
            refine Ops.pv (pv_move rfl) rfl ?_
            refine Ops.pv (pv_move rfl) rfl ?_
            refine Ops.skipg ⟨_, _, rfl, rfl, rfl⟩ rfl ?_
            refine Ops.skipg ⟨_, _, rfl, rfl, rfl⟩ rfl ?_
            refine Ops.skipg ⟨_, _, rfl, rfl, rfl⟩ rfl ?_
            refine Ops.pv (pv_pick_false rfl rfl) rfl ?_
            refine Ops.pv (pv_assign rfl) rfl ?_
            refine Ops.nil ?_
            refine Ends.seq ?_
            refine Wp.seq ?_
            refine Wp.seq ?_
            refine Wp.region ?_
            first | refine Ops.pv (pv_fieldAddr0 rfl rfl) rfl ?_ | refine Ops.pv (pv_fieldAddr rfl rfl) rfl ?_
            first | refine Ops.pv (pv_load rfl rfl rfl) rfl ?_ | refine Ops.pv (pv_load rfl rfl (by assumption)) rfl ?_
            refine Ops.pv (pv_neq rfl rfl) rfl ?_
            refine Ops.nil ?_
            refine Ends.seq ?_
            first | refine Wp.cond_dect rfl (fun h84 => ?_) (fun h84 => ?_) | refine Wp.cond_t rfl (fun h84 => ?_) (fun h84 => ?_)
            · refine Wp.region ?_
              refine Ops.pv (pv_move rfl) rfl ?_
              refine Ops.pv (pv_move rfl) rfl ?_
              refine Ops.skipg ⟨_, _, rfl, rfl, rfl⟩ rfl ?_
              refine Ops.skipg ⟨_, _, rfl, rfl, rfl⟩ rfl ?_
              refine Ops.skipg ⟨_, _, rfl, rfl, rfl⟩ rfl ?_
              refine Ops.pv (pv_pick_false rfl rfl) rfl ?_
              refine Ops.pv (pv_assign rfl) rfl ?_
              refine Ops.nil ?_
              refine Ends.seq ?_
              refine Wp.seq ?_
              refine Wp.seq ?_
              refine Wp.region ?_
              refine Ops.pv (pv_move rfl) rfl ?_
              first | refine Ops.pv (pv_not_dec rfl) rfl ?_ | refine Ops.pv (pv_not rfl) rfl ?_
              refine Ops.nil ?_
              refine Ends.seq ?_
              refine Wp.cond_true rfl ?_
              refine Wp.seq ?_
              refine Wp.region ?_
              refine Ops.pv (pv_assign rfl) rfl ?_
              refine Ops.nil ?_
              refine Ends.seq ?_
              refine Wp.ret ?_
              refine Ends.then_ret ?_
              exact Ends.ret (res1 rfl rfl) ⟨by first | (rw [check_bad (by omega)]; done) | (rw [check_ok hr (by omega) (by unfold dOk; omega)]; done) | (rw [check_no hr (by omega) (by unfold dOk; omega)]; done), rfl⟩
            · refine Wp.skip ?_
              refine Ends.seq ?_
              refine Wp.seq ?_
              refine Wp.seq ?_
              refine Wp.region ?_
              refine Ops.pv (pv_move rfl) rfl ?_
              first | refine Ops.pv (pv_not_dec rfl) rfl ?_ | refine Ops.pv (pv_not rfl) rfl ?_
              refine Ops.nil ?_
              refine Ends.seq ?_
              refine Wp.cond_true rfl ?_
              refine Wp.seq ?_
              refine Wp.region ?_
              refine Ops.pv (pv_assign rfl) rfl ?_
              refine Ops.nil ?_
              refine Ends.seq ?_
              refine Wp.ret ?_
              refine Ends.then_ret ?_
              exact Ends.ret (res1 rfl rfl) ⟨by first | (rw [check_bad (by omega)]; done) | (rw [check_ok hr (by omega) (by unfold dOk; omega)]; done) | (rw [check_no hr (by omega) (by unfold dOk; omega)]; done), rfl⟩
          · refine Wp.skip ?_
            refine Ends.seq ?_
            refine Wp.seq ?_
            refine Wp.seq ?_
            refine Wp.region ?_
            first | refine Ops.pv (pv_fieldAddr0 rfl rfl) rfl ?_ | refine Ops.pv (pv_fieldAddr rfl rfl) rfl ?_
            first | refine Ops.pv (pv_load rfl rfl rfl) rfl ?_ | refine Ops.pv (pv_load rfl rfl (by assumption)) rfl ?_
            refine Ops.pv (pv_neq rfl rfl) rfl ?_
            refine Ops.nil ?_
            refine Ends.seq ?_
            first | refine Wp.cond_dect rfl (fun h85 => ?_) (fun h85 => ?_) | refine Wp.cond_t rfl (fun h85 => ?_) (fun h85 => ?_)
            · refine Wp.region ?_
              refine Ops.pv (pv_move rfl) rfl ?_
              refine Ops.pv (pv_move rfl) rfl ?_
              refine Ops.skipg ⟨_, _, rfl, rfl, rfl⟩ rfl ?_
              refine Ops.skipg ⟨_, _, rfl, rfl, rfl⟩ rfl ?_
              refine Ops.skipg ⟨_, _, rfl, rfl, rfl⟩ rfl ?_
              refine Ops.pv (pv_pick_false rfl rfl) rfl ?_
              refine Ops.pv (pv_assign rfl) rfl ?_
              refine Ops.nil ?_
              refine Ends.seq ?_
              refine Wp.seq ?_
              refine Wp.seq ?_
              refine Wp.region ?_
              refine Ops.pv (pv_move rfl) rfl ?_
              first | refine Ops.pv (pv_not_dec rfl) rfl ?_ | refine Ops.pv (pv_not rfl) rfl ?_
              refine Ops.nil ?_
              refine Ends.seq ?_
              refine Wp.cond_true rfl ?_
              refine Wp.seq ?_
              refine Wp.region ?_
              refine Ops.pv (pv_assign rfl) rfl ?_
              refine Ops.nil ?_
              refine Ends.seq ?_
              refine Wp.ret ?_
              refine Ends.then_ret ?_
              exact Ends.ret (res1 rfl rfl) ⟨by first | (rw [check_bad (by omega)]; done) | (rw [check_ok hr (by omega) (by unfold dOk; omega)]; done) | (rw [check_no hr (by omega) (by unfold dOk; omega)]; done), rfl⟩
            · refine Wp.skip ?_
              refine Ends.seq ?_
              refine Wp.seq ?_
              refine Wp.seq ?_
              refine Wp.region ?_
              refine Ops.pv (pv_move rfl) rfl ?_
              first | refine Ops.pv (pv_not_dec rfl) rfl ?_ | refine Ops.pv (pv_not rfl) rfl ?_
              refine Ops.nil ?_
              refine Ends.seq ?_
              refine Wp.cond_true rfl ?_
              refine Wp.seq ?_
              refine Wp.region ?_
              refine Ops.pv (pv_assign rfl) rfl ?_
              refine Ops.nil ?_
              refine Ends.seq ?_
              refine Wp.ret ?_
              refine Ends.then_ret ?_
              exact Ends.ret (res1 rfl rfl) ⟨by first | (rw [check_bad (by omega)]; done) | (rw [check_ok hr (by omega) (by unfold dOk; omega)]; done) | (rw [check_no hr (by omega) (by unfold dOk; omega)]; done), rfl⟩
        · refine Wp.skip ?_
          refine Ends.seq ?_
          refine Wp.seq ?_
          refine Wp.seq ?_
          refine Wp.region ?_
          first | refine Ops.pv (pv_fieldAddr0 rfl rfl) rfl ?_ | refine Ops.pv (pv_fieldAddr rfl rfl) rfl ?_
          first | refine Ops.pv (pv_load rfl rfl rfl) rfl ?_ | refine Ops.pv (pv_load rfl rfl (by assumption)) rfl ?_
          refine Ops.ef rfl (ef_callr (tr_badged c.kind) rfl rfl) ?_
          rintro _ _ ⟨rfl, rfl⟩
          first | refine Ops.pv (pv_not_dec rfl) rfl ?_ | refine Ops.pv (pv_not rfl) rfl ?_
          refine Ops.nil ?_
          refine Ends.seq ?_
          first | refine Wp.cond_dect rfl (fun h86 => ?_) (fun h86 => ?_) | refine Wp.cond_t rfl (fun h86 => ?_) (fun h86 => ?_)
          · refine Wp.region ?_
            refine Ops.pv (pv_move rfl) rfl ?_
            refine Ops.pv (pv_move rfl) rfl ?_
            refine Ops.skipg ⟨_, _, rfl, rfl, rfl⟩ rfl ?_
            refine Ops.skipg ⟨_, _, rfl, rfl, rfl⟩ rfl ?_
            refine Ops.skipg ⟨_, _, rfl, rfl, rfl⟩ rfl ?_
            refine Ops.pv (pv_pick_false rfl rfl) rfl ?_
            refine Ops.pv (pv_assign rfl) rfl ?_
            refine Ops.nil ?_
            refine Ends.seq ?_
            refine Wp.seq ?_
            refine Wp.seq ?_
            refine Wp.region ?_
            first | refine Ops.pv (pv_fieldAddr0 rfl rfl) rfl ?_ | refine Ops.pv (pv_fieldAddr rfl rfl) rfl ?_
            first | refine Ops.pv (pv_load rfl rfl rfl) rfl ?_ | refine Ops.pv (pv_load rfl rfl (by assumption)) rfl ?_
            refine Ops.pv (pv_neq rfl rfl) rfl ?_
            refine Ops.nil ?_
            refine Ends.seq ?_
            first | refine Wp.cond_dect rfl (fun h87 => ?_) (fun h87 => ?_) | refine Wp.cond_t rfl (fun h87 => ?_) (fun h87 => ?_)
            · refine Wp.region ?_
              refine Ops.pv (pv_move rfl) rfl ?_
              refine Ops.pv (pv_move rfl) rfl ?_
              refine Ops.skipg ⟨_, _, rfl, rfl, rfl⟩ rfl ?_
              refine Ops.skipg ⟨_, _, rfl, rfl, rfl⟩ rfl ?_
              refine Ops.skipg ⟨_, _, rfl, rfl, rfl⟩ rfl ?_
              refine Ops.pv (pv_pick_false rfl rfl) rfl ?_
              refine Ops.pv (pv_assign rfl) rfl ?_
              refine Ops.nil ?_
              refine Ends.seq ?_
              refine Wp.seq ?_
              refine Wp.seq ?_
              refine Wp.region ?_
              refine Ops.pv (pv_move rfl) rfl ?_
              first | refine Ops.pv (pv_not_dec rfl) rfl ?_ | refine Ops.pv (pv_not rfl) rfl ?_
              refine Ops.nil ?_
              refine Ends.seq ?_
              refine Wp.cond_true rfl ?_
              refine Wp.seq ?_
              refine Wp.region ?_
              refine Ops.pv (pv_assign rfl) rfl ?_
              refine Ops.nil ?_
              refine Ends.seq ?_
              refine Wp.ret ?_
              refine Ends.then_ret ?_
              exact Ends.ret (res1 rfl rfl) ⟨by first | (rw [check_bad (by omega)]; done) | (rw [check_ok hr (by omega) (by unfold dOk; omega)]; done) | (rw [check_no hr (by omega) (by unfold dOk; omega)]; done), rfl⟩
            · refine Wp.skip ?_
              refine Ends.seq ?_
              refine Wp.seq ?_
              refine Wp.seq ?_
              refine Wp.region ?_
              refine Ops.pv (pv_move rfl) rfl ?_
              first | refine Ops.pv (pv_not_dec rfl) rfl ?_ | refine Ops.pv (pv_not rfl) rfl ?_
              refine Ops.nil ?_
              refine Ends.seq ?_
              refine Wp.cond_true rfl ?_
              refine Wp.seq ?_
              refine Wp.region ?_
              refine Ops.pv (pv_assign rfl) rfl ?_
              refine Ops.nil ?_
              refine Ends.seq ?_
              refine Wp.ret ?_
              refine Ends.then_ret ?_
              exact Ends.ret (res1 rfl rfl) ⟨by first | (rw [check_bad (by omega)]; done) | (rw [check_ok hr (by omega) (by unfold dOk; omega)]; done) | (rw [check_no hr (by omega) (by unfold dOk; omega)]; done), rfl⟩
          · refine Wp.skip ?_
            refine Ends.seq ?_
            refine Wp.seq ?_
            refine Wp.seq ?_
            refine Wp.region ?_
            first | refine Ops.pv (pv_fieldAddr0 rfl rfl) rfl ?_ | refine Ops.pv (pv_fieldAddr rfl rfl) rfl ?_
            first | refine Ops.pv (pv_load rfl rfl rfl) rfl ?_ | refine Ops.pv (pv_load rfl rfl (by assumption)) rfl ?_
            refine Ops.pv (pv_neq rfl rfl) rfl ?_
            refine Ops.nil ?_
            refine Ends.seq ?_
            first | refine Wp.cond_dect rfl (fun h88 => ?_) (fun h88 => ?_) | refine Wp.cond_t rfl (fun h88 => ?_) (fun h88 => ?_)
            · refine Wp.region ?_
              refine Ops.pv (pv_move rfl) rfl ?_
              refine Ops.pv (pv_move rfl) rfl ?_
              refine Ops.skipg ⟨_, _, rfl, rfl, rfl⟩ rfl ?_
              refine Ops.skipg ⟨_, _, rfl, rfl, rfl⟩ rfl ?_
              refine Ops.skipg ⟨_, _, rfl, rfl, rfl⟩ rfl ?_
              refine Ops.pv (pv_pick_false rfl rfl) rfl ?_
              refine Ops.pv (pv_assign rfl) rfl ?_
              refine Ops.nil ?_
              refine Ends.seq ?_
              refine Wp.seq ?_
              refine Wp.seq ?_
              refine Wp.region ?_
              refine Ops.pv (pv_move rfl) rfl ?_
              first | refine Ops.pv (pv_not_dec rfl) rfl ?_ | refine Ops.pv (pv_not rfl) rfl ?_
              refine Ops.nil ?_
              refine Ends.seq ?_
              refine Wp.cond_true rfl ?_
              refine Wp.seq ?_
              refine Wp.region ?_
              refine Ops.pv (pv_assign rfl) rfl ?_
              refine Ops.nil ?_
              refine Ends.seq ?_
              refine Wp.ret ?_
              refine Ends.then_ret ?_
              exact Ends.ret (res1 rfl rfl) ⟨by first | (rw [check_bad (by omega)]; done) | (rw [check_ok hr (by omega) (by unfold dOk; omega)]; done) | (rw [check_no hr (by omega) (by unfold dOk; omega)]; done), rfl⟩
            · refine Wp.skip ?_
              refine Ends.seq ?_
              refine Wp.seq ?_
              refine Wp.seq ?_
              refine Wp.region ?_
              refine Ops.pv (pv_move rfl) rfl ?_
              first | refine Ops.pv (pv_not_dec rfl) rfl ?_ | refine Ops.pv (pv_not rfl) rfl ?_
              refine Ops.nil ?_
              refine Ends.seq ?_
              refine Wp.cond_true rfl ?_
              refine Wp.seq ?_
              refine Wp.region ?_
              refine Ops.pv (pv_assign rfl) rfl ?_
              refine Ops.nil ?_
              refine Ends.seq ?_
              refine Wp.ret ?_
              refine Ends.then_ret ?_
              exact Ends.ret (res1 rfl rfl) ⟨by first | (rw [check_bad (by omega)]; done) | (rw [check_ok hr (by omega) (by unfold dOk; omega)]; done) | (rw [check_no hr (by omega) (by unfold dOk; omega)]; done), rfl⟩
      · refine Wp.skip ?_
        refine Ends.seq ?_
        refine Wp.seq ?_
        refine Wp.seq ?_
        refine Wp.region ?_
        first | refine Ops.pv (pv_fieldAddr0 rfl rfl) rfl ?_ | refine Ops.pv (pv_fieldAddr rfl rfl) rfl ?_
        first | refine Ops.pv (pv_load rfl rfl rfl) rfl ?_ | refine Ops.pv (pv_load rfl rfl (by assumption)) rfl ?_
        refine Ops.ef rfl (ef_callr (tr_righted c.kind) rfl rfl) ?_
        rintro _ _ ⟨rfl, rfl⟩
        first | refine Ops.pv (pv_not_dec rfl) rfl ?_ | refine Ops.pv (pv_not rfl) rfl ?_
        refine Ops.nil ?_
        refine Ends.seq ?_
        first | refine Wp.cond_dect rfl (fun h89 => ?_) (fun h89 => ?_) | refine Wp.cond_t rfl (fun h89 => ?_) (fun h89 => ?_)
        · refine Wp.region ?_
          refine Ops.pv (pv_move rfl) rfl ?_
          refine Ops.pv (pv_move rfl) rfl ?_
          refine Ops.skipg ⟨_, _, rfl, rfl, rfl⟩ rfl ?_
          refine Ops.skipg ⟨_, _, rfl, rfl, rfl⟩ rfl ?_
          refine Ops.skipg ⟨_, _, rfl, rfl, rfl⟩ rfl ?_
          refine Ops.pv (pv_pick_false rfl rfl) rfl ?_
          refine Ops.pv (pv_assign rfl) rfl ?_
          refine Ops.nil ?_
          refine Ends.seq ?_
          refine Wp.seq ?_
          refine Wp.seq ?_
          refine Wp.region ?_
          first | refine Ops.pv (pv_fieldAddr0 rfl rfl) rfl ?_ | refine Ops.pv (pv_fieldAddr rfl rfl) rfl ?_
          first | refine Ops.pv (pv_load rfl rfl rfl) rfl ?_ | refine Ops.pv (pv_load rfl rfl (by assumption)) rfl ?_
          refine Ops.ef rfl (ef_callr (tr_badged c.kind) rfl rfl) ?_
          rintro _ _ ⟨rfl, rfl⟩
          first | refine Ops.pv (pv_not_dec rfl) rfl ?_ | refine Ops.pv (pv_not rfl) rfl ?_
          refine Ops.nil ?_
          refine Ends.seq ?_
          first | refine Wp.cond_dect rfl (fun h90 => ?_) (fun h90 => ?_) | refine Wp.cond_t rfl (fun h90 => ?_) (fun h90 => ?_)
          · refine Wp.region ?_
            refine Ops.pv (pv_move rfl) rfl ?_
            refine Ops.pv (pv_move rfl) rfl ?_
            refine Ops.skipg ⟨_, _, rfl, rfl, rfl⟩ rfl ?_
            refine Ops.skipg ⟨_, _, rfl, rfl, rfl⟩ rfl ?_
            refine Ops.skipg ⟨_, _, rfl, rfl, rfl⟩ rfl ?_
            refine Ops.pv (pv_pick_false rfl rfl) rfl ?_
            refine Ops.pv (pv_assign rfl) rfl ?_
            refine Ops.nil ?_
            refine Ends.seq ?_
            refine Wp.seq ?_
            refine Wp.seq ?_
            refine Wp.region ?_
            first | refine Ops.pv (pv_fieldAddr0 rfl rfl) rfl ?_ | refine Ops.pv (pv_fieldAddr rfl rfl) rfl ?_
            first | refine Ops.pv (pv_load rfl rfl rfl) rfl ?_ | refine Ops.pv (pv_load rfl rfl (by assumption)) rfl ?_
            refine Ops.pv (pv_neq rfl rfl) rfl ?_
            refine Ops.nil ?_
            refine Ends.seq ?_
            first | refine Wp.cond_dect rfl (fun h91 => ?_) (fun h91 => ?_) | refine Wp.cond_t rfl (fun h91 => ?_) (fun h91 => ?_)
            · refine Wp.region ?_
              refine Ops.pv (pv_move rfl) rfl ?_
              refine Ops.pv (pv_move rfl) rfl ?_
              refine Ops.skipg ⟨_, _, rfl, rfl, rfl⟩ rfl ?_
              refine Ops.skipg ⟨_, _, rfl, rfl, rfl⟩ rfl ?_
              refine Ops.skipg ⟨_, _, rfl, rfl, rfl⟩ rfl ?_
              refine Ops.pv (pv_pick_false rfl rfl) rfl ?_
              refine Ops.pv (pv_assign rfl) rfl ?_
              refine Ops.nil ?_
              refine Ends.seq ?_
              refine Wp.seq ?_
              refine Wp.seq ?_
              refine Wp.region ?_
              refine Ops.pv (pv_move rfl) rfl ?_
              first | refine Ops.pv (pv_not_dec rfl) rfl ?_ | refine Ops.pv (pv_not rfl) rfl ?_
              refine Ops.nil ?_
              refine Ends.seq ?_
              refine Wp.cond_true rfl ?_
              refine Wp.seq ?_
              refine Wp.region ?_
              refine Ops.pv (pv_assign rfl) rfl ?_
              refine Ops.nil ?_
              refine Ends.seq ?_
              refine Wp.ret ?_
              refine Ends.then_ret ?_
              exact Ends.ret (res1 rfl rfl) ⟨by first | (rw [check_bad (by omega)]; done) | (rw [check_ok hr (by omega) (by unfold dOk; omega)]; done) | (rw [check_no hr (by omega) (by unfold dOk; omega)]; done), rfl⟩
            · refine Wp.skip ?_
              refine Ends.seq ?_
              refine Wp.seq ?_
              refine Wp.seq ?_
              refine Wp.region ?_
              refine Ops.pv (pv_move rfl) rfl ?_
              first | refine Ops.pv (pv_not_dec rfl) rfl ?_ | refine Ops.pv (pv_not rfl) rfl ?_
              refine Ops.nil ?_
              refine Ends.seq ?_
              refine Wp.cond_true rfl ?_
              refine Wp.seq ?_
              refine Wp.region ?_
              refine Ops.pv (pv_assign rfl) rfl ?_
              refine Ops.nil ?_
              refine Ends.seq ?_
              refine Wp.ret ?_
              refine Ends.then_ret ?_
              exact Ends.ret (res1 rfl rfl) ⟨by first | (rw [check_bad (by omega)]; done) | (rw [check_ok hr (by omega) (by unfold dOk; omega)]; done) | (rw [check_no hr (by omega) (by unfold dOk; omega)]; done), rfl⟩
          · refine Wp.skip ?_
            refine Ends.seq ?_
            refine Wp.seq ?_
            refine Wp.seq ?_
            refine Wp.region ?_
            first | refine Ops.pv (pv_fieldAddr0 rfl rfl) rfl ?_ | refine Ops.pv (pv_fieldAddr rfl rfl) rfl ?_
            first | refine Ops.pv (pv_load rfl rfl rfl) rfl ?_ | refine Ops.pv (pv_load rfl rfl (by assumption)) rfl ?_
            refine Ops.pv (pv_neq rfl rfl) rfl ?_
            refine Ops.nil ?_
            refine Ends.seq ?_
            first | refine Wp.cond_dect rfl (fun h92 => ?_) (fun h92 => ?_) | refine Wp.cond_t rfl (fun h92 => ?_) (fun h92 => ?_)
            · refine Wp.region ?_
              refine Ops.pv (pv_move rfl) rfl ?_
              refine Ops.pv (pv_move rfl) rfl ?_
              refine Ops.skipg ⟨_, _, rfl, rfl, rfl⟩ rfl ?_
              refine Ops.skipg ⟨_, _, rfl, rfl, rfl⟩ rfl ?_
              refine Ops.skipg ⟨_, _, rfl, rfl, rfl⟩ rfl ?_
              refine Ops.pv (pv_pick_false rfl rfl) rfl ?_
              refine Ops.pv (pv_assign rfl) rfl ?_
              refine Ops.nil ?_
              refine Ends.seq ?_
              refine Wp.seq ?_
              refine Wp.seq ?_
              refine Wp.region ?_
              refine Ops.pv (pv_move rfl) rfl ?_
              first | refine Ops.pv (pv_not_dec rfl) rfl ?_ | refine Ops.pv (pv_not rfl) rfl ?_
              refine Ops.nil ?_
              refine Ends.seq ?_
              refine Wp.cond_true rfl ?_
              refine Wp.seq ?_
              refine Wp.region ?_
              refine Ops.pv (pv_assign rfl) rfl ?_
              refine Ops.nil ?_
              refine Ends.seq ?_
              refine Wp.ret ?_
              refine Ends.then_ret ?_
              exact Ends.ret (res1 rfl rfl) ⟨by first | (rw [check_bad (by omega)]; done) | (rw [check_ok hr (by omega) (by unfold dOk; omega)]; done) | (rw [check_no hr (by omega) (by unfold dOk; omega)]; done), rfl⟩
            · refine Wp.skip ?_
              refine Ends.seq ?_
              refine Wp.seq ?_
              refine Wp.seq ?_
              refine Wp.region ?_
              refine Ops.pv (pv_move rfl) rfl ?_
              first | refine Ops.pv (pv_not_dec rfl) rfl ?_ | refine Ops.pv (pv_not rfl) rfl ?_
              refine Ops.nil ?_
              refine Ends.seq ?_
              refine Wp.cond_true rfl ?_
              refine Wp.seq ?_
              refine Wp.region ?_
              refine Ops.pv (pv_assign rfl) rfl ?_
              refine Ops.nil ?_
              refine Ends.seq ?_
              refine Wp.ret ?_
              refine Ends.then_ret ?_
              exact Ends.ret (res1 rfl rfl) ⟨by first | (rw [check_bad (by omega)]; done) | (rw [check_ok hr (by omega) (by unfold dOk; omega)]; done) | (rw [check_no hr (by omega) (by unfold dOk; omega)]; done), rfl⟩
        · refine Wp.skip ?_
          refine Ends.seq ?_
          refine Wp.seq ?_
          refine Wp.seq ?_
          refine Wp.region ?_
          first | refine Ops.pv (pv_fieldAddr0 rfl rfl) rfl ?_ | refine Ops.pv (pv_fieldAddr rfl rfl) rfl ?_
          first | refine Ops.pv (pv_load rfl rfl rfl) rfl ?_ | refine Ops.pv (pv_load rfl rfl (by assumption)) rfl ?_
          refine Ops.ef rfl (ef_callr (tr_badged c.kind) rfl rfl) ?_
          rintro _ _ ⟨rfl, rfl⟩
          first | refine Ops.pv (pv_not_dec rfl) rfl ?_ | refine Ops.pv (pv_not rfl) rfl ?_
          refine Ops.nil ?_
          refine Ends.seq ?_
          first | refine Wp.cond_dect rfl (fun h93 => ?_) (fun h93 => ?_) | refine Wp.cond_t rfl (fun h93 => ?_) (fun h93 => ?_)
          · refine Wp.region ?_
            refine Ops.pv (pv_move rfl) rfl ?_
            refine Ops.pv (pv_move rfl) rfl ?_
            refine Ops.skipg ⟨_, _, rfl, rfl, rfl⟩ rfl ?_
            refine Ops.skipg ⟨_, _, rfl, rfl, rfl⟩ rfl ?_
            refine Ops.skipg ⟨_, _, rfl, rfl, rfl⟩ rfl ?_
            refine Ops.pv (pv_pick_false rfl rfl) rfl ?_
            refine Ops.pv (pv_assign rfl) rfl ?_
            refine Ops.nil ?_
            refine Ends.seq ?_
            refine Wp.seq ?_
            refine Wp.seq ?_
            refine Wp.region ?_
            first | refine Ops.pv (pv_fieldAddr0 rfl rfl) rfl ?_ | refine Ops.pv (pv_fieldAddr rfl rfl) rfl ?_
            first | refine Ops.pv (pv_load rfl rfl rfl) rfl ?_ | refine Ops.pv (pv_load rfl rfl (by assumption)) rfl ?_
            refine Ops.pv (pv_neq rfl rfl) rfl ?_
            refine Ops.nil ?_
            refine Ends.seq ?_
            first | refine Wp.cond_dect rfl (fun h94 => ?_) (fun h94 => ?_) | refine Wp.cond_t rfl (fun h94 => ?_) (fun h94 => ?_)
            · refine Wp.region ?_
              refine Ops.pv (pv_move rfl) rfl ?_
              refine Ops.pv (pv_move rfl) rfl ?_
              refine Ops.skipg ⟨_, _, rfl, rfl, rfl⟩ rfl ?_
              refine Ops.skipg ⟨_, _, rfl, rfl, rfl⟩ rfl ?_
              refine Ops.skipg ⟨_, _, rfl, rfl, rfl⟩ rfl ?_
              refine Ops.pv (pv_pick_false rfl rfl) rfl ?_
              refine Ops.pv (pv_assign rfl) rfl ?_
              refine Ops.nil ?_
              refine Ends.seq ?_
              refine Wp.seq ?_
              refine Wp.seq ?_
              refine Wp.region ?_
              refine Ops.pv (pv_move rfl) rfl ?_
              first | refine Ops.pv (pv_not_dec rfl) rfl ?_ | refine Ops.pv (pv_not rfl) rfl ?_
              refine Ops.nil ?_
              refine Ends.seq ?_
              refine Wp.cond_true rfl ?_
              refine Wp.seq ?_
              refine Wp.region ?_
              refine Ops.pv (pv_assign rfl) rfl ?_
              refine Ops.nil ?_
              refine Ends.seq ?_
              refine Wp.ret ?_
              refine Ends.then_ret ?_
              exact Ends.ret (res1 rfl rfl) ⟨by first | (rw [check_bad (by omega)]; done) | (rw [check_ok hr (by omega) (by unfold dOk; omega)]; done) | (rw [check_no hr (by omega) (by unfold dOk; omega)]; done), rfl⟩
            · refine Wp.skip ?_
              refine Ends.seq ?_
              refine Wp.seq ?_
              refine Wp.seq ?_
              refine Wp.region ?_
              refine Ops.pv (pv_move rfl) rfl ?_
              first | refine Ops.pv (pv_not_dec rfl) rfl ?_ | refine Ops.pv (pv_not rfl) rfl ?_
              refine Ops.nil ?_
              refine Ends.seq ?_
              refine Wp.cond_true rfl ?_
              refine Wp.seq ?_
              refine Wp.region ?_
              refine Ops.pv (pv_assign rfl) rfl ?_
              refine Ops.nil ?_
              refine Ends.seq ?_
              refine Wp.ret ?_
              refine Ends.then_ret ?_
              exact Ends.ret (res1 rfl rfl) ⟨by first | (rw [check_bad (by omega)]; done) | (rw [check_ok hr (by omega) (by unfold dOk; omega)]; done) | (rw [check_no hr (by omega) (by unfold dOk; omega)]; done), rfl⟩
          · refine Wp.skip ?_
            refine Ends.seq ?_
            refine Wp.seq ?_
            refine Wp.seq ?_
            refine Wp.region ?_
            first | refine Ops.pv (pv_fieldAddr0 rfl rfl) rfl ?_ | refine Ops.pv (pv_fieldAddr rfl rfl) rfl ?_
            first | refine Ops.pv (pv_load rfl rfl rfl) rfl ?_ | refine Ops.pv (pv_load rfl rfl (by assumption)) rfl ?_
            refine Ops.pv (pv_neq rfl rfl) rfl ?_
            refine Ops.nil ?_
            refine Ends.seq ?_
            first | refine Wp.cond_dect rfl (fun h95 => ?_) (fun h95 => ?_) | refine Wp.cond_t rfl (fun h95 => ?_) (fun h95 => ?_)
            · refine Wp.region ?_
              refine Ops.pv (pv_move rfl) rfl ?_
              refine Ops.pv (pv_move rfl) rfl ?_
              refine Ops.skipg ⟨_, _, rfl, rfl, rfl⟩ rfl ?_
              refine Ops.skipg ⟨_, _, rfl, rfl, rfl⟩ rfl ?_
              refine Ops.skipg ⟨_, _, rfl, rfl, rfl⟩ rfl ?_
              refine Ops.pv (pv_pick_false rfl rfl) rfl ?_
              refine Ops.pv (pv_assign rfl) rfl ?_
              refine Ops.nil ?_
              refine Ends.seq ?_
              refine Wp.seq ?_
              refine Wp.seq ?_
              refine Wp.region ?_
              refine Ops.pv (pv_move rfl) rfl ?_
              first | refine Ops.pv (pv_not_dec rfl) rfl ?_ | refine Ops.pv (pv_not rfl) rfl ?_
              refine Ops.nil ?_
              refine Ends.seq ?_
              refine Wp.cond_true rfl ?_
              refine Wp.seq ?_
              refine Wp.region ?_
              refine Ops.pv (pv_assign rfl) rfl ?_
              refine Ops.nil ?_
              refine Ends.seq ?_
              refine Wp.ret ?_
              refine Ends.then_ret ?_
              exact Ends.ret (res1 rfl rfl) ⟨by first | (rw [check_bad (by omega)]; done) | (rw [check_ok hr (by omega) (by unfold dOk; omega)]; done) | (rw [check_no hr (by omega) (by unfold dOk; omega)]; done), rfl⟩
            · refine Wp.skip ?_
              refine Ends.seq ?_
              refine Wp.seq ?_
              refine Wp.seq ?_
              refine Wp.region ?_
              refine Ops.pv (pv_move rfl) rfl ?_
              first | refine Ops.pv (pv_not_dec rfl) rfl ?_ | refine Ops.pv (pv_not rfl) rfl ?_
              refine Ops.nil ?_
              refine Ends.seq ?_
              refine Wp.cond_true rfl ?_
              refine Wp.seq ?_
              refine Wp.region ?_
              refine Ops.pv (pv_assign rfl) rfl ?_
              refine Ops.nil ?_
              refine Ends.seq ?_
              refine Wp.ret ?_
              refine Ends.then_ret ?_
              exact Ends.ret (res1 rfl rfl) ⟨by first | (rw [check_bad (by omega)]; done) | (rw [check_ok hr (by omega) (by unfold dOk; omega)]; done) | (rw [check_no hr (by omega) (by unfold dOk; omega)]; done), rfl⟩

theorem tr_dput_none (qb : Nat) (L : Hp) (l : List DN) (hH : DstH l qb L) (hl : l.length ≤ 2 ^ 20) (s : SlotM) (c : CapM) (hrg : c.Rg) (h : dcap? l s = none) : Tr Try.prog 40 [.pointer (some ⟨qb, 0, none⟩), slotV s, c.v] (L) (fun u L' => u = .int .i64 (dput l s c).1 ∧ DstH (dput l s c).2 qb L') := by
  obtain ⟨v, H, hs, rfl⟩ := hH
  obtain ⟨a, c0, rfl⟩ := hs.form
  have hv := hs.view
  refine Tr.enter Try.func40 rfl Try.ntmps40 rfl (fun W F => ?_)
  refine Wp.app ?_
  refine Wp.seq ?_
  refine Wp.region ?_
  refine Ops.ef rfl (ef_boxK rfl rfl) ?_
  rintro _ _ ⟨b1, rfl, rfl⟩
  refine Ops.ef rfl (ef_boxK rfl rfl) ?_
  rintro _ _ ⟨b2, rfl, rfl⟩
  refine Ops.pv (pv_assign rfl) rfl ?_
  refine Ops.nil ?_
  refine Ends.seq ?_
  refine Wp.seq ?_
  refine Wp.seq ?_
  refine Wp.region ?_
  refine Ops.pv (pv_move rfl) rfl ?_
  refine Ops.pv (pv_loadK [_, _] rfl rfl rfl ⟨rfl, rfl, trivial⟩) rfl ?_
  refine Ops.ef rfl (ef_callr (tr_dis_no qb _ l ⟨_, H, hs, rfl⟩ hl s h) rfl rfl) ?_
  rintro _ _ ⟨rfl, rfl⟩
  first | refine Ops.pv (pv_not_dec rfl) rfl ?_ | refine Ops.pv (pv_not rfl) rfl ?_
  refine Ops.nil ?_
  refine Ends.seq ?_
  refine Wp.cond_true rfl ?_
  refine Wp.seq ?_
  refine Wp.region ?_
  refine Ops.pv (pv_assign rfl) rfl ?_
  refine Ops.nil ?_
  refine Ends.seq ?_
  refine Wp.ret ?_
  refine Ends.then_ret ?_
  have he : dput l s c = (6, l) := dput_none h c
  exact Ends.ret (L' := dBlk qb (.slice a l.length c0) :: (H ++ dCaps l)) (res1 rfl rfl) ⟨by rw [he], by rw [he]; exact ⟨_, H, hs, rfl⟩⟩

set_option maxHeartbeats 1000000 in
theorem tr_dput_some (qb : Nat) (L : Hp) (l : List DN) (hH : DstH l qb L) (hl : l.length ≤ 2 ^ 20) (s : SlotM) (x c : CapM) (hrg : c.Rg) (h : dcap? l s = some x) : Tr Try.prog 40 [.pointer (some ⟨qb, 0, none⟩), slotV s, c.v] (L) (fun u L' => u = .int .i64 (dput l s c).1 ∧ DstH (dput l s c).2 qb L') := by
  obtain ⟨v, H, hs, rfl⟩ := hH
  obtain ⟨a, c0, rfl⟩ := hs.form
  have hv := hs.view
  obtain ⟨d, hf, hh, hx⟩ := dcap_some h
  obtain ⟨i, hi, hd, hid⟩ := dfind_some hf
  have hlt := d_lt hd
  obtain ⟨j, hj⟩ : ∃ j : Nat, s.2 = j := ⟨s.2.toNat, by omega⟩
  have hblk := dCaps_blk hd
  rw [hj, Int.toNat_natCast] at hx
  obtain ⟨b, o, cap, cc, T, f, hv1, hbv, hr⟩ := hv.open (by omega)
  cases hv1
  obtain ⟨q0, q1, q2, _⟩ := cel_reads (f := dnC) hr hd
  have hupd := dCaps_upd (d' := { d with caps := d.caps.set j c }) hd rfl rfl
  have hset := caps_setL (c' := c) hx
  refine Tr.enter Try.func40 rfl Try.ntmps40 rfl (fun W F => ?_)
  refine Wp.app ?_
  refine Wp.seq ?_
  refine Wp.region ?_
  refine Ops.ef rfl (ef_boxK rfl rfl) ?_
  rintro _ _ ⟨b1, rfl, rfl⟩
  refine Ops.ef rfl (ef_boxK rfl rfl) ?_
  rintro _ _ ⟨b2, rfl, rfl⟩
  refine Ops.pv (pv_assign rfl) rfl ?_
  refine Ops.nil ?_
  refine Ends.seq ?_
  refine Wp.seq ?_
  refine Wp.seq ?_
  refine Wp.region ?_
  refine Ops.pv (pv_move rfl) rfl ?_
  refine Ops.pv (pv_loadK [_, _] rfl rfl rfl ⟨rfl, rfl, trivial⟩) rfl ?_
  refine Ops.ef rfl (ef_callr (tr_dis_yes qb _ l ⟨_, H, hs, rfl⟩ hl s x h) rfl rfl) ?_
  rintro _ _ ⟨rfl, rfl⟩
  first | refine Ops.pv (pv_not_dec rfl) rfl ?_ | refine Ops.pv (pv_not rfl) rfl ?_
  refine Ops.nil ?_
  refine Ends.seq ?_
  refine Wp.cond_false rfl ?_
  refine Wp.skip ?_
  refine Ends.seq ?_
  refine Wp.seq ?_
  refine Wp.region ?_
  refine Ops.pv (pv_loadK [_, _, _, _, _, _] rfl rfl rfl ⟨rfl, rfl, rfl, rfl, rfl, rfl, trivial⟩) rfl ?_
  refine Ops.ef rfl (ef_callr (tr_dcheck c hrg) rfl rfl) ?_
  rintro _ _ ⟨rfl, rfl⟩
  refine Ops.pv (pv_assign rfl) rfl ?_
  refine Ops.nil ?_
  refine Ends.seq ?_
  refine Wp.seq ?_
  refine Wp.region ?_
  refine Ops.pv (pv_move rfl) rfl ?_
  first | refine Ops.pv (pv_fieldAddr0 rfl rfl) rfl ?_ | refine Ops.pv (pv_fieldAddr rfl rfl) rfl ?_
  first | refine Ops.pv (pv_load rfl rfl rfl) rfl ?_ | refine Ops.pv (pv_load rfl rfl (by assumption)) rfl ?_
  refine Ops.ef rfl (ef_callr ((tr_dat qb _ l ⟨_, H, hs, rfl⟩ hl s.1).eq (by rw [hi])) rfl rfl) ?_
  rintro _ _ ⟨rfl, rfl⟩
  refine Ops.pv (pv_assign rfl) rfl ?_
  refine Ops.nil ?_
  refine Ends.seq ?_
  refine Wp.seq ?_
  refine Wp.block ?_
  refine Wp.seq ?_
  refine Wp.region ?_
  refine Ops.pv (pv_move rfl) rfl ?_
  refine Ops.pv (pv_neq rfl rfl) rfl ?_
  refine Ops.pv (pv_assign rfl) rfl ?_
  refine Ops.nil ?_
  refine Ends.seq ?_
  first | refine Wp.cond_dect rfl (fun h1 => ?_) (fun h1 => ?_) | refine Wp.cond_t rfl (fun h1 => ?_) (fun h1 => ?_)
  · refine Wp.seq ?_
    refine Wp.region ?_
    refine Ops.pv (pv_move rfl) rfl ?_
    refine Ops.pv (pv_assign rfl) rfl ?_
    refine Ops.nil ?_
    refine Ends.seq ?_
    refine Wp.ret ?_
    refine Ends.block_ret ?_
    refine Ends.then_ret ?_
    have he : dput l s c = (checkM c, l) := by rw [dput_some h c, if_pos (by assumption)]
    exact Ends.ret (L' := dBlk qb (.slice (some ⟨b, o, none⟩) l.length c0) :: (H ++ dCaps l)) (res1 rfl rfl) ⟨by rw [he], by rw [he]; exact ⟨_, H, hs, rfl⟩⟩
  · refine Wp.seq ?_
    refine Wp.region ?_
    first | refine Ops.pv (pv_fieldAddr0 rfl rfl) rfl ?_ | refine Ops.pv (pv_fieldAddr rfl rfl) rfl ?_
    first | refine Ops.pv (pv_load rfl rfl rfl) rfl ?_ | refine Ops.pv (pv_load rfl rfl (by assumption)) rfl ?_
    refine Ops.pv (pv_eql rfl rfl) rfl ?_
    refine Ops.pv (pv_assign rfl) rfl ?_
    refine Ops.nil ?_
    refine Ends.seq ?_
    first | refine Wp.cond_dect rfl (fun h2 => ?_) (fun h2 => ?_) | refine Wp.cond_t rfl (fun h2 => ?_) (fun h2 => ?_)
    · refine Wp.seq ?_
      refine Wp.region ?_
      refine Ops.pv (pv_assign rfl) rfl ?_
      refine Ops.nil ?_
      refine Ends.seq ?_
      refine Wp.ret ?_
      refine Ends.block_ret ?_
      refine Ends.then_ret ?_
      have he : dput l s c = (3, l) := by rw [dput_some h c, if_neg (by assumption), if_pos (by assumption)]
      exact Ends.ret (L' := dBlk qb (.slice (some ⟨b, o, none⟩) l.length c0) :: (H ++ dCaps l)) (res1 rfl rfl) ⟨by rw [he], by rw [he]; exact ⟨_, H, hs, rfl⟩⟩
    · refine Wp.seq ?_
      refine AnyH.start ((b1, .cells [.int .i64 s.1, .int .i64 s.2].toArray 31) :: (dBlk qb (.slice (some ⟨b, o, none⟩) l.length c0) :: (H ++ dCaps l))) 15 rfl ?_
      refine AnyH.take 0 rfl (by kernel_rfl) (by kernel_rfl) (by kernel_rfl) PF.pf rfl (pv_move rfl) rfl ?_
      first | refine AnyH.take 1 rfl (by kernel_rfl) (by kernel_rfl) (by kernel_rfl) PF.pf rfl (pv_nilCheck rfl) rfl ?_ | refine AnyH.take 1 rfl (by kernel_rfl) (by kernel_rfl) (by kernel_rfl) PF.pf rfl (pv_nilCheck_func rfl rfl) rfl ?_
      first | refine AnyH.take 2 rfl (by kernel_rfl) (by kernel_rfl) (by kernel_rfl) PF.pf rfl (pv_fieldAddr0 rfl rfl) rfl ?_ | refine AnyH.take 2 rfl (by kernel_rfl) (by kernel_rfl) (by kernel_rfl) PF.pf rfl (pv_fieldAddr rfl rfl) rfl ?_
      first | refine AnyH.take 3 rfl (by kernel_rfl) (by kernel_rfl) (by kernel_rfl) PF.pf rfl (pv_load rfl rfl rfl) rfl ?_ | refine AnyH.take 3 rfl (by kernel_rfl) (by kernel_rfl) (by kernel_rfl) PF.pf rfl (pv_load rfl rfl (by assumption)) rfl ?_
      refine AnyH.take 4 rfl (by kernel_rfl) (by kernel_rfl) (by kernel_rfl) PF.pf rfl (pv_move rfl) rfl ?_
      refine AnyH.take 5 rfl (by kernel_rfl) (by kernel_rfl) (by kernel_rfl) PF.pf rfl (pv_indexAddr (i := i) rfl rfl rfl (by omega)) rfl ?_
      first | refine AnyH.take 6 rfl (by kernel_rfl) (by kernel_rfl) (by kernel_rfl) PF.pf rfl (pv_fieldAddr0 rfl rfl) rfl ?_ | refine AnyH.take 6 rfl (by kernel_rfl) (by kernel_rfl) (by kernel_rfl) PF.pf rfl (pv_fieldAddr rfl rfl) rfl ?_
      refine AnyH.take 7 rfl (by kernel_rfl) (by kernel_rfl) (by kernel_rfl) PF.pf rfl (pv_load rfl rfl q2) rfl ?_
      first | refine AnyH.take 8 rfl (by kernel_rfl) (by kernel_rfl) (by kernel_rfl) PF.pf rfl (pv_fieldAddr0 rfl rfl) rfl ?_ | refine AnyH.take 8 rfl (by kernel_rfl) (by kernel_rfl) (by kernel_rfl) PF.pf rfl (pv_fieldAddr rfl rfl) rfl ?_
      first | refine AnyH.take 9 rfl (by kernel_rfl) (by kernel_rfl) (by kernel_rfl) PF.pf rfl (pv_load rfl rfl rfl) rfl ?_ | refine AnyH.take 9 rfl (by kernel_rfl) (by kernel_rfl) (by kernel_rfl) PF.pf rfl (pv_load rfl rfl (by assumption)) rfl ?_
      refine AnyH.take 10 rfl (by kernel_rfl) (by kernel_rfl) (by kernel_rfl) PF.pf rfl (pv_indexAddr (i := j) rfl (congrArg (fun z => some (Value.int .i64 z)) hj) rfl (by omega)) rfl ?_
      first | refine AnyH.take 11 rfl (by kernel_rfl) (by kernel_rfl) (by kernel_rfl) PF.pf rfl (pv_fieldAddr0 rfl rfl) rfl ?_ | refine AnyH.take 11 rfl (by kernel_rfl) (by kernel_rfl) (by kernel_rfl) PF.pf rfl (pv_fieldAddr rfl rfl) rfl ?_
      refine AnyH.take 12 rfl (by kernel_rfl) (by kernel_rfl) (by kernel_rfl) PF.pf rfl (pv_load rfl rfl (caps_reads0 hx).1) rfl ?_
      refine AnyH.take 13 rfl (by kernel_rfl) (by kernel_rfl) (by kernel_rfl) PF.pf rfl (pv_neq rfl rfl) rfl ?_
      refine AnyH.take 14 rfl (by kernel_rfl) (by kernel_rfl) (by kernel_rfl) PF.pf rfl (pv_assign rfl) rfl ?_
      refine AnyH.done (by kernel_rfl) ?_
      refine Ends.seq ?_
      first | refine Wp.cond_dect rfl (fun h3 => ?_) (fun h3 => ?_) | refine Wp.cond_t rfl (fun h3 => ?_) (fun h3 => ?_)
      · refine Wp.seq ?_
        refine Wp.region ?_
        refine Ops.pv (pv_assign rfl) rfl ?_
        refine Ops.nil ?_
        refine Ends.seq ?_
        refine Wp.ret ?_
        refine Ends.block_ret ?_
        refine Ends.then_ret ?_
        have he : dput l s c = (4, l) := by rw [dput_some h c, if_neg (by assumption), if_neg (by assumption), if_pos (by assumption)]
        exact Ends.ret (L' := dBlk qb (.slice (some ⟨b, o, none⟩) l.length c0) :: (H ++ dCaps l)) (res1 rfl rfl) ⟨by rw [he], by rw [he]; exact ⟨_, H, hs, rfl⟩⟩
      · refine Wp.skip ?_
        refine Ends.block_normal ?_
        refine Ends.seq ?_
        refine Wp.seq ?_
        refine AnyH.start ((b1, .cells [.int .i64 s.1, .int .i64 s.2].toArray 31) :: (b2, .cells c.cells.toArray 29) :: dBlk qb (.slice (some ⟨b, o, none⟩) l.length c0) :: H) 13 rfl ?_
        refine AnyH.take 0 rfl (by kernel_rfl) (by kernel_rfl) (by kernel_rfl) PF.pf rfl (pv_move rfl) rfl ?_
        first | refine AnyH.take 1 rfl (by kernel_rfl) (by kernel_rfl) (by kernel_rfl) PF.pf rfl (pv_nilCheck rfl) rfl ?_ | refine AnyH.take 1 rfl (by kernel_rfl) (by kernel_rfl) (by kernel_rfl) PF.pf rfl (pv_nilCheck_func rfl rfl) rfl ?_
        first | refine AnyH.take 2 rfl (by kernel_rfl) (by kernel_rfl) (by kernel_rfl) PF.pf rfl (pv_fieldAddr0 rfl rfl) rfl ?_ | refine AnyH.take 2 rfl (by kernel_rfl) (by kernel_rfl) (by kernel_rfl) PF.pf rfl (pv_fieldAddr rfl rfl) rfl ?_
        first | refine AnyH.take 3 rfl (by kernel_rfl) (by kernel_rfl) (by kernel_rfl) PF.pf rfl (pv_load rfl rfl rfl) rfl ?_ | refine AnyH.take 3 rfl (by kernel_rfl) (by kernel_rfl) (by kernel_rfl) PF.pf rfl (pv_load rfl rfl (by assumption)) rfl ?_
        refine AnyH.take 4 rfl (by kernel_rfl) (by kernel_rfl) (by kernel_rfl) PF.pf rfl (pv_move rfl) rfl ?_
        refine AnyH.take 5 rfl (by kernel_rfl) (by kernel_rfl) (by kernel_rfl) PF.pf rfl (pv_indexAddr (i := i) rfl rfl rfl (by omega)) rfl ?_
        first | refine AnyH.take 6 rfl (by kernel_rfl) (by kernel_rfl) (by kernel_rfl) PF.pf rfl (pv_fieldAddr0 rfl rfl) rfl ?_ | refine AnyH.take 6 rfl (by kernel_rfl) (by kernel_rfl) (by kernel_rfl) PF.pf rfl (pv_fieldAddr rfl rfl) rfl ?_
        refine AnyH.take 7 rfl (by kernel_rfl) (by kernel_rfl) (by kernel_rfl) PF.pf rfl (pv_load rfl rfl q2) rfl ?_
        first | refine AnyH.take 8 rfl (by kernel_rfl) (by kernel_rfl) (by kernel_rfl) PF.pf rfl (pv_fieldAddr0 rfl rfl) rfl ?_ | refine AnyH.take 8 rfl (by kernel_rfl) (by kernel_rfl) (by kernel_rfl) PF.pf rfl (pv_fieldAddr rfl rfl) rfl ?_
        first | refine AnyH.take 9 rfl (by kernel_rfl) (by kernel_rfl) (by kernel_rfl) PF.pf rfl (pv_load rfl rfl rfl) rfl ?_ | refine AnyH.take 9 rfl (by kernel_rfl) (by kernel_rfl) (by kernel_rfl) PF.pf rfl (pv_load rfl rfl (by assumption)) rfl ?_
        refine AnyH.take 10 rfl (by kernel_rfl) (by kernel_rfl) (by kernel_rfl) PF.pf rfl (pv_loadK [_, _, _, _, _, _] rfl rfl rfl ⟨rfl, rfl, rfl, rfl, rfl, rfl, trivial⟩) rfl ?_
        refine AnyH.take 11 rfl (by kernel_rfl) (by kernel_rfl) (by kernel_rfl) PF.pf rfl (pv_indexAddr (i := j) rfl (congrArg (fun z => some (Value.int .i64 z)) hj) rfl (by omega)) rfl ?_
        refine AnyH.one 12 (by kernel_rfl) ?_
        refine Turn.ef rfl rfl (ef_storeK rfl rfl rfl rfl) ?_ ?_
        · rintro _ _ ⟨rfl, rfl⟩; infer_instance
        rintro _ _ ⟨rfl, rfl⟩
        refine AnyH.done (by kernel_rfl) ?_
        refine Ends.seq ?_
        refine Wp.seq ?_
        refine Wp.region ?_
        refine Ops.pv (pv_assign rfl) rfl ?_
        refine Ops.nil ?_
        refine Ends.seq ?_
        refine Wp.ret ?_
        have he : dput l s c = (0, dsetC l s c) := by rw [dput_some h c, if_neg (by assumption), if_neg (by assumption), if_neg (by assumption)]
        exact Ends.ret (L' := dBlk qb (.slice (some ⟨b, o, none⟩) l.length c0) :: (H ++ dCaps (l.set i { d with caps := d.caps.set j c }))) (res1 rfl rfl) ⟨by rw [he], by rw [he]; exact (by have := DstH.setC (qb := qb) (c := c) hs hf hi hd; rw [hj, Int.toNat_natCast] at this; exact this)⟩

end Go.Proofs.Ytpoamckpdpkpoaa
