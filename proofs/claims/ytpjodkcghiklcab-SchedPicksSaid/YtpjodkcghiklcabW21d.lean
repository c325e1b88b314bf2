/- Walks of layer 21: the document's schedule answers as the plain functions say. No condition. -/
import Derived.Test.YtpjodkcghiklcabW21
set_option linter.unusedVariables false
set_option linter.unusedSimpArgs false
namespace Go.Proofs.Ytpjodkcghiklcab
open Go.SL

theorem tr_dputS {rb : Nat → Nat} {h : Nat → Hp} {L : Nat → Ones} (hR : DRdys L rb h) (hl : RdysL L (2 ^ 20)) {d : Nat} (hd : d < 4) (x k : Int) : Tr Try.prog 34 [.pointer (some ⟨rb d, 0, none⟩), .int .i64 x, .int .i64 k] (segs h 4) (fun u L' => u = .int .i64 (putE (L d) x k) ∧ ∃ H', DRdyH (putR (L d) x k) (rb d) H' ∧ L' = segs (fset h d H') 4) :=
  ((tr_drPut (rb d) (h d) (L d) (hR d hd) (hl d hd) x k).inSeg hd).post (by
    rintro v L1 ⟨L2, ⟨rfl, hs⟩, rfl⟩
    exact ⟨_, ⟨rfl, L2, hs, rfl⟩, segs_put hd⟩)
theorem tr_ddropS {rb : Nat → Nat} {h : Nat → Hp} {L : Nat → Ones} (hR : DRdys L rb h) (hl : RdysL L (2 ^ 20)) {d : Nat} (hd : d < 4) (hW : RdysW L) (x : Int) : Tr Try.prog 35 [.pointer (some ⟨rb d, 0, none⟩), .int .i64 x] (segs h 4) (fun u L' => u = .bool (inR (L d) x) ∧ ∃ H', DRdyH (dropR (L d) x) (rb d) H' ∧ L' = segs (fset h d H') 4) :=
  ((tr_drDrop (rb d) (h d) (L d) (hR d hd) (hl d hd) (hW d hd) x).inSeg hd).post (by
    rintro v L1 ⟨L2, ⟨rfl, hs⟩, rfl⟩
    exact ⟨_, ⟨rfl, L2, hs, rfl⟩, segs_put hd⟩)
theorem tr_dnextS {rb : Nat → Nat} {h : Nat → Hp} {L : Nat → Ones} (hR : DRdys L rb h) (hl : RdysL L (2 ^ 20)) {d : Nat} (hd : d < 4) : TrR Try.prog 36 [.pointer (some ⟨rb d, 0, none⟩)] (segs h 4) (.tuple #[.int .i64 (nextV (L d)), .bool (nextB (L d))]) :=
  (tr_drNext (rb d) (h d) (L d) (hR d hd) (hl d hd)).inSeg hd

theorem tr_dNow (qb : Nat) (H : Hp) (T : Ones) (e : Nat) (l : Int) (L : Nat → Ones) (hH : DSchH T (posT T e l) L qb H) (hA : At T e l) : TrR Try.prog 24 [.pointer (some ⟨qb, 0, none⟩)] (H) (.tuple #[.int .i64 e, .int .i64 l]) := by
  obtain ⟨v, K, w, J, rb, h, hs, hw, hR, rfl⟩ := hH
  obtain ⟨a, c, rfl⟩ := hs.form
  have hv := hs.view
  obtain ⟨wa, wc, rfl⟩ := hw.form
  have hvw := hw.view
  obtain ⟨b2, o2, cap2, cc2, T2, f2, hv2, hbw, hrw⟩ := hvw.open (by omega)
  cases hv2
  have hlt := hA.lt
  obtain ⟨b, o, cap, cc, T0, f, hv1, hbv, hr⟩ := hv.open (by omega)
  cases hv1
  obtain ⟨p1, p2, p3, p4⟩ := hA.pos_ge
  have hsl := sumT_le hA.ok (n := T.length) (Nat.le_refl _)
  have hT := hA.ok.1
  have hps : (tkd T e).2 - (posT T e l - sumT T e) = l := by unfold posT; omega
  refine Tr.enter Try.func24 rfl Try.ntmps24 rfl (fun W F => ?_)
  refine Wp.app ?_
  refine Wp.seq ?_
  refine Wp.region ?_
  refine Ops.pv (pv_assign rfl) rfl ?_
  refine Ops.pv (pv_assign rfl) rfl ?_
  refine Ops.nil ?_
  refine Ends.seq ?_
  refine Wp.seq ?_
  refine Wp.region ?_
  refine Ops.pv (pv_move rfl) rfl ?_
  first | refine Ops.pv (pv_nilCheck rfl) rfl ?_ | refine Ops.pv (pv_nilCheck_func rfl rfl) rfl ?_
  first | refine Ops.pv (pv_fieldAddr0 rfl rfl) rfl ?_ | refine Ops.pv (pv_fieldAddr rfl rfl) rfl ?_
  first | refine Ops.pv (pv_load rfl rfl rfl) rfl ?_ | refine Ops.pv (pv_load rfl rfl (by assumption)) rfl ?_
  refine Ops.pv (pv_assign rfl) rfl ?_
  refine Ops.nil ?_
  refine Ends.seq ?_
  refine Wp.seq ?_
  refine Wp.seq ?_
  refine Wp.region ?_
  refine Ops.pv (pv_assign rfl) rfl ?_
  refine Ops.setE (t := 4) (v := .int .i64 (posT T e l - sumT T 0)) rfl (by simp [sumT]) ?_
  refine Ops.nil ?_
  refine Ends.seq ?_
  refine Wp.block ?_
  refine Wp.loopK (σ := Nat) [(0, _)] (fun s => [(4, .int .i64 (posT T e l - sumT T s)), (5, .int .i64 s)]) (fun s => (qb, .cells [.slice (some ⟨b, o, none⟩) T.length c, .int .i64 (posT T e l), .slice (some ⟨b2, o2, none⟩) 4 wc].toArray 64) :: (K ++ (J ++ (segs h 4 ++ F)))) (fun s => s ≤ e) (fun s => e - s) 0 (Nat.zero_le _) ⟨rfl, trivial⟩ ⟨rfl, rfl, trivial⟩ (by intro w ho; (try dsimp only [List.nil_append, List.cons_append]); exact Drop.own ho) ?_
  rintro i KK hi hK
  dsimp only [List.cons_append, List.nil_append] at hK ⊢
  refine Wp.seq ?_
  refine Wp.seq ?_
  refine Wp.region ?_
  refine Ops.pv (pv_move rfl) rfl ?_
  refine Ops.pv (pv_move rfl) rfl ?_
  first | refine Ops.pv (pv_nilCheck rfl) rfl ?_ | refine Ops.pv (pv_nilCheck_func rfl rfl) rfl ?_
  first | refine Ops.pv (pv_fieldAddr0 rfl rfl) rfl ?_ | refine Ops.pv (pv_fieldAddr rfl rfl) rfl ?_
  first | refine Ops.pv (pv_load rfl rfl rfl) rfl ?_ | refine Ops.pv (pv_load rfl rfl (by assumption)) rfl ?_
  refine Ops.pv (pv_len_slice (T := 22) rfl rfl) rfl ?_
  refine Ops.pv (pv_lss rfl rfl) rfl ?_
  refine Ops.nil ?_
  refine Ends.seq ?_
  refine Wp.cond_dect rfl (fun h1 => ?_) (fun h1 => (by exfalso; omega))
  obtain ⟨q0, q1⟩ := one_read hr (tkd_get (show i < T.length by omega))
  have hst : sumT T (i + 1) = sumT T i + (tkd T i).2 := rfl
  have htk := (hA.ok.2 _ (List.mem_of_getElem? (tkd_get (show i < T.length by omega)))).2
  have hm0 := sumT_nonneg hA.ok (n := i) (by omega)
  have hm1 := sumT_mono hA.ok (n := i + 1) (m := T.length) (by omega) (Nat.le_refl _)
  refine Wp.skip ?_
  refine Ends.seq ?_
  refine Wp.seq ?_
  refine Wp.block ?_
  refine Wp.seq ?_
  refine Wp.seq ?_
  refine Wp.region ?_
  refine Ops.pv (pv_move rfl) rfl ?_
  refine Ops.pv (pv_move rfl) rfl ?_
  first | refine Ops.pv (pv_nilCheck rfl) rfl ?_ | refine Ops.pv (pv_nilCheck_func rfl rfl) rfl ?_
  first | refine Ops.pv (pv_fieldAddr0 rfl rfl) rfl ?_ | refine Ops.pv (pv_fieldAddr rfl rfl) rfl ?_
  first | refine Ops.pv (pv_load rfl rfl rfl) rfl ?_ | refine Ops.pv (pv_load rfl rfl (by assumption)) rfl ?_
  refine Ops.pv (pv_move rfl) rfl ?_
  refine Ops.pv (pv_indexAddr rfl rfl rfl (by omega)) rfl ?_
  first | refine Ops.pv (pv_fieldAddr0 rfl rfl) rfl ?_ | refine Ops.pv (pv_fieldAddr rfl rfl) rfl ?_
  first | refine Ops.pv (pv_load rfl rfl rfl) rfl ?_ | refine Ops.pv (pv_load rfl rfl (by assumption)) rfl ?_
  refine Ops.pv (pv_lss rfl rfl) rfl ?_
  refine Ops.nil ?_
  refine Ends.seq ?_
  first | refine Wp.cond_dect rfl (fun h2 => ?_) (fun h2 => ?_) | refine Wp.cond_t rfl (fun h2 => ?_) (fun h2 => ?_)
  · refine Wp.seq ?_
    refine AnyH.startL 13 rfl ?_
    refine AnyH.take 0 rfl (by kernel_rfl) (by kernel_rfl) (by kernel_rfl) PF.pf rfl (pv_move rfl) rfl ?_
    refine AnyH.take 1 rfl (by kernel_rfl) (by kernel_rfl) (by kernel_rfl) PF.pf rfl (pv_move rfl) rfl ?_
    first | refine AnyH.take 2 rfl (by kernel_rfl) (by kernel_rfl) (by kernel_rfl) PF.pf rfl (pv_nilCheck rfl) rfl ?_ | refine AnyH.take 2 rfl (by kernel_rfl) (by kernel_rfl) (by kernel_rfl) PF.pf rfl (pv_nilCheck_func rfl rfl) rfl ?_
    first | refine AnyH.take 3 rfl (by kernel_rfl) (by kernel_rfl) (by kernel_rfl) PF.pf rfl (pv_fieldAddr0 rfl rfl) rfl ?_ | refine AnyH.take 3 rfl (by kernel_rfl) (by kernel_rfl) (by kernel_rfl) PF.pf rfl (pv_fieldAddr rfl rfl) rfl ?_
    first | refine AnyH.take 4 rfl (by kernel_rfl) (by kernel_rfl) (by kernel_rfl) PF.pf rfl (pv_load rfl rfl rfl) rfl ?_ | refine AnyH.take 4 rfl (by kernel_rfl) (by kernel_rfl) (by kernel_rfl) PF.pf rfl (pv_load rfl rfl (by assumption)) rfl ?_
    refine AnyH.take 5 rfl (by kernel_rfl) (by kernel_rfl) (by kernel_rfl) PF.pf rfl (pv_move rfl) rfl ?_
    refine AnyH.take 6 rfl (by kernel_rfl) (by kernel_rfl) (by kernel_rfl) PF.pf rfl (pv_indexAddr rfl rfl rfl (by omega)) rfl ?_
    first | refine AnyH.take 7 rfl (by kernel_rfl) (by kernel_rfl) (by kernel_rfl) PF.pf rfl (pv_fieldAddr0 rfl rfl) rfl ?_ | refine AnyH.take 7 rfl (by kernel_rfl) (by kernel_rfl) (by kernel_rfl) PF.pf rfl (pv_fieldAddr rfl rfl) rfl ?_
    first | refine AnyH.take 8 rfl (by kernel_rfl) (by kernel_rfl) (by kernel_rfl) PF.pf rfl (pv_load rfl rfl rfl) rfl ?_ | refine AnyH.take 8 rfl (by kernel_rfl) (by kernel_rfl) (by kernel_rfl) PF.pf rfl (pv_load rfl rfl (by assumption)) rfl ?_
    refine AnyH.take 9 rfl (by kernel_rfl) (by kernel_rfl) (by kernel_rfl) PF.pf rfl (pv_move rfl) rfl ?_
    refine AnyH.take 10 rfl (by kernel_rfl) (by kernel_rfl) (by kernel_rfl) PF.pf rfl (pv_sub rfl rfl (w64 (by omega) (by omega))) rfl ?_
    refine AnyH.take 11 rfl (by kernel_rfl) (by kernel_rfl) (by kernel_rfl) PF.pf rfl (pv_assign rfl) rfl ?_
    refine AnyH.take 12 rfl (by kernel_rfl) (by kernel_rfl) (by kernel_rfl) PF.pf rfl (pv_assign rfl) rfl ?_
    refine AnyH.done (by kernel_rfl) ?_
    refine Ends.seq ?_
    refine Wp.ret ?_
    refine Ends.then_ret ?_
    refine Ends.block_ret ?_
    refine Ends.then_ret ?_
    refine Ends.then_ret ?_
    refine Ends.block_ret ?_
    refine Ends.then_ret ?_
    have hie : i = e := by
      rcases Nat.lt_or_ge i e with h9 | h9
      · exfalso; have := sumT_mono hA.ok (n := i + 1) (m := e) (by omega) (by omega); omega
      · omega
    subst hie
    exact Ends.ret (res2 rfl rfl rfl) ⟨by rw [hps], rfl⟩
  · refine Wp.skip ?_
    refine Ends.seq ?_
    refine Wp.region ?_
    refine Ops.pv (pv_move rfl) rfl ?_
    refine Ops.pv (pv_move rfl) rfl ?_
    first | refine Ops.pv (pv_nilCheck rfl) rfl ?_ | refine Ops.pv (pv_nilCheck_func rfl rfl) rfl ?_
    first | refine Ops.pv (pv_fieldAddr0 rfl rfl) rfl ?_ | refine Ops.pv (pv_fieldAddr rfl rfl) rfl ?_
    first | refine Ops.pv (pv_load rfl rfl rfl) rfl ?_ | refine Ops.pv (pv_load rfl rfl (by assumption)) rfl ?_
    refine Ops.pv (pv_move rfl) rfl ?_
    refine Ops.pv (pv_indexAddr rfl rfl rfl (by omega)) rfl ?_
    first | refine Ops.pv (pv_fieldAddr0 rfl rfl) rfl ?_ | refine Ops.pv (pv_fieldAddr rfl rfl) rfl ?_
    first | refine Ops.pv (pv_load rfl rfl rfl) rfl ?_ | refine Ops.pv (pv_load rfl rfl (by assumption)) rfl ?_
    first | refine Ops.pv (pv_sub rfl rfl (w64 (by omega) (by omega))) rfl ?_ | refine Ops.pv (pv_sub rfl rfl rfl) rfl ?_
    refine Ops.pv (pv_assign rfl) rfl ?_
    refine Ops.setE (t := 4) (v := .int .i64 (posT T e l - sumT T (i + 1))) rfl (by congr 1; omega) ?_
    refine Ops.nil ?_
    refine Ends.block_normal ?_
    refine Ends.seq ?_
    refine Wp.region ?_
    refine Ops.pv (pv_move rfl) rfl ?_
    first | refine Ops.pv (pv_add rfl rfl (w64 (by omega) (by omega))) rfl ?_ | refine Ops.pv (pv_add rfl rfl rfl) rfl ?_
    refine Ops.pv (pv_assign rfl) rfl ?_
    refine Ops.nil ?_
    refine Ends.goes ?_
    have hie : i ≠ e := fun h9 => by subst h9; omega
    refine Goes.back (hK (i + 1) (by omega) (by omega)) ⟨rfl, rfl, rfl, trivial⟩

theorem tr_dDomain (qb : Nat) (H : Hp) (T : Ones) (e : Nat) (l : Int) (L : Nat → Ones) (hH : DSchH T (posT T e l) L qb H) (hA : At T e l) : TrR Try.prog 25 [.pointer (some ⟨qb, 0, none⟩)] (H) (.int .i64 (tkd T e).1) := by
  obtain ⟨v, K, w, J, rb, h, hs, hw, hR, rfl⟩ := hH
  obtain ⟨a, c, rfl⟩ := hs.form
  have hv := hs.view
  obtain ⟨wa, wc, rfl⟩ := hw.form
  have hvw := hw.view
  obtain ⟨b2, o2, cap2, cc2, T2, f2, hv2, hbw, hrw⟩ := hvw.open (by omega)
  cases hv2
  have hlt := hA.lt
  obtain ⟨b, o, cap, cc, T0, f, hv1, hbv, hr⟩ := hv.open (by omega)
  cases hv1
  obtain ⟨q0, q1⟩ := one_read hr (tkd_get hlt)
  refine Tr.enter Try.func25 rfl Try.ntmps25 rfl (fun W F => ?_)
  refine Wp.app ?_
  refine Wp.seq ?_
  refine Wp.region ?_
  refine Ops.pv (pv_assign rfl) rfl ?_
  refine Ops.nil ?_
  refine Ends.seq ?_
  refine Wp.seq ?_
  refine Wp.region ?_
  refine Ops.pv (pv_move rfl) rfl ?_
  refine Ops.ef rfl (ef_callr (tr_dNow qb _ T e l L ⟨_, K, _, J, rb, h, hs, hw, hR, rfl⟩ hA) rfl rfl) ?_
  rintro _ _ ⟨rfl, rfl⟩
  refine Ops.pv (pv_move rfl) rfl ?_
  refine Ops.pv (pv_extract rfl rfl) rfl ?_
  refine Ops.pv (pv_extract rfl rfl) rfl ?_
  refine Ops.pv (pv_assign rfl) rfl ?_
  refine Ops.pv (pv_assign rfl) rfl ?_
  refine Ops.nil ?_
  refine Ends.seq ?_
  refine Wp.seq ?_
  refine Wp.region ?_
  refine Ops.pv (pv_move rfl) rfl ?_
  first | refine Ops.pv (pv_nilCheck rfl) rfl ?_ | refine Ops.pv (pv_nilCheck_func rfl rfl) rfl ?_
  first | refine Ops.pv (pv_fieldAddr0 rfl rfl) rfl ?_ | refine Ops.pv (pv_fieldAddr rfl rfl) rfl ?_
  first | refine Ops.pv (pv_load rfl rfl rfl) rfl ?_ | refine Ops.pv (pv_load rfl rfl (by assumption)) rfl ?_
  refine Ops.pv (pv_move rfl) rfl ?_
  refine Ops.pv (pv_indexAddr (i := e) rfl rfl rfl hlt) rfl ?_
  first | refine Ops.pv (pv_fieldAddr0 rfl rfl) rfl ?_ | refine Ops.pv (pv_fieldAddr rfl rfl) rfl ?_
  refine Ops.pv (pv_load rfl rfl q0) rfl ?_
  refine Ops.pv (pv_assign rfl) rfl ?_
  refine Ops.nil ?_
  refine Ends.seq ?_
  refine Wp.ret ?_
  exact Ends.ret (res1 rfl rfl) ⟨rfl, rfl⟩

theorem tr_dTick (qb : Nat) (H : Hp) (T : Ones) (e : Nat) (l : Int) (L : Nat → Ones) (hH : DSchH T (posT T e l) L qb H) (hA : At T e l) : Tr Try.prog 22 [.pointer (some ⟨qb, 0, none⟩)] (H) (fun u L' => u = .bool (nxB l) ∧ DSchH T (posT T (nxE T e l) (nxL T e l)) L qb L') := by
  obtain ⟨v, K, w, J, rb, h, hs, hw, hR, rfl⟩ := hH
  obtain ⟨a, c, rfl⟩ := hs.form
  have hv := hs.view
  obtain ⟨wa, wc, rfl⟩ := hw.form
  have hvw := hw.view
  obtain ⟨b2, o2, cap2, cc2, T2, f2, hv2, hbw, hrw⟩ := hvw.open (by omega)
  cases hv2
  have hlt := hA.lt
  obtain ⟨b, o, cap, cc, T0, f, hv1, hbv, hr⟩ := hv.open (by omega)
  cases hv1
  obtain ⟨p1, p2, p3, p4⟩ := hA.pos_ge
  have hsl := sumT_le hA.ok (n := T.length) (Nat.le_refl _)
  have hT := hA.ok.1
  have hps : (tkd T e).2 - (posT T e l - sumT T e) = l := by unfold posT; omega
  have hl0 := hA.pos
  have hz : sumT T T.length ≠ 0 := by omega
  refine Tr.enter Try.func22 rfl Try.ntmps22 rfl (fun W F => ?_)
  refine Wp.app ?_
  refine Wp.seq ?_
  refine Wp.region ?_
  refine Ops.pv (pv_assign rfl) rfl ?_
  refine Ops.nil ?_
  refine Ends.seq ?_
  refine Wp.seq ?_
  refine Wp.region ?_
  refine Ops.pv (pv_assign rfl) rfl ?_
  refine Ops.nil ?_
  refine Ends.seq ?_
  refine Wp.seq ?_
  refine Wp.seq ?_
  refine Wp.region ?_
  refine Ops.pv (pv_assign rfl) rfl ?_
  refine Ops.nil ?_
  refine Ends.seq ?_
  refine Wp.block ?_
  refine Wp.loopK (σ := Nat) [(0, _)] (fun s => [(3, .int .i64 (sumT T s)), (4, .int .i64 s)]) (fun s => (qb, .cells [.slice (some ⟨b, o, none⟩) T.length c, .int .i64 (posT T e l), .slice (some ⟨b2, o2, none⟩) 4 wc].toArray 64) :: (K ++ (J ++ (segs h 4 ++ F)))) (fun s => s ≤ T.length) (fun s => T.length - s) 0 (Nat.zero_le _) ⟨rfl, trivial⟩ ⟨rfl, rfl, trivial⟩ (by intro w ho; (try dsimp only [List.nil_append, List.cons_append]); exact Drop.own ho) ?_
  rintro i KK hi hK
  dsimp only [List.cons_append, List.nil_append] at hK ⊢
  refine Wp.seq ?_
  refine Wp.seq ?_
  refine Wp.region ?_
  refine Ops.pv (pv_move rfl) rfl ?_
  refine Ops.pv (pv_move rfl) rfl ?_
  first | refine Ops.pv (pv_nilCheck rfl) rfl ?_ | refine Ops.pv (pv_nilCheck_func rfl rfl) rfl ?_
  first | refine Ops.pv (pv_fieldAddr0 rfl rfl) rfl ?_ | refine Ops.pv (pv_fieldAddr rfl rfl) rfl ?_
  first | refine Ops.pv (pv_load rfl rfl rfl) rfl ?_ | refine Ops.pv (pv_load rfl rfl (by assumption)) rfl ?_
  refine Ops.pv (pv_len_slice (T := 22) rfl rfl) rfl ?_
  refine Ops.pv (pv_lss rfl rfl) rfl ?_
  refine Ops.nil ?_
  refine Ends.seq ?_
  first | refine Wp.cond_dect rfl (fun h1 => ?_) (fun h1 => ?_) | refine Wp.cond_t rfl (fun h1 => ?_) (fun h1 => ?_)
  · obtain ⟨q0, q1⟩ := one_read hr (tkd_get (show i < T.length by omega))
    have hst : sumT T (i + 1) = sumT T i + (tkd T i).2 := rfl
    have htk := (hA.ok.2 _ (List.mem_of_getElem? (tkd_get (show i < T.length by omega)))).2
    have hm0 := sumT_nonneg hA.ok (n := i) (by omega)
    have hm1 := sumT_mono hA.ok (n := i + 1) (m := T.length) (by omega) (Nat.le_refl _)
    refine Wp.skip ?_
    refine Ends.seq ?_
    refine Wp.seq ?_
    refine Wp.block ?_
    refine Wp.region ?_
    refine Ops.pv (pv_move rfl) rfl ?_
    refine Ops.pv (pv_move rfl) rfl ?_
    first | refine Ops.pv (pv_nilCheck rfl) rfl ?_ | refine Ops.pv (pv_nilCheck_func rfl rfl) rfl ?_
    first | refine Ops.pv (pv_fieldAddr0 rfl rfl) rfl ?_ | refine Ops.pv (pv_fieldAddr rfl rfl) rfl ?_
    first | refine Ops.pv (pv_load rfl rfl rfl) rfl ?_ | refine Ops.pv (pv_load rfl rfl (by assumption)) rfl ?_
    refine Ops.pv (pv_move rfl) rfl ?_
    refine Ops.pv (pv_indexAddr rfl rfl rfl (by omega)) rfl ?_
    first | refine Ops.pv (pv_fieldAddr0 rfl rfl) rfl ?_ | refine Ops.pv (pv_fieldAddr rfl rfl) rfl ?_
    first | refine Ops.pv (pv_load rfl rfl rfl) rfl ?_ | refine Ops.pv (pv_load rfl rfl (by assumption)) rfl ?_
    first | refine Ops.pv (pv_add rfl rfl (w64 (by omega) (by omega))) rfl ?_ | refine Ops.pv (pv_add rfl rfl rfl) rfl ?_
    refine Ops.pv (pv_assign rfl) rfl ?_
    refine Ops.nil ?_
    refine Ends.block_normal ?_
    refine Ends.seq ?_
    refine Wp.region ?_
    refine Ops.pv (pv_move rfl) rfl ?_
    first | refine Ops.pv (pv_add rfl rfl (w64 (by omega) (by omega))) rfl ?_ | refine Ops.pv (pv_add rfl rfl rfl) rfl ?_
    refine Ops.pv (pv_assign rfl) rfl ?_
    refine Ops.nil ?_
    refine Ends.goes ?_
    refine Goes.back (hK (i + 1) (by omega) (by omega)) ⟨rfl, rfl, rfl, trivial⟩
  · refine Wp.exit ?_
    refine Ends.then_exit ?_
    refine Ends.then_exit ?_
    refine Ends.block_hit ?_
    refine Ends.seq ?_
    refine Wp.seq ?_
    refine Wp.region ?_
    obtain rfl : i = T.length := by omega
    refine Ops.pv (pv_move rfl) rfl ?_
    refine Ops.ef rfl (ef_callr (tr_dNow qb _ T e l L ⟨_, K, _, J, rb, h, hs, hw, hR, rfl⟩ hA) rfl rfl) ?_
    rintro _ _ ⟨rfl, rfl⟩
    refine Ops.pv (pv_move rfl) rfl ?_
    refine Ops.pv (pv_extract rfl rfl) rfl ?_
    refine Ops.pv (pv_extract rfl rfl) rfl ?_
    refine Ops.pv (pv_assign rfl) rfl ?_
    refine Ops.pv (pv_assign rfl) rfl ?_
    refine Ops.nil ?_
    refine Ends.seq ?_
    refine Wp.seq ?_
    refine Wp.region ?_
    refine Ops.pv (pv_move rfl) rfl ?_
    refine Ops.pv (pv_move rfl) rfl ?_
    first | refine Ops.pv (pv_nilCheck rfl) rfl ?_ | refine Ops.pv (pv_nilCheck_func rfl rfl) rfl ?_
    first | refine Ops.pv (pv_fieldAddr0 rfl rfl) rfl ?_ | refine Ops.pv (pv_fieldAddr rfl rfl) rfl ?_
    first | refine Ops.pv (pv_load rfl rfl rfl) rfl ?_ | refine Ops.pv (pv_load rfl rfl (by assumption)) rfl ?_
    first | refine Ops.pv (pv_add rfl rfl (w64 (by omega) (by omega))) rfl ?_ | refine Ops.pv (pv_add rfl rfl rfl) rfl ?_
    refine Ops.pv (pv_move rfl) rfl ?_
    refine Ops.pv (pv_rem rfl rfl hz rfl) rfl ?_
    first | refine Ops.pv (pv_nilCheck rfl) rfl ?_ | refine Ops.pv (pv_nilCheck_func rfl rfl) rfl ?_
    first | refine Ops.pv (pv_fieldAddr0 rfl rfl) rfl ?_ | refine Ops.pv (pv_fieldAddr rfl rfl) rfl ?_
    refine Ops.ef rfl (ef_store1 rfl rfl (by first | rfl | assumption) (by first | rfl | assumption)) ?_
    rintro _ _ ⟨rfl, rfl⟩
    refine Ops.nil ?_
    refine Ends.seq ?_
    refine Wp.seq ?_
    refine Wp.region ?_
    refine Ops.pv (pv_move rfl) rfl ?_
    refine Ops.pv (pv_eql rfl rfl) rfl ?_
    refine Ops.pv (pv_assign rfl) rfl ?_
    refine Ops.nil ?_
    refine Ends.seq ?_
    refine Wp.ret ?_
    exact Ends.ret (L' := (qb, .cells [.slice (some ⟨b, o, none⟩) T.length c, .int .i64 ((posT T e l + 1).tmod (sumT T T.length)), .slice (some ⟨b2, o2, none⟩) 4 wc].toArray 64) :: (K ++ (J ++ segs h 4))) (res1 rfl rfl) ⟨by rw [nxB]; congr 1; exact decide_eq_decide.2 (by omega), _, K, _, J, rb, h, hs, hw, hR, by rw [hA.pos_next]⟩

theorem tr_dFind (qb : Nat) (H : Hp) (T : Ones) (N : Int) (L : Nat → Ones) (hH : DSchH T N L qb H) (hW : RdysW L) (hl : RdysL L (2 ^ 20)) (x : Int) : TrR Try.prog 33 [.pointer (some ⟨qb, 0, none⟩), .int .i64 x] (H) (.tuple #[.int .i64 (fdD L x), .int .i64 (fdK L x), .bool (fdB L x)]) := by
  obtain ⟨v, K, w, J, rb, h, hs, hw, hR, rfl⟩ := hH
  obtain ⟨a, c, rfl⟩ := hs.form
  have hv := hs.view
  obtain ⟨wa, wc, rfl⟩ := hw.form
  have hvw := hw.view
  obtain ⟨b2, o2, cap2, cc2, T2, f2, hv2, hbw, hrw⟩ := hvw.open (by omega)
  cases hv2
  refine Tr.enter Try.func33 rfl Try.ntmps33 rfl (fun W F => ?_)
  refine Wp.app ?_
  refine Wp.seq ?_
  refine Wp.region ?_
  refine Ops.pv (pv_assign rfl) rfl ?_
  refine Ops.pv (pv_assign rfl) rfl ?_
  refine Ops.pv (pv_assign rfl) rfl ?_
  refine Ops.nil ?_
  refine Ends.seq ?_
  refine Wp.seq ?_
  refine Wp.seq ?_
  refine Wp.region ?_
  refine Ops.pv (pv_assign rfl) rfl ?_
  refine Ops.nil ?_
  refine Ends.seq ?_
  refine Wp.block ?_
  refine Wp.loopK (σ := Nat) [(0, _), (1, _)] (fun s => [(7, .int .i64 s)]) (fun s => (qb, .cells [.slice a T.length c, .int .i64 N, .slice (some ⟨b2, o2, none⟩) 4 wc].toArray 64) :: (K ++ (J ++ (segs h 4 ++ F)))) (fun s => s ≤ 4 ∧ ∀ j, j < s → levOf (L j) x = none) (fun s => 4 - s) 0 ⟨Nat.zero_le _, fun j hj => absurd hj (Nat.not_lt_zero j)⟩ ⟨rfl, rfl, trivial⟩ ⟨rfl, trivial⟩ (by intro w ho; (try dsimp only [List.nil_append, List.cons_append]); exact Drop.own ho) ?_
  rintro d KK ⟨hd, hn⟩ hK
  dsimp only [List.cons_append, List.nil_append] at hK ⊢
  refine Wp.seq ?_
  refine Wp.seq ?_
  refine Wp.region ?_
  refine Ops.pv (pv_move rfl) rfl ?_
  refine Ops.pv (pv_lss rfl rfl) rfl ?_
  refine Ops.nil ?_
  refine Ends.seq ?_
  first | refine Wp.cond_dect rfl (fun h1 => ?_) (fun h1 => ?_) | refine Wp.cond_t rfl (fun h1 => ?_) (fun h1 => ?_)
  · have hd4 : d < 4 := by omega
    have hptr := ptr_nth hrw hd4
    obtain ⟨lv, LK, hls, eH⟩ := hR d hd4
    obtain ⟨la, lc, rfl⟩ := hls.form
    have hlb : Blk (segs h 4) (rb d) (.cells [.slice la (L d).length lc].toArray 68) := ⟨segs_mem hd4 (by rw [eH]; simp)⟩
    have hlv := hls.view.mono (G' := segs h 4) (fun p hp => segs_mem hd4 (by rw [eH]; simp [hp]))
    have hll := hl d hd4
    refine Wp.skip ?_
    refine Ends.seq ?_
    refine Wp.seq ?_
    refine Wp.block ?_
    refine Wp.seq ?_
    refine Wp.region ?_
    refine Ops.pv (pv_assign rfl) rfl ?_
    refine Ops.nil ?_
    refine Ends.seq ?_
    refine Wp.block ?_
    refine Wp.loopK (σ := Nat) [(0, _), (1, _), (7, _)] (fun s => [(8, .int .i64 s)]) (fun s => (qb, .cells [.slice a T.length c, .int .i64 N, .slice (some ⟨b2, o2, none⟩) 4 wc].toArray 64) :: (K ++ (J ++ (segs h 4 ++ F)))) (fun s => s ≤ (L d).length ∧ ∀ j : Nat, j < s → ∀ k', (L d)[j]? ≠ some (x, k')) (fun s => (L d).length - s) 0 ⟨Nat.zero_le _, fun j hj => absurd hj (Nat.not_lt_zero j)⟩ ⟨rfl, rfl, rfl, trivial⟩ ⟨rfl, trivial⟩ (by intro w ho; (try dsimp only [List.nil_append, List.cons_append]); exact Drop.own ho) ?_
    rintro i KK ⟨hi, hm⟩ hK1
    dsimp only [List.cons_append, List.nil_append] at hK1 ⊢
    refine Wp.seq ?_
    refine Wp.seq ?_
    refine Wp.region ?_
    refine Ops.pv (pv_move rfl) rfl ?_
    refine Ops.pv (pv_move rfl) rfl ?_
    first | refine Ops.pv (pv_nilCheck rfl) rfl ?_ | refine Ops.pv (pv_nilCheck_func rfl rfl) rfl ?_
    first | refine Ops.pv (pv_fieldAddr0 rfl rfl) rfl ?_ | refine Ops.pv (pv_fieldAddr rfl rfl) rfl ?_
    first | refine Ops.pv (pv_load rfl rfl rfl) rfl ?_ | refine Ops.pv (pv_load rfl rfl (by assumption)) rfl ?_
    refine Ops.pv (pv_move rfl) rfl ?_
    refine Ops.pv (pv_indexAddr rfl rfl rfl (by omega)) rfl ?_
    first | refine Ops.pv (pv_load rfl rfl rfl) rfl ?_ | refine Ops.pv (pv_load rfl rfl (by assumption)) rfl ?_
    first | refine Ops.pv (pv_nilCheck rfl) rfl ?_ | refine Ops.pv (pv_nilCheck_func rfl rfl) rfl ?_
    first | refine Ops.pv (pv_fieldAddr0 rfl rfl) rfl ?_ | refine Ops.pv (pv_fieldAddr rfl rfl) rfl ?_
    first | refine Ops.pv (pv_load rfl rfl rfl) rfl ?_ | refine Ops.pv (pv_load rfl rfl (by assumption)) rfl ?_
    refine Ops.pv (pv_len_slice (T := 66) rfl rfl) rfl ?_
    refine Ops.pv (pv_lss rfl rfl) rfl ?_
    refine Ops.nil ?_
    refine Ends.seq ?_
    first | refine Wp.cond_dect rfl (fun h2 => ?_) (fun h2 => ?_) | refine Wp.cond_t rfl (fun h2 => ?_) (fun h2 => ?_)
    · obtain ⟨b, o, cap, cc, T0, f, hv1, hbv, hr⟩ := hlv.open (by omega)
      cases hv1
      obtain ⟨y, hy⟩ : ∃ y, (L d)[i]? = some y := ⟨_, List.getElem?_eq_getElem (by omega)⟩
      obtain ⟨q0, q1⟩ := one_read hr hy
      refine Wp.skip ?_
      refine Ends.seq ?_
      refine Wp.seq ?_
      refine Wp.block ?_
      refine Wp.seq ?_
      refine Wp.region ?_
      refine Ops.pv (pv_move rfl) rfl ?_
      first | refine Ops.pv (pv_nilCheck rfl) rfl ?_ | refine Ops.pv (pv_nilCheck_func rfl rfl) rfl ?_
      first | refine Ops.pv (pv_fieldAddr0 rfl rfl) rfl ?_ | refine Ops.pv (pv_fieldAddr rfl rfl) rfl ?_
      first | refine Ops.pv (pv_load rfl rfl rfl) rfl ?_ | refine Ops.pv (pv_load rfl rfl (by assumption)) rfl ?_
      refine Ops.pv (pv_move rfl) rfl ?_
      refine Ops.pv (pv_indexAddr rfl rfl rfl (by omega)) rfl ?_
      first | refine Ops.pv (pv_load rfl rfl rfl) rfl ?_ | refine Ops.pv (pv_load rfl rfl (by assumption)) rfl ?_
      first | refine Ops.pv (pv_nilCheck rfl) rfl ?_ | refine Ops.pv (pv_nilCheck_func rfl rfl) rfl ?_
      first | refine Ops.pv (pv_fieldAddr0 rfl rfl) rfl ?_ | refine Ops.pv (pv_fieldAddr rfl rfl) rfl ?_
      first | refine Ops.pv (pv_load rfl rfl rfl) rfl ?_ | refine Ops.pv (pv_load rfl rfl (by assumption)) rfl ?_
      refine Ops.pv (pv_move rfl) rfl ?_
      refine Ops.pv (pv_indexAddr rfl rfl rfl (by omega)) rfl ?_
      first | refine Ops.pv (pv_fieldAddr0 rfl rfl) rfl ?_ | refine Ops.pv (pv_fieldAddr rfl rfl) rfl ?_
      first | refine Ops.pv (pv_load rfl rfl rfl) rfl ?_ | refine Ops.pv (pv_load rfl rfl (by assumption)) rfl ?_
      refine Ops.pv (pv_move rfl) rfl ?_
      refine Ops.pv (pv_eql rfl rfl) rfl ?_
      refine Ops.nil ?_
      refine Ends.seq ?_
      first | refine Wp.cond_dect rfl (fun h3 => ?_) (fun h3 => ?_) | refine Wp.cond_t rfl (fun h3 => ?_) (fun h3 => ?_)
      · refine Wp.seq ?_
        refine AnyH.startL 18 rfl ?_
        refine AnyH.take 0 rfl (by kernel_rfl) (by kernel_rfl) (by kernel_rfl) PF.pf rfl (pv_move rfl) rfl ?_
        refine AnyH.take 1 rfl (by kernel_rfl) (by kernel_rfl) (by kernel_rfl) PF.pf rfl (pv_move rfl) rfl ?_
        first | refine AnyH.take 2 rfl (by kernel_rfl) (by kernel_rfl) (by kernel_rfl) PF.pf rfl (pv_nilCheck rfl) rfl ?_ | refine AnyH.take 2 rfl (by kernel_rfl) (by kernel_rfl) (by kernel_rfl) PF.pf rfl (pv_nilCheck_func rfl rfl) rfl ?_
        first | refine AnyH.take 3 rfl (by kernel_rfl) (by kernel_rfl) (by kernel_rfl) PF.pf rfl (pv_fieldAddr0 rfl rfl) rfl ?_ | refine AnyH.take 3 rfl (by kernel_rfl) (by kernel_rfl) (by kernel_rfl) PF.pf rfl (pv_fieldAddr rfl rfl) rfl ?_
        first | refine AnyH.take 4 rfl (by kernel_rfl) (by kernel_rfl) (by kernel_rfl) PF.pf rfl (pv_load rfl rfl rfl) rfl ?_ | refine AnyH.take 4 rfl (by kernel_rfl) (by kernel_rfl) (by kernel_rfl) PF.pf rfl (pv_load rfl rfl (by assumption)) rfl ?_
        refine AnyH.take 5 rfl (by kernel_rfl) (by kernel_rfl) (by kernel_rfl) PF.pf rfl (pv_move rfl) rfl ?_
        refine AnyH.take 6 rfl (by kernel_rfl) (by kernel_rfl) (by kernel_rfl) PF.pf rfl (pv_indexAddr rfl rfl rfl (by omega)) rfl ?_
        first | refine AnyH.take 7 rfl (by kernel_rfl) (by kernel_rfl) (by kernel_rfl) PF.pf rfl (pv_load rfl rfl rfl) rfl ?_ | refine AnyH.take 7 rfl (by kernel_rfl) (by kernel_rfl) (by kernel_rfl) PF.pf rfl (pv_load rfl rfl (by assumption)) rfl ?_
        first | refine AnyH.take 8 rfl (by kernel_rfl) (by kernel_rfl) (by kernel_rfl) PF.pf rfl (pv_nilCheck rfl) rfl ?_ | refine AnyH.take 8 rfl (by kernel_rfl) (by kernel_rfl) (by kernel_rfl) PF.pf rfl (pv_nilCheck_func rfl rfl) rfl ?_
        first | refine AnyH.take 9 rfl (by kernel_rfl) (by kernel_rfl) (by kernel_rfl) PF.pf rfl (pv_fieldAddr0 rfl rfl) rfl ?_ | refine AnyH.take 9 rfl (by kernel_rfl) (by kernel_rfl) (by kernel_rfl) PF.pf rfl (pv_fieldAddr rfl rfl) rfl ?_
        first | refine AnyH.take 10 rfl (by kernel_rfl) (by kernel_rfl) (by kernel_rfl) PF.pf rfl (pv_load rfl rfl rfl) rfl ?_ | refine AnyH.take 10 rfl (by kernel_rfl) (by kernel_rfl) (by kernel_rfl) PF.pf rfl (pv_load rfl rfl (by assumption)) rfl ?_
        refine AnyH.take 11 rfl (by kernel_rfl) (by kernel_rfl) (by kernel_rfl) PF.pf rfl (pv_move rfl) rfl ?_
        refine AnyH.take 12 rfl (by kernel_rfl) (by kernel_rfl) (by kernel_rfl) PF.pf rfl (pv_indexAddr rfl rfl rfl (by omega)) rfl ?_
        first | refine AnyH.take 13 rfl (by kernel_rfl) (by kernel_rfl) (by kernel_rfl) PF.pf rfl (pv_fieldAddr0 rfl rfl) rfl ?_ | refine AnyH.take 13 rfl (by kernel_rfl) (by kernel_rfl) (by kernel_rfl) PF.pf rfl (pv_fieldAddr rfl rfl) rfl ?_
        first | refine AnyH.take 14 rfl (by kernel_rfl) (by kernel_rfl) (by kernel_rfl) PF.pf rfl (pv_load rfl rfl rfl) rfl ?_ | refine AnyH.take 14 rfl (by kernel_rfl) (by kernel_rfl) (by kernel_rfl) PF.pf rfl (pv_load rfl rfl (by assumption)) rfl ?_
        refine AnyH.take 15 rfl (by kernel_rfl) (by kernel_rfl) (by kernel_rfl) PF.pf rfl (pv_assign rfl) rfl ?_
        refine AnyH.take 16 rfl (by kernel_rfl) (by kernel_rfl) (by kernel_rfl) PF.pf rfl (pv_assign rfl) rfl ?_
        refine AnyH.take 17 rfl (by kernel_rfl) (by kernel_rfl) (by kernel_rfl) PF.pf rfl (pv_assign rfl) rfl ?_
        refine AnyH.done (by kernel_rfl) ?_
        refine Ends.seq ?_
        refine Wp.ret ?_
        refine Ends.block_ret ?_
        refine Ends.then_ret ?_
        refine Ends.then_ret ?_
        refine Ends.block_ret ?_
        refine Ends.block_ret ?_
        refine Ends.then_ret ?_
        refine Ends.then_ret ?_
        refine Ends.block_ret ?_
        refine Ends.then_ret ?_
        obtain ⟨m1, m2, m3⟩ := fd_some (find_hit hd4 hn (levOf_some (hW d hd4).nd (show (x, y.2) ∈ L d by have := List.mem_of_getElem? hy; rwa [pair_of (show y.1 = x by assumption)] at this)))
        exact Ends.ret (res3 rfl rfl rfl rfl) ⟨by rw [m1, m2, m3], rfl⟩
      · refine Wp.skip ?_
        refine Ends.block_normal ?_
        refine Ends.seq ?_
        refine Wp.region ?_
        refine Ops.pv (pv_move rfl) rfl ?_
        first | refine Ops.pv (pv_add rfl rfl (w64 (by omega) (by omega))) rfl ?_ | refine Ops.pv (pv_add rfl rfl rfl) rfl ?_
        refine Ops.pv (pv_assign rfl) rfl ?_
        refine Ops.nil ?_
        refine Ends.goes ?_
        refine Goes.back (hK1 (i + 1) ⟨by omega, fun j hj k' => ?_⟩ (by omega)) ⟨rfl, rfl, rfl, rfl, trivial⟩
        rcases Nat.lt_succ_iff_lt_or_eq.1 hj with hj | rfl
        · exact hm j hj k'
        · rw [hy]; intro e1; cases e1; simp_all
    · refine Wp.exit ?_
      refine Ends.then_exit ?_
      refine Ends.then_exit ?_
      refine Ends.block_hit ?_
      refine Ends.block_normal ?_
      refine Ends.seq ?_
      refine Wp.region ?_
      refine Ops.pv (pv_move rfl) rfl ?_
      first | refine Ops.pv (pv_add rfl rfl (w64 (by omega) (by omega))) rfl ?_ | refine Ops.pv (pv_add rfl rfl rfl) rfl ?_
      refine Ops.pv (pv_assign rfl) rfl ?_
      refine Ops.nil ?_
      refine Ends.goes ?_
      have hlm := levOf_none (inR_miss (L := L d) (x := x) (fun j hj k => hm j (by omega) k))
      refine Goes.back (hK (d + 1) ⟨by omega, fun j hj => ?_⟩ (by omega)) ⟨rfl, rfl, rfl, trivial⟩
      rcases Nat.lt_succ_iff_lt_or_eq.1 hj with hj | rfl
      · exact hn j hj
      · exact hlm
  · refine Wp.exit ?_
    refine Ends.then_exit ?_
    refine Ends.then_exit ?_
    refine Ends.block_hit ?_
    refine Ends.seq ?_
    refine Wp.seq ?_
    refine Wp.region ?_
    refine Ops.pv (pv_assign rfl) rfl ?_
    refine Ops.pv (pv_assign rfl) rfl ?_
    refine Ops.pv (pv_assign rfl) rfl ?_
    refine Ops.nil ?_
    refine Ends.seq ?_
    refine Wp.ret ?_
    obtain ⟨m1, m2, m3⟩ := fd_none (find_miss (L := L) (x := x) (fun j hj => hn j (by omega)))
    exact Ends.ret (res3 rfl rfl rfl rfl) ⟨by rw [m1, m2, m3], rfl⟩

theorem tr_dPut (qb : Nat) (H : Hp) (T : Ones) (e : Nat) (l : Int) (L : Nat → Ones) (hH : DSchH T (posT T e l) L qb H) (hA : At T e l) (hW : RdysW L) (hl : RdysL L (2 ^ 20)) (x d0 k : Int) : Tr Try.prog 19 [.pointer (some ⟨qb, 0, none⟩), .int .i64 x, .int .i64 d0, .int .i64 k] (H) (fun u L' => u = .int .i64 (spE L x d0 k) ∧ DSchH T (posT T e l) (spL L x d0 k) qb L') := by
  obtain ⟨v, K, w, J, rb, h, hs, hw, hR, rfl⟩ := hH
  obtain ⟨a, c, rfl⟩ := hs.form
  have hv := hs.view
  obtain ⟨wa, wc, rfl⟩ := hw.form
  have hvw := hw.view
  obtain ⟨b2, o2, cap2, cc2, T2, f2, hv2, hbw, hrw⟩ := hvw.open (by omega)
  cases hv2
  refine Tr.enter Try.func19 rfl Try.ntmps19 rfl (fun W F => ?_)
  refine Wp.app ?_
  refine Wp.seq ?_
  refine Wp.region ?_
  refine Ops.pv (pv_assign rfl) rfl ?_
  refine Ops.nil ?_
  refine Ends.seq ?_
  refine Wp.seq ?_
  refine Wp.seq ?_
  refine Wp.region ?_
  refine Ops.pv (pv_move rfl) rfl ?_
  refine Ops.pv (pv_lss rfl rfl) rfl ?_
  refine Ops.pv (pv_move rfl) rfl ?_
  refine Ops.pvcn rfl rfl (fun hg => pv_move rfl) rfl ?_
  refine Ops.pvcn rfl rfl (fun hg => Pv.setE (t := 15) rfl (cv_pos hg) (pv_gtr rfl rfl)) rfl ?_
  refine Ops.pv (pv_pick_or rfl rfl) rfl ?_
  refine Ops.pv (pv_move rfl) rfl ?_
  refine Ops.pvcn rfl rfl (fun hg => pv_move rfl) rfl ?_
  refine Ops.pvcn rfl rfl (fun hg => Pv.setE (t := 19) rfl (cv_pos hg) (pv_lss rfl rfl)) rfl ?_
  refine Ops.pv (pv_pick_or rfl rfl) rfl ?_
  refine Ops.pv (pv_move rfl) rfl ?_
  refine Ops.pvcn rfl rfl (fun hg => pv_move rfl) rfl ?_
  refine Ops.pvcn rfl rfl (fun hg => Pv.setE (t := 23) rfl (cv_pos hg) (pv_gtr rfl rfl)) rfl ?_
  refine Ops.pv (pv_pick_or rfl rfl) rfl ?_
  refine Ops.pv (pv_move rfl) rfl ?_
  refine Ops.pvcn rfl rfl (fun hg => pv_move rfl) rfl ?_
  refine Ops.pvcn rfl rfl (fun hg => Pv.setE (t := 27) rfl (cv_pos hg) (pv_lss rfl rfl)) rfl ?_
  refine Ops.pv (pv_pick_or rfl rfl) rfl ?_
  refine Ops.pv (pv_move rfl) rfl ?_
  refine Ops.pvcn rfl rfl (fun hg => pv_move rfl) rfl ?_
  refine Ops.pvcn rfl rfl (fun hg => Pv.setE (t := 31) rfl (cv_pos hg) (pv_gtr rfl rfl)) rfl ?_
  refine Ops.pv (pv_pick_or rfl rfl) rfl ?_
  refine Ops.nil ?_
  refine Ends.seq ?_
  first | refine Wp.cond_dect rfl (fun h1 => ?_) (fun h1 => ?_) | refine Wp.cond_t rfl (fun h1 => ?_) (fun h1 => ?_)
  · refine Wp.seq ?_
    refine Wp.region ?_
    refine Ops.pv (pv_assign rfl) rfl ?_
    refine Ops.nil ?_
    refine Ends.seq ?_
    refine Wp.ret ?_
    refine Ends.then_ret ?_
    obtain ⟨m1, m2⟩ := sp_out (L := L) (x := x) (d := d0) (k := k) (by simp only [rightM]; rintro ⟨hr, hd, hk⟩; simp at hr; omega)
    exact Ends.ret (L' := (qb, .cells [.slice a T.length c, .int .i64 (posT T e l), .slice (some ⟨b2, o2, none⟩) 4 wc].toArray 64) :: (K ++ (J ++ segs h 4))) (res1 rfl rfl) ⟨by rw [m1], by rw [m2]; exact ⟨_, K, _, J, rb, h, hs, hw, hR, rfl⟩⟩
  · refine Wp.skip ?_
    refine Ends.seq ?_
    refine Wp.seq ?_
    refine Wp.region ?_
    refine Ops.pv (pv_move rfl) rfl ?_
    refine Ops.pv (pv_move rfl) rfl ?_
    refine Ops.ef rfl (ef_callr (tr_dFind qb _ T (posT T e l) L ⟨_, K, _, J, rb, h, hs, hw, hR, rfl⟩ hW hl x) rfl rfl) ?_
    rintro _ _ ⟨rfl, rfl⟩
    refine Ops.pv (pv_move rfl) rfl ?_
    refine Ops.pv (pv_extract rfl rfl) rfl ?_
    refine Ops.pv (pv_extract rfl rfl) rfl ?_
    refine Ops.pv (pv_extract rfl rfl) rfl ?_
    refine Ops.pv (pv_assign rfl) rfl ?_
    refine Ops.pv (pv_assign rfl) rfl ?_
    refine Ops.pv (pv_assign rfl) rfl ?_
    refine Ops.nil ?_
    refine Ends.seq ?_
    refine Wp.seq ?_
    refine Wp.seq ?_
    refine Wp.region ?_
    refine Ops.pv (pv_move rfl) rfl ?_
    refine Ops.nil ?_
    refine Ends.seq ?_
    refine Wp.cond_t rfl (fun h2 => ?_) (fun h2 => ?_)
    · refine Wp.seq ?_
      refine Wp.region ?_
      refine Ops.pv (pv_assign rfl) rfl ?_
      refine Ops.nil ?_
      refine Ends.seq ?_
      refine Wp.ret ?_
      refine Ends.then_ret ?_
      obtain ⟨m1, m2⟩ := sp_twice (L := L) (x := x) (d := d0) (k := k) ⟨by simp [rightM]; omega, by omega, by omega, by omega⟩ (by assumption)
      exact Ends.ret (L' := (qb, .cells [.slice a T.length c, .int .i64 (posT T e l), .slice (some ⟨b2, o2, none⟩) 4 wc].toArray 64) :: (K ++ (J ++ segs h 4))) (res1 rfl rfl) ⟨by rw [m1], by rw [m2]; exact ⟨_, K, _, J, rb, h, hs, hw, hR, rfl⟩⟩
    · refine Wp.skip ?_
      refine Ends.seq ?_
      refine Wp.seq ?_
      refine Wp.region ?_
      obtain ⟨d, rfl⟩ : ∃ n : Nat, d0 = n := ⟨d0.toNat, by omega⟩
      have hd4 : d < 4 := by omega
      have hptr := ptr_nth hrw hd4
      refine Ops.pv (pv_move rfl) rfl ?_
      first | refine Ops.pv (pv_nilCheck rfl) rfl ?_ | refine Ops.pv (pv_nilCheck_func rfl rfl) rfl ?_
      first | refine Ops.pv (pv_fieldAddr0 rfl rfl) rfl ?_ | refine Ops.pv (pv_fieldAddr rfl rfl) rfl ?_
      first | refine Ops.pv (pv_load rfl rfl rfl) rfl ?_ | refine Ops.pv (pv_load rfl rfl (by assumption)) rfl ?_
      refine Ops.pv (pv_move rfl) rfl ?_
      refine Ops.pv (pv_indexAddr (i := d) rfl rfl rfl hd4) rfl ?_
      refine Ops.pv (pv_load rfl rfl hptr) rfl ?_
      refine Ops.pv (pv_move rfl) rfl ?_
      refine Ops.pv (pv_move rfl) rfl ?_
      refine Ops.ef rfl (ef_call (tr_dputS hR hl hd4 x k) rfl rfl) ?_
      rintro _ _ ⟨_, _, ⟨rfl, HH1, hN1, rfl⟩, rfl, rfl⟩
      refine Ops.app ?_
      refine Ops.pv (pv_assign rfl) rfl ?_
      refine Ops.nil ?_
      refine Ends.seq ?_
      refine Wp.ret ?_
      obtain ⟨m1, m2⟩ := sp_put (L := L) (x := x) (d := d) (k := k) ⟨by simp [rightM]; omega, by omega, by omega, by omega⟩ (by assumption)
      exact Ends.ret (L' := (qb, .cells [.slice a T.length c, .int .i64 (posT T e l), .slice (some ⟨b2, o2, none⟩) 4 wc].toArray 64) :: (K ++ (J ++ segs (fset h d HH1) 4))) (res1 rfl rfl) ⟨by rw [m1], by rw [m2]; exact ⟨_, K, _, J, rb, _, hs, hw, hR.set hN1, rfl⟩⟩

theorem tr_dDrop_some (qb : Nat) (H : Hp) (T : Ones) (e : Nat) (l : Int) (L : Nat → Ones) (hH : DSchH T (posT T e l) L qb H) (hA : At T e l) (hW : RdysW L) (hl : RdysL L (2 ^ 20)) (x : Int) (d : Nat) (k : Int) (hf : findM L x = some (d, k)) : Tr Try.prog 20 [.pointer (some ⟨qb, 0, none⟩), .int .i64 x] (H) (fun u L' => u = .bool (inR (L d) x) ∧ DSchH T (posT T e l) (fset L d (dropR (L d) x)) qb L') := by
  obtain ⟨v, K, w, J, rb, h, hs, hw, hR, rfl⟩ := hH
  obtain ⟨a, c, rfl⟩ := hs.form
  have hv := hs.view
  obtain ⟨wa, wc, rfl⟩ := hw.form
  have hvw := hw.view
  obtain ⟨b2, o2, cap2, cc2, T2, f2, hv2, hbw, hrw⟩ := hvw.open (by omega)
  cases hv2
  obtain ⟨f1, f2, f3⟩ := fd_some hf
  obtain ⟨hd4, _⟩ := find_some hf
  have hptr := ptr_nth hrw hd4
  refine Tr.enter Try.func20 rfl Try.ntmps20 rfl (fun W F => ?_)
  refine Wp.app ?_
  refine Wp.seq ?_
  refine Wp.region ?_
  refine Ops.pv (pv_assign rfl) rfl ?_
  refine Ops.nil ?_
  refine Ends.seq ?_
  refine Wp.seq ?_
  refine Wp.region ?_
  refine Ops.pv (pv_move rfl) rfl ?_
  refine Ops.pv (pv_move rfl) rfl ?_
  refine Ops.ef rfl (ef_callr ((tr_dFind qb _ T (posT T e l) L ⟨_, K, _, J, rb, h, hs, hw, hR, rfl⟩ hW hl x).eq (by rw [f1, f2, f3])) rfl rfl) ?_
  rintro _ _ ⟨rfl, rfl⟩
  refine Ops.pv (pv_move rfl) rfl ?_
  refine Ops.pv (pv_extract rfl rfl) rfl ?_
  refine Ops.pv (pv_extract rfl rfl) rfl ?_
  refine Ops.pv (pv_extract rfl rfl) rfl ?_
  refine Ops.pv (pv_assign rfl) rfl ?_
  refine Ops.pv (pv_assign rfl) rfl ?_
  refine Ops.pv (pv_assign rfl) rfl ?_
  refine Ops.nil ?_
  refine Ends.seq ?_
  refine Wp.seq ?_
  refine Wp.region ?_
  refine Ops.pv (pv_move rfl) rfl ?_
  refine Ops.pv (pv_move rfl) rfl ?_
  refine Ops.pvg ⟨_, _, rfl, rfl, rfl⟩ (pv_move rfl) rfl ?_
  first | refine Ops.pvg ⟨_, _, rfl, rfl, rfl⟩ (pv_nilCheck rfl) rfl ?_ | refine Ops.pvg ⟨_, _, rfl, rfl, rfl⟩ (pv_nilCheck_func rfl rfl) rfl ?_
  first | refine Ops.pvg ⟨_, _, rfl, rfl, rfl⟩ (pv_fieldAddr0 rfl rfl) rfl ?_ | refine Ops.pvg ⟨_, _, rfl, rfl, rfl⟩ (pv_fieldAddr rfl rfl) rfl ?_
  first | refine Ops.pvg ⟨_, _, rfl, rfl, rfl⟩ (pv_load rfl rfl rfl) rfl ?_ | refine Ops.pvg ⟨_, _, rfl, rfl, rfl⟩ (pv_load rfl rfl (by assumption)) rfl ?_
  refine Ops.pvg ⟨_, _, rfl, rfl, rfl⟩ (pv_move rfl) rfl ?_
  refine Ops.pvg ⟨_, _, rfl, rfl, rfl⟩ (pv_indexAddr (i := d) rfl rfl rfl hd4) rfl ?_
  refine Ops.pvg ⟨_, _, rfl, rfl, rfl⟩ (pv_load rfl rfl hptr) rfl ?_
  refine Ops.pvg ⟨_, _, rfl, rfl, rfl⟩ (pv_move rfl) rfl ?_
  refine Ops.efg ⟨_, _, rfl, rfl, rfl⟩ (ef_call (tr_ddropS hR hl hd4 hW x) rfl rfl) ?_
  rintro _ _ ⟨_, _, ⟨rfl, HH1, hN1, rfl⟩, rfl, rfl⟩
  refine Ops.app ?_
  have hR2 := hR.set hN1
  have hl2 := drops_len hl d x
  refine Ops.pv (pv_pick_true rfl rfl) rfl ?_
  refine Ops.pv (pv_assign rfl) rfl ?_
  refine Ops.nil ?_
  refine Ends.seq ?_
  refine Wp.ret ?_
  exact Ends.ret (L' := (qb, .cells [.slice a T.length c, .int .i64 (posT T e l), .slice (some ⟨b2, o2, none⟩) 4 wc].toArray 64) :: (K ++ (J ++ segs (fset h d HH1) 4))) (res1 rfl rfl) ⟨rfl, _, K, _, J, rb, _, hs, hw, hR2, rfl⟩

theorem tr_dDrop_none (qb : Nat) (H : Hp) (T : Ones) (e : Nat) (l : Int) (L : Nat → Ones) (hH : DSchH T (posT T e l) L qb H) (hA : At T e l) (hW : RdysW L) (hl : RdysL L (2 ^ 20)) (x : Int) (hf : findM L x = none) : Tr Try.prog 20 [.pointer (some ⟨qb, 0, none⟩), .int .i64 x] (H) (fun u L' => u = .bool false ∧ DSchH T (posT T e l) L qb L') := by
  obtain ⟨v, K, w, J, rb, h, hs, hw, hR, rfl⟩ := hH
  obtain ⟨a, c, rfl⟩ := hs.form
  have hv := hs.view
  obtain ⟨wa, wc, rfl⟩ := hw.form
  have hvw := hw.view
  obtain ⟨b2, o2, cap2, cc2, T2, f2, hv2, hbw, hrw⟩ := hvw.open (by omega)
  cases hv2
  obtain ⟨f1, f2, f3⟩ := fd_none hf
  refine Tr.enter Try.func20 rfl Try.ntmps20 rfl (fun W F => ?_)
  refine Wp.app ?_
  refine Wp.seq ?_
  refine Wp.region ?_
  refine Ops.pv (pv_assign rfl) rfl ?_
  refine Ops.nil ?_
  refine Ends.seq ?_
  refine Wp.seq ?_
  refine Wp.region ?_
  refine Ops.pv (pv_move rfl) rfl ?_
  refine Ops.pv (pv_move rfl) rfl ?_
  refine Ops.ef rfl (ef_callr ((tr_dFind qb _ T (posT T e l) L ⟨_, K, _, J, rb, h, hs, hw, hR, rfl⟩ hW hl x).eq (by rw [f1, f2, f3])) rfl rfl) ?_
  rintro _ _ ⟨rfl, rfl⟩
  refine Ops.pv (pv_move rfl) rfl ?_
  refine Ops.pv (pv_extract rfl rfl) rfl ?_
  refine Ops.pv (pv_extract rfl rfl) rfl ?_
  refine Ops.pv (pv_extract rfl rfl) rfl ?_
  refine Ops.pv (pv_assign rfl) rfl ?_
  refine Ops.pv (pv_assign rfl) rfl ?_
  refine Ops.pv (pv_assign rfl) rfl ?_
  refine Ops.nil ?_
  refine Ends.seq ?_
  refine Wp.seq ?_
  refine Wp.region ?_
  refine Ops.pv (pv_move rfl) rfl ?_
  refine Ops.pv (pv_move rfl) rfl ?_
  refine Ops.skipg ⟨_, _, rfl, rfl, rfl⟩ rfl ?_
  refine Ops.skipg ⟨_, _, rfl, rfl, rfl⟩ rfl ?_
  refine Ops.skipg ⟨_, _, rfl, rfl, rfl⟩ rfl ?_
  refine Ops.skipg ⟨_, _, rfl, rfl, rfl⟩ rfl ?_
  refine Ops.skipg ⟨_, _, rfl, rfl, rfl⟩ rfl ?_
  refine Ops.skipg ⟨_, _, rfl, rfl, rfl⟩ rfl ?_
  refine Ops.skipg ⟨_, _, rfl, rfl, rfl⟩ rfl ?_
  refine Ops.skipg ⟨_, _, rfl, rfl, rfl⟩ rfl ?_
  refine Ops.skipg ⟨_, _, rfl, rfl, rfl⟩ rfl ?_
  refine Ops.pv (pv_pick_false rfl rfl) rfl ?_
  refine Ops.pv (pv_assign rfl) rfl ?_
  refine Ops.nil ?_
  refine Ends.seq ?_
  refine Wp.ret ?_
  exact Ends.ret (L' := (qb, .cells [.slice a T.length c, .int .i64 (posT T e l), .slice (some ⟨b2, o2, none⟩) 4 wc].toArray 64) :: (K ++ (J ++ segs h 4))) (res1 rfl rfl) ⟨rfl, _, K, _, J, rb, _, hs, hw, hR, rfl⟩

theorem tr_dYield_some (qb : Nat) (H : Hp) (T : Ones) (e : Nat) (l : Int) (L : Nat → Ones) (hH : DSchH T (posT T e l) L qb H) (hA : At T e l) (hW : RdysW L) (hl : RdysL L (2 ^ 20)) (x : Int) (d : Nat) (k : Int) (hf : findM L x = some (d, k)) : Tr Try.prog 21 [.pointer (some ⟨qb, 0, none⟩), .int .i64 x] (H) (fun u L' => u = .bool true ∧ DSchH T (posT T e l) (fset L d (putR (dropR (L d) x) x k)) qb L') := by
  obtain ⟨v, K, w, J, rb, h, hs, hw, hR, rfl⟩ := hH
  obtain ⟨a, c, rfl⟩ := hs.form
  have hv := hs.view
  obtain ⟨wa, wc, rfl⟩ := hw.form
  have hvw := hw.view
  obtain ⟨b2, o2, cap2, cc2, T2, f2, hv2, hbw, hrw⟩ := hvw.open (by omega)
  cases hv2
  obtain ⟨f1, f2, f3⟩ := fd_some hf
  obtain ⟨hd4, _⟩ := find_some hf
  have hptr := ptr_nth hrw hd4
  refine Tr.enter Try.func21 rfl Try.ntmps21 rfl (fun W F => ?_)
  refine Wp.app ?_
  refine Wp.seq ?_
  refine Wp.region ?_
  refine Ops.pv (pv_assign rfl) rfl ?_
  refine Ops.nil ?_
  refine Ends.seq ?_
  refine Wp.seq ?_
  refine Wp.region ?_
  refine Ops.pv (pv_move rfl) rfl ?_
  refine Ops.pv (pv_move rfl) rfl ?_
  refine Ops.ef rfl (ef_callr ((tr_dFind qb _ T (posT T e l) L ⟨_, K, _, J, rb, h, hs, hw, hR, rfl⟩ hW hl x).eq (by rw [f1, f2, f3])) rfl rfl) ?_
  rintro _ _ ⟨rfl, rfl⟩
  refine Ops.pv (pv_move rfl) rfl ?_
  refine Ops.pv (pv_extract rfl rfl) rfl ?_
  refine Ops.pv (pv_extract rfl rfl) rfl ?_
  refine Ops.pv (pv_extract rfl rfl) rfl ?_
  refine Ops.pv (pv_assign rfl) rfl ?_
  refine Ops.pv (pv_assign rfl) rfl ?_
  refine Ops.pv (pv_assign rfl) rfl ?_
  refine Ops.nil ?_
  refine Ends.seq ?_
  refine Wp.seq ?_
  refine Wp.seq ?_
  refine Wp.region ?_
  refine Ops.pv (pv_move rfl) rfl ?_
  refine Ops.nil ?_
  refine Ends.seq ?_
  refine Wp.cond_true rfl ?_
  refine Wp.seq ?_
  refine Wp.region ?_
  refine Ops.pv (pv_move rfl) rfl ?_
  first | refine Ops.pv (pv_nilCheck rfl) rfl ?_ | refine Ops.pv (pv_nilCheck_func rfl rfl) rfl ?_
  first | refine Ops.pv (pv_fieldAddr0 rfl rfl) rfl ?_ | refine Ops.pv (pv_fieldAddr rfl rfl) rfl ?_
  first | refine Ops.pv (pv_load rfl rfl rfl) rfl ?_ | refine Ops.pv (pv_load rfl rfl (by assumption)) rfl ?_
  refine Ops.pv (pv_move rfl) rfl ?_
  refine Ops.pv (pv_indexAddr (i := d) rfl rfl rfl hd4) rfl ?_
  refine Ops.pv (pv_load rfl rfl hptr) rfl ?_
  refine Ops.pv (pv_move rfl) rfl ?_
  refine Ops.ef rfl (ef_call (tr_ddropS hR hl hd4 hW x) rfl rfl) ?_
  rintro _ _ ⟨_, _, ⟨rfl, HH1, hN1, rfl⟩, rfl, rfl⟩
  refine Ops.app ?_
  have hR2 := hR.set hN1
  have hl2 := drops_len hl d x
  refine Ops.nil ?_
  refine Ends.seq ?_
  refine Wp.region ?_
  refine Ops.pv (pv_move rfl) rfl ?_
  first | refine Ops.pv (pv_nilCheck rfl) rfl ?_ | refine Ops.pv (pv_nilCheck_func rfl rfl) rfl ?_
  first | refine Ops.pv (pv_fieldAddr0 rfl rfl) rfl ?_ | refine Ops.pv (pv_fieldAddr rfl rfl) rfl ?_
  first | refine Ops.pv (pv_load rfl rfl rfl) rfl ?_ | refine Ops.pv (pv_load rfl rfl (by assumption)) rfl ?_
  refine Ops.pv (pv_move rfl) rfl ?_
  refine Ops.pv (pv_indexAddr (i := d) rfl rfl rfl hd4) rfl ?_
  refine Ops.pv (pv_load rfl rfl hptr) rfl ?_
  refine Ops.pv (pv_move rfl) rfl ?_
  refine Ops.pv (pv_move rfl) rfl ?_
  refine Ops.ef rfl (ef_call (tr_dputS hR2 hl2 hd4 x k) rfl rfl) ?_
  rintro _ _ ⟨_, _, ⟨rfl, HH2, hN2, rfl⟩, rfl, rfl⟩
  refine Ops.app ?_
  have hR3 := hR2.set hN2
  rw [fset_fset, fset_fset, fset_same] at hR3
  rw [fset_fset]
  refine Ops.nil ?_
  refine Ends.seq ?_
  refine Wp.seq ?_
  refine Wp.region ?_
  refine Ops.pv (pv_move rfl) rfl ?_
  refine Ops.pv (pv_assign rfl) rfl ?_
  refine Ops.nil ?_
  refine Ends.seq ?_
  refine Wp.ret ?_
  exact Ends.ret (L' := (qb, .cells [.slice a T.length c, .int .i64 (posT T e l), .slice (some ⟨b2, o2, none⟩) 4 wc].toArray 64) :: (K ++ (J ++ segs (fset h d HH2) 4))) (res1 rfl rfl) ⟨rfl, _, K, _, J, rb, _, hs, hw, hR3, rfl⟩

theorem tr_dYield_none (qb : Nat) (H : Hp) (T : Ones) (e : Nat) (l : Int) (L : Nat → Ones) (hH : DSchH T (posT T e l) L qb H) (hA : At T e l) (hW : RdysW L) (hl : RdysL L (2 ^ 20)) (x : Int) (hf : findM L x = none) : Tr Try.prog 21 [.pointer (some ⟨qb, 0, none⟩), .int .i64 x] (H) (fun u L' => u = .bool false ∧ DSchH T (posT T e l) L qb L') := by
  obtain ⟨v, K, w, J, rb, h, hs, hw, hR, rfl⟩ := hH
  obtain ⟨a, c, rfl⟩ := hs.form
  have hv := hs.view
  obtain ⟨wa, wc, rfl⟩ := hw.form
  have hvw := hw.view
  obtain ⟨b2, o2, cap2, cc2, T2, f2, hv2, hbw, hrw⟩ := hvw.open (by omega)
  cases hv2
  obtain ⟨f1, f2, f3⟩ := fd_none hf
  refine Tr.enter Try.func21 rfl Try.ntmps21 rfl (fun W F => ?_)
  refine Wp.app ?_
  refine Wp.seq ?_
  refine Wp.region ?_
  refine Ops.pv (pv_assign rfl) rfl ?_
  refine Ops.nil ?_
  refine Ends.seq ?_
  refine Wp.seq ?_
  refine Wp.region ?_
  refine Ops.pv (pv_move rfl) rfl ?_
  refine Ops.pv (pv_move rfl) rfl ?_
  refine Ops.ef rfl (ef_callr ((tr_dFind qb _ T (posT T e l) L ⟨_, K, _, J, rb, h, hs, hw, hR, rfl⟩ hW hl x).eq (by rw [f1, f2, f3])) rfl rfl) ?_
  rintro _ _ ⟨rfl, rfl⟩
  refine Ops.pv (pv_move rfl) rfl ?_
  refine Ops.pv (pv_extract rfl rfl) rfl ?_
  refine Ops.pv (pv_extract rfl rfl) rfl ?_
  refine Ops.pv (pv_extract rfl rfl) rfl ?_
  refine Ops.pv (pv_assign rfl) rfl ?_
  refine Ops.pv (pv_assign rfl) rfl ?_
  refine Ops.pv (pv_assign rfl) rfl ?_
  refine Ops.nil ?_
  refine Ends.seq ?_
  refine Wp.seq ?_
  refine Wp.seq ?_
  refine Wp.region ?_
  refine Ops.pv (pv_move rfl) rfl ?_
  refine Ops.nil ?_
  refine Ends.seq ?_
  refine Wp.cond_false rfl ?_
  refine Wp.skip ?_
  refine Ends.seq ?_
  refine Wp.seq ?_
  refine Wp.region ?_
  refine Ops.pv (pv_move rfl) rfl ?_
  refine Ops.pv (pv_assign rfl) rfl ?_
  refine Ops.nil ?_
  refine Ends.seq ?_
  refine Wp.ret ?_
  exact Ends.ret (L' := (qb, .cells [.slice a T.length c, .int .i64 (posT T e l), .slice (some ⟨b2, o2, none⟩) 4 wc].toArray 64) :: (K ++ (J ++ segs h 4))) (res1 rfl rfl) ⟨rfl, _, K, _, J, rb, _, hs, hw, hR, rfl⟩

theorem tr_dPick (qb : Nat) (H : Hp) (T : Ones) (e : Nat) (l : Int) (L : Nat → Ones) (hH : DSchH T (posT T e l) L qb H) (hA : At T e l) (hW : RdysW L) (hl : RdysL L (2 ^ 20)) : TrR Try.prog 23 [.pointer (some ⟨qb, 0, none⟩)] (H) (.tuple #[.int .i64 (nextV (L (domN T e))), .bool (nextB (L (domN T e)))]) := by
  obtain ⟨v, K, w, J, rb, h, hs, hw, hR, rfl⟩ := hH
  obtain ⟨a, c, rfl⟩ := hs.form
  have hv := hs.view
  obtain ⟨wa, wc, rfl⟩ := hw.form
  have hvw := hw.view
  obtain ⟨b2, o2, cap2, cc2, T2, f2, hv2, hbw, hrw⟩ := hvw.open (by omega)
  cases hv2
  obtain ⟨hdn, hd4⟩ := hA.domN
  have hptr := ptr_nth hrw hd4
  refine Tr.enter Try.func23 rfl Try.ntmps23 rfl (fun W F => ?_)
  refine Wp.app ?_
  refine Wp.seq ?_
  refine Wp.region ?_
  refine Ops.pv (pv_assign rfl) rfl ?_
  refine Ops.pv (pv_assign rfl) rfl ?_
  refine Ops.nil ?_
  refine Ends.seq ?_
  refine Wp.seq ?_
  refine AnyH.startL 13 rfl ?_
  refine AnyH.take 0 rfl (by kernel_rfl) (by kernel_rfl) (by kernel_rfl) PF.pf rfl (pv_move rfl) rfl ?_
  first | refine AnyH.take 1 rfl (by kernel_rfl) (by kernel_rfl) (by kernel_rfl) PF.pf rfl (pv_nilCheck rfl) rfl ?_ | refine AnyH.take 1 rfl (by kernel_rfl) (by kernel_rfl) (by kernel_rfl) PF.pf rfl (pv_nilCheck_func rfl rfl) rfl ?_
  first | refine AnyH.take 2 rfl (by kernel_rfl) (by kernel_rfl) (by kernel_rfl) PF.pf rfl (pv_fieldAddr0 rfl rfl) rfl ?_ | refine AnyH.take 2 rfl (by kernel_rfl) (by kernel_rfl) (by kernel_rfl) PF.pf rfl (pv_fieldAddr rfl rfl) rfl ?_
  first | refine AnyH.take 3 rfl (by kernel_rfl) (by kernel_rfl) (by kernel_rfl) PF.pf rfl (pv_load rfl rfl rfl) rfl ?_ | refine AnyH.take 3 rfl (by kernel_rfl) (by kernel_rfl) (by kernel_rfl) PF.pf rfl (pv_load rfl rfl (by assumption)) rfl ?_
  refine AnyH.take 4 rfl (by kernel_rfl) (by kernel_rfl) (by kernel_rfl) PF.pf rfl (pv_move rfl) rfl ?_
  refine AnyH.one 5 (by kernel_rfl) ?_
  refine Turn.ef rfl rfl (ef_callr ((tr_dDomain qb _ T e l L ⟨_, K, _, J, rb, h, hs, hw, hR, rfl⟩ hA).eq (by rw [hdn])) rfl rfl) ?_ ?_
  · rintro _ _ ⟨rfl, rfl⟩; infer_instance
  rintro _ _ ⟨rfl, rfl⟩
  refine AnyH.take 6 rfl (by kernel_rfl) (by kernel_rfl) (by kernel_rfl) PF.pf rfl (pv_indexAddr (i := domN T e) rfl rfl rfl hd4) rfl ?_
  refine AnyH.take 7 rfl (by kernel_rfl) (by kernel_rfl) (by kernel_rfl) PF.pf rfl (pv_load rfl rfl hptr) rfl ?_
  refine AnyH.one 8 (by kernel_rfl) ?_
  refine Turn.ef rfl rfl (ef_callr (tr_dnextS hR hl hd4) rfl rfl) ?_ ?_
  · rintro _ _ ⟨rfl, rfl⟩; infer_instance
  rintro _ _ ⟨rfl, rfl⟩
  refine AnyH.take 9 rfl (by kernel_rfl) (by kernel_rfl) (by kernel_rfl) PF.pf rfl (pv_extract rfl rfl) rfl ?_
  refine AnyH.take 10 rfl (by kernel_rfl) (by kernel_rfl) (by kernel_rfl) PF.pf rfl (pv_extract rfl rfl) rfl ?_
  refine AnyH.take 11 rfl (by kernel_rfl) (by kernel_rfl) (by kernel_rfl) PF.pf rfl (pv_assign rfl) rfl ?_
  refine AnyH.take 12 rfl (by kernel_rfl) (by kernel_rfl) (by kernel_rfl) PF.pf rfl (pv_assign rfl) rfl ?_
  refine AnyH.done (by kernel_rfl) ?_
  refine Ends.seq ?_
  refine Wp.ret ?_
  exact Ends.ret (res2 rfl rfl rfl) ⟨rfl, rfl⟩

theorem tr_dNew (G : Hp) (a : Option Addr) (c : Nat) (T : Ones) (hv : View G 2 (.slice a T.length c) T.length (cel oneC T)) (hl : T.length ≤ 2 ^ 30) : Tr Try.prog 18 [.slice a T.length c] (G) (fun u L' => (tmsOk T ∧ ∃ qb H, u = .tuple #[.pointer (some ⟨qb, 0, none⟩), .int .i64 0] ∧ DSchH T 0 (fun _ => []) qb H ∧ L' = H ++ G) ∨ (¬ tmsOk T ∧ u = .tuple #[.pointer none, .int .i64 1] ∧ L' = G)) := by
  refine Tr.enter Try.func18 rfl Try.ntmps18 rfl (fun W F => ?_)
  refine Wp.app ?_
  refine Wp.seq ?_
  refine Wp.region ?_
  refine Ops.pv (pv_assign rfl) rfl ?_
  refine Ops.pv (pv_assign rfl) rfl ?_
  refine Ops.nil ?_
  refine Ends.seq ?_
  refine Wp.seq ?_
  refine Wp.region ?_
  refine Ops.pv (pv_move rfl) rfl ?_
  refine Ops.pv (pv_len_slice (T := 22) rfl rfl) rfl ?_
  refine Ops.pv (pv_geq rfl rfl) rfl ?_
  refine Ops.pv (pv_move rfl) rfl ?_
  refine Ops.pvc rfl rfl (fun hg => pv_move rfl) rfl ?_
  refine Ops.pvc rfl rfl (fun hg => Pv.setE (t := 12) rfl (cv_pos hg) (pv_len_slice (T := 22) rfl rfl)) rfl ?_
  refine Ops.pvc rfl rfl (fun hg => Pv.setE (t := 12) rfl (cv_pos hg) (Pv.setE (t := 13) rfl (cv_pos hg) (pv_leq rfl rfl))) rfl ?_
  refine Ops.pv (pv_pick_and rfl rfl) rfl ?_
  refine Ops.pv (pv_assign rfl) rfl ?_
  refine Ops.setE (t := 4) (v := .bool (okB T 0)) rfl (by congr 1; exact decide_eq_decide.2 (by omega)) ?_
  refine Ops.nil ?_
  refine Ends.seq ?_
  refine Wp.seq ?_
  refine Wp.seq ?_
  refine Wp.region ?_
  refine Ops.pv (pv_assign rfl) rfl ?_
  refine Ops.nil ?_
  refine Ends.seq ?_
  refine Wp.block ?_
  refine Wp.loopK (σ := Nat) [(0, _)] (fun s => [(4, .bool (okB T s)), (5, .int .i64 s)]) (fun s => G ++ F) (fun s => s ≤ T.length) (fun s => T.length - s) 0 (Nat.zero_le _) ⟨rfl, trivial⟩ ⟨rfl, rfl, trivial⟩ (by intro w ho; (try dsimp only [List.nil_append, List.cons_append]); exact Drop.own ho) ?_
  rintro i KK hi hK
  dsimp only [List.cons_append, List.nil_append] at hK ⊢
  refine Wp.seq ?_
  refine Wp.seq ?_
  refine Wp.region ?_
  refine Ops.pv (pv_move rfl) rfl ?_
  refine Ops.pv (pv_move rfl) rfl ?_
  refine Ops.pv (pv_len_slice (T := 22) rfl rfl) rfl ?_
  refine Ops.pv (pv_lss rfl rfl) rfl ?_
  refine Ops.pv (pv_move rfl) rfl ?_
  first | refine Ops.split (t := 20) rfl (fun h1 => ?_) (fun h1 => ?_) | refine Ops.splitb (t := 20) rfl (fun h1 => ?_) (fun h1 => ?_)
  · refine Ops.pvg ⟨_, _, rfl, rfl, rfl⟩ (pv_move rfl) rfl ?_
    refine Ops.pv (pv_pick_true rfl rfl) rfl ?_
    refine Ops.nil ?_
    refine Ends.seq ?_
    first | refine Wp.cond_dect rfl (fun h2 => ?_) (fun h2 => ?_) | refine Wp.cond_t rfl (fun h2 => ?_) (fun h2 => ?_)
    · obtain ⟨b, o, cap, cc, T0, f, hv1, hbv, hr⟩ := hv.open (by omega)
      cases hv1
      obtain ⟨q0, q1⟩ := one_read hr (tkd_get (show i < T.length by omega))
      have hob : okB T i = true := by assumption
      refine Wp.skip ?_
      refine Ends.seq ?_
      refine Wp.seq ?_
      refine Wp.block ?_
      refine Wp.region ?_
      refine Ops.pv (pv_move rfl) rfl ?_
      refine Ops.pv (pv_move rfl) rfl ?_
      refine Ops.pv (pv_indexAddr rfl rfl rfl (by omega)) rfl ?_
      first | refine Ops.pv (pv_fieldAddr0 rfl rfl) rfl ?_ | refine Ops.pv (pv_fieldAddr rfl rfl) rfl ?_
      first | refine Ops.pv (pv_load rfl rfl rfl) rfl ?_ | refine Ops.pv (pv_load rfl rfl (by assumption)) rfl ?_
      refine Ops.pv (pv_geq rfl rfl) rfl ?_
      refine Ops.pv (pv_move rfl) rfl ?_
      refine Ops.pvc rfl rfl (fun hg => pv_move rfl) rfl ?_
      refine Ops.pvc rfl rfl (fun hg => Pv.setE (t := 32) rfl (cv_pos hg) (pv_move rfl)) rfl ?_
      refine Ops.pvc rfl rfl (fun hg => Pv.setE (t := 32) rfl (cv_pos hg) (Pv.setE (t := 33) rfl (cv_pos hg) (pv_indexAddr rfl rfl rfl (by omega)))) rfl ?_
      first | refine Ops.pvc rfl rfl (fun hg => Pv.setE (t := 32) rfl (cv_pos hg) (Pv.setE (t := 33) rfl (cv_pos hg) (Pv.setE (t := 34) rfl (cv_pos hg) (pv_fieldAddr0 rfl rfl)))) rfl ?_ | refine Ops.pvc rfl rfl (fun hg => Pv.setE (t := 32) rfl (cv_pos hg) (Pv.setE (t := 33) rfl (cv_pos hg) (Pv.setE (t := 34) rfl (cv_pos hg) (pv_fieldAddr rfl rfl)))) rfl ?_
      first | refine Ops.pvc rfl rfl (fun hg => Pv.setE (t := 32) rfl (cv_pos hg) (Pv.setE (t := 33) rfl (cv_pos hg) (Pv.setE (t := 34) rfl (cv_pos hg) (Pv.setE (t := 35) rfl (cv_pos hg) (pv_load rfl rfl rfl))))) rfl ?_ | refine Ops.pvc rfl rfl (fun hg => Pv.setE (t := 32) rfl (cv_pos hg) (Pv.setE (t := 33) rfl (cv_pos hg) (Pv.setE (t := 34) rfl (cv_pos hg) (Pv.setE (t := 35) rfl (cv_pos hg) (pv_load rfl rfl (by assumption)))))) rfl ?_
      refine Ops.pvc rfl rfl (fun hg => Pv.setE (t := 32) rfl (cv_pos hg) (Pv.setE (t := 33) rfl (cv_pos hg) (Pv.setE (t := 34) rfl (cv_pos hg) (Pv.setE (t := 35) rfl (cv_pos hg) (Pv.setE (t := 36) rfl (cv_pos hg) (pv_leq rfl rfl)))))) rfl ?_
      refine Ops.pv (pv_pick_and rfl rfl) rfl ?_
      refine Ops.pv (pv_move rfl) rfl ?_
      refine Ops.pvc rfl rfl (fun hg => pv_move rfl) rfl ?_
      refine Ops.pvc rfl rfl (fun hg => Pv.setE (t := 40) rfl (cv_pos hg) (pv_move rfl)) rfl ?_
      refine Ops.pvc rfl rfl (fun hg => Pv.setE (t := 40) rfl (cv_pos hg) (Pv.setE (t := 41) rfl (cv_pos hg) (pv_indexAddr rfl rfl rfl (by omega)))) rfl ?_
      first | refine Ops.pvc rfl rfl (fun hg => Pv.setE (t := 40) rfl (cv_pos hg) (Pv.setE (t := 41) rfl (cv_pos hg) (Pv.setE (t := 42) rfl (cv_pos hg) (pv_fieldAddr0 rfl rfl)))) rfl ?_ | refine Ops.pvc rfl rfl (fun hg => Pv.setE (t := 40) rfl (cv_pos hg) (Pv.setE (t := 41) rfl (cv_pos hg) (Pv.setE (t := 42) rfl (cv_pos hg) (pv_fieldAddr rfl rfl)))) rfl ?_
      first | refine Ops.pvc rfl rfl (fun hg => Pv.setE (t := 40) rfl (cv_pos hg) (Pv.setE (t := 41) rfl (cv_pos hg) (Pv.setE (t := 42) rfl (cv_pos hg) (Pv.setE (t := 43) rfl (cv_pos hg) (pv_load rfl rfl rfl))))) rfl ?_ | refine Ops.pvc rfl rfl (fun hg => Pv.setE (t := 40) rfl (cv_pos hg) (Pv.setE (t := 41) rfl (cv_pos hg) (Pv.setE (t := 42) rfl (cv_pos hg) (Pv.setE (t := 43) rfl (cv_pos hg) (pv_load rfl rfl (by assumption)))))) rfl ?_
      refine Ops.pvc rfl rfl (fun hg => Pv.setE (t := 40) rfl (cv_pos hg) (Pv.setE (t := 41) rfl (cv_pos hg) (Pv.setE (t := 42) rfl (cv_pos hg) (Pv.setE (t := 43) rfl (cv_pos hg) (Pv.setE (t := 44) rfl (cv_pos hg) (pv_geq rfl rfl)))))) rfl ?_
      refine Ops.pv (pv_pick_and rfl rfl) rfl ?_
      refine Ops.pv (pv_move rfl) rfl ?_
      refine Ops.pvc rfl rfl (fun hg => pv_move rfl) rfl ?_
      refine Ops.pvc rfl rfl (fun hg => Pv.setE (t := 48) rfl (cv_pos hg) (pv_move rfl)) rfl ?_
      refine Ops.pvc rfl rfl (fun hg => Pv.setE (t := 48) rfl (cv_pos hg) (Pv.setE (t := 49) rfl (cv_pos hg) (pv_indexAddr rfl rfl rfl (by omega)))) rfl ?_
      first | refine Ops.pvc rfl rfl (fun hg => Pv.setE (t := 48) rfl (cv_pos hg) (Pv.setE (t := 49) rfl (cv_pos hg) (Pv.setE (t := 50) rfl (cv_pos hg) (pv_fieldAddr0 rfl rfl)))) rfl ?_ | refine Ops.pvc rfl rfl (fun hg => Pv.setE (t := 48) rfl (cv_pos hg) (Pv.setE (t := 49) rfl (cv_pos hg) (Pv.setE (t := 50) rfl (cv_pos hg) (pv_fieldAddr rfl rfl)))) rfl ?_
      first | refine Ops.pvc rfl rfl (fun hg => Pv.setE (t := 48) rfl (cv_pos hg) (Pv.setE (t := 49) rfl (cv_pos hg) (Pv.setE (t := 50) rfl (cv_pos hg) (Pv.setE (t := 51) rfl (cv_pos hg) (pv_load rfl rfl rfl))))) rfl ?_ | refine Ops.pvc rfl rfl (fun hg => Pv.setE (t := 48) rfl (cv_pos hg) (Pv.setE (t := 49) rfl (cv_pos hg) (Pv.setE (t := 50) rfl (cv_pos hg) (Pv.setE (t := 51) rfl (cv_pos hg) (pv_load rfl rfl (by assumption)))))) rfl ?_
      refine Ops.pvc rfl rfl (fun hg => Pv.setE (t := 48) rfl (cv_pos hg) (Pv.setE (t := 49) rfl (cv_pos hg) (Pv.setE (t := 50) rfl (cv_pos hg) (Pv.setE (t := 51) rfl (cv_pos hg) (Pv.setE (t := 52) rfl (cv_pos hg) (pv_leq rfl rfl)))))) rfl ?_
      refine Ops.pv (pv_pick_and rfl rfl) rfl ?_
      refine Ops.pv (pv_assign rfl) rfl ?_
      refine Ops.setE (t := 4) (v := .bool (okB T (i + 1))) rfl (by rw [okB_step hob]) ?_
      refine Ops.nil ?_
      refine Ends.block_normal ?_
      refine Ends.seq ?_
      refine Wp.region ?_
      refine Ops.pv (pv_move rfl) rfl ?_
      first | refine Ops.pv (pv_add rfl rfl (w64 (by omega) (by omega))) rfl ?_ | refine Ops.pv (pv_add rfl rfl rfl) rfl ?_
      refine Ops.pv (pv_assign rfl) rfl ?_
      refine Ops.nil ?_
      refine Ends.goes ?_
      refine Goes.back (hK (i + 1) (by omega) (by omega)) ⟨rfl, rfl, rfl, trivial⟩
    · refine Wp.exit ?_
      refine Ends.then_exit ?_
      refine Ends.then_exit ?_
      refine Ends.block_hit ?_
      refine Ends.seq ?_
      refine Wp.seq ?_
      refine Wp.seq ?_
      refine Wp.region ?_
      have hfin : okB T i = decide (tmsOk T) := by first | exact okB_all (by omega) | exact okB_no hi (by assumption)
      rw [hfin]
      refine Ops.pv (pv_move rfl) rfl ?_
      first | refine Ops.pv (pv_not_dec rfl) rfl ?_ | refine Ops.pv (pv_not rfl) rfl ?_
      refine Ops.nil ?_
      refine Ends.seq ?_
      first | refine Wp.cond_dect rfl (fun h3 => ?_) (fun h3 => ?_) | refine Wp.cond_t rfl (fun h3 => ?_) (fun h3 => ?_)
      · refine Wp.seq ?_
        refine Wp.region ?_
        refine Ops.pv (pv_assign rfl) rfl ?_
        refine Ops.pv (pv_assign rfl) rfl ?_
        refine Ops.nil ?_
        refine Ends.seq ?_
        refine Wp.ret ?_
        refine Ends.then_ret ?_
        exact Ends.ret (L' := G) (res2 rfl rfl rfl) (.inr ⟨by assumption, rfl, rfl⟩)
      · refine Wp.skip ?_
        refine Ends.seq ?_
        refine Wp.seq ?_
        refine Wp.region ?_
        refine Ops.ef rfl (ef_buildSlice0 rfl) ?_
        rintro _ _ ⟨b1, rfl, rfl⟩
        refine Ops.pv (pv_move rfl) rfl ?_
        refine Ops.ef rfl (ef_appendV (H := [(b1, .cells ([] : List Value).toArray 32)]) rfl (slc_empty' 32 2 b1) rfl (hv.mono (by intro p hp; simp [hp])) (cel_one T) (by omega) (by omega) rfl rfl) ?_
        rintro _ _ ⟨v1, H1, hs1, rfl, rfl⟩
        refine Ops.app ?_
        rw [Nat.zero_add, List.nil_append] at hs1
        obtain ⟨tp, tq, rfl⟩ := hs1.form
        refine Ops.pv (pv_build rfl) rfl ?_
        refine Ops.ef rfl (ef_boxK rfl rfl) ?_
        rintro _ _ ⟨b2, rfl, rfl⟩
        refine Ops.pv (pv_assign rfl) rfl ?_
        refine Ops.nil ?_
        refine Ends.seq ?_
        refine Wp.seq ?_
        refine Wp.seq ?_
        refine Wp.region ?_
        refine Ops.pv (pv_assign rfl) rfl ?_
        refine Ops.nil ?_
        refine Ends.seq ?_
        refine Wp.block ?_
        refine Wp.loopK (σ := Nat × Value × Hp × (Nat → Nat) × (Nat → Hp)) [(6, _)] (fun s => [(7, .int .i64 s.1)]) (fun s => (b2, .cells [.slice tp T.length tq, .int .i64 0, s.2.1].toArray 64) :: (H1 ++ (s.2.2.1 ++ (segs s.2.2.2.2 4 ++ (G ++ F))))) (fun s => s.1 ≤ 4 ∧ Slc 65 1 s.2.1 s.1 ((List.range s.1).map (fun d => ptrV (s.2.2.2.1 d))) s.2.2.1 ∧ (∀ j, j < s.1 → DRdyH [] (s.2.2.2.1 j) (s.2.2.2.2 j)) ∧ ∀ j, s.1 ≤ j → s.2.2.2.2 j = []) (fun s => 4 - s.1) (0, .slice none 0 0, [], fun _ => 0, fun _ => []) ⟨Nat.zero_le _, Slc.nil _ _, fun j hj => absurd hj (Nat.not_lt_zero j), fun _ _ => rfl⟩ ⟨rfl, trivial⟩ ⟨rfl, trivial⟩ (by intro w ho; (try dsimp only [List.nil_append, List.cons_append]); rw [segs_nil]; exact Drop.own ho) ?_
        rintro ⟨d, w, J, rb, h⟩ KK ⟨hd, hw, hR, hz⟩ hK
        dsimp only [List.cons_append, List.nil_append] at hK ⊢
        dsimp only at hd hw hR hz ⊢
        have ho3 := hw.one
        have ho4 := hw.cells1
        have gb1 : True := trivial
        refine Wp.seq ?_
        refine Wp.seq ?_
        refine Wp.region ?_
        refine Ops.pv (pv_move rfl) rfl ?_
        refine Ops.pv (pv_lss rfl rfl) rfl ?_
        refine Ops.nil ?_
        refine Ends.seq ?_
        first | refine Wp.cond_dect rfl (fun h4 => ?_) (fun h4 => ?_) | refine Wp.cond_t rfl (fun h4 => ?_) (fun h4 => ?_)
        · have hd4 : d < 4 := by omega
          refine Wp.skip ?_
          refine Ends.seq ?_
          refine Wp.seq ?_
          refine Wp.block ?_
          refine Wp.region ?_
          refine Ops.pv (pv_move rfl) rfl ?_
          refine Ops.pv (pv_move rfl) rfl ?_
          first | refine Ops.pv (pv_nilCheck rfl) rfl ?_ | refine Ops.pv (pv_nilCheck_func rfl rfl) rfl ?_
          first | refine Ops.pv (pv_fieldAddr0 rfl rfl) rfl ?_ | refine Ops.pv (pv_fieldAddr rfl rfl) rfl ?_
          first | refine Ops.pv (pv_load rfl rfl rfl) rfl ?_ | refine Ops.pv (pv_load rfl rfl (by assumption)) rfl ?_
          refine Ops.pv (pv_build rfl) rfl ?_
          refine Ops.ef rfl (ef_boxK rfl rfl) ?_
          rintro _ _ ⟨b3, rfl, rfl⟩
          refine Ops.ef rfl (ef_buildSlice1 (k := 1) rfl rfl rfl rfl rfl) ?_
          rintro _ _ ⟨b4, rfl, rfl⟩
          refine Ops.ef rfl (ef_append (H := J) (xs := [.pointer (some ⟨_, 0, none⟩)]) rfl hw rfl ⟨rfl, trivial⟩ rfl rfl rfl (by omega) (by omega) rfl rfl) ?_
          rintro _ _ ⟨w1, J1, hw1, rfl, rfl⟩
          refine Ops.app ?_
          have ho1 := hw1.one
          have ho2 := hw1.cells1
          first | refine Ops.pv (pv_nilCheck rfl) rfl ?_ | refine Ops.pv (pv_nilCheck_func rfl rfl) rfl ?_
          first | refine Ops.pv (pv_fieldAddr0 rfl rfl) rfl ?_ | refine Ops.pv (pv_fieldAddr rfl rfl) rfl ?_
          refine Ops.ef rfl (ef_store1 rfl rfl (by first | rfl | assumption) (by first | rfl | assumption)) ?_
          rintro _ _ ⟨rfl, rfl⟩
          refine Ops.nil ?_
          refine Ends.block_normal ?_
          refine Ends.seq ?_
          refine Wp.region ?_
          refine Ops.pv (pv_move rfl) rfl ?_
          first | refine Ops.pv (pv_add rfl rfl (w64 (by omega) (by omega))) rfl ?_ | refine Ops.pv (pv_add rfl rfl rfl) rfl ?_
          refine Ops.pv (pv_assign rfl) rfl ?_
          refine Ops.nil ?_
          refine Ends.goes ?_
          rw [show h = fset h d [] by rw [← hz d (Nat.le_refl _), fset_self]]
          refine Goes.closeS h 4 d [(b3, .cells [.slice none 0 0].toArray 68)] hd4 ?_
          refine Goes.back (hK (d + 1, w1, J1, fset rb d b3, fset h d [(b3, .cells [.slice none 0 0].toArray 68)]) ⟨by dsimp only; omega, ?_, fun j hj => ?_, fun j hj => ?_⟩ (by dsimp only; omega)) ⟨rfl, rfl, trivial⟩
          · dsimp only; rw [range4_snoc, fset_same, ptrs_congr (rb := fset rb d b3) (rb' := rb) (fun j hj => fset_ne (by omega))]; exact hw1
          · dsimp only; by_cases e : j = d
            · subst e; rw [fset_same, fset_same]; exact ⟨_, [], Slc.nil _ _, rfl⟩
            · rw [fset_ne e, fset_ne e]; exact hR j (by dsimp only at hj; omega)
          · dsimp only at hj ⊢; rw [fset_ne (by omega)]; exact hz j (by omega)
        · refine Wp.exit ?_
          refine Ends.then_exit ?_
          refine Ends.then_exit ?_
          refine Ends.block_hit ?_
          refine Ends.seq ?_
          refine Wp.seq ?_
          refine Wp.region ?_
          refine Ops.pv (pv_move rfl) rfl ?_
          refine Ops.pv (pv_assign rfl) rfl ?_
          refine Ops.pv (pv_assign rfl) rfl ?_
          refine Ops.nil ?_
          refine Ends.seq ?_
          refine Wp.ret ?_
          obtain rfl : d = 4 := by omega
          exact Ends.ret (L' := (b2, .cells [.slice tp T.length tq, .int .i64 0, w].toArray 64) :: (H1 ++ (J ++ (segs h 4 ++ G)))) (res2 rfl rfl rfl) (.inl ⟨Decidable.not_not.1 (by assumption), b2, _, rfl, ⟨_, _, w, J, rb, h, hs1, hw, hR, rfl⟩, by simp⟩)
  · refine Ops.skipg ⟨_, _, rfl, rfl, rfl⟩ rfl ?_
    refine Ops.pv (pv_pick_false rfl rfl) rfl ?_
    refine Ops.nil ?_
    refine Ends.seq ?_
    refine Wp.cond_false rfl ?_
    refine Wp.exit ?_
    refine Ends.then_exit ?_
    refine Ends.then_exit ?_
    refine Ends.block_hit ?_
    refine Ends.seq ?_
    refine Wp.seq ?_
    refine Wp.seq ?_
    refine Wp.region ?_
    have hfin : okB T i = decide (tmsOk T) := by first | exact okB_all (by omega) | exact okB_no hi (by assumption)
    rw [hfin]
    refine Ops.pv (pv_move rfl) rfl ?_
    first | refine Ops.pv (pv_not_dec rfl) rfl ?_ | refine Ops.pv (pv_not rfl) rfl ?_
    refine Ops.nil ?_
    refine Ends.seq ?_
    first | refine Wp.cond_dect rfl (fun h5 => ?_) (fun h5 => ?_) | refine Wp.cond_t rfl (fun h5 => ?_) (fun h5 => ?_)
    · refine Wp.seq ?_
      refine Wp.region ?_
      refine Ops.pv (pv_assign rfl) rfl ?_
      refine Ops.pv (pv_assign rfl) rfl ?_
      refine Ops.nil ?_
      refine Ends.seq ?_
      refine Wp.ret ?_
      refine Ends.then_ret ?_
      exact Ends.ret (L' := G) (res2 rfl rfl rfl) (.inr ⟨by assumption, rfl, rfl⟩)
    · refine Wp.skip ?_
      refine Ends.seq ?_
      refine Wp.seq ?_
      refine Wp.region ?_
      refine Ops.ef rfl (ef_buildSlice0 rfl) ?_
      rintro _ _ ⟨b5, rfl, rfl⟩
      refine Ops.pv (pv_move rfl) rfl ?_
      refine Ops.ef rfl (ef_appendV (H := [(b5, .cells ([] : List Value).toArray 32)]) rfl (slc_empty' 32 2 b5) rfl (hv.mono (by intro p hp; simp [hp])) (cel_one T) (by omega) (by omega) rfl rfl) ?_
      rintro _ _ ⟨v2, H2, hs2, rfl, rfl⟩
      refine Ops.app ?_
      rw [Nat.zero_add, List.nil_append] at hs2
      obtain ⟨tp, tq, rfl⟩ := hs2.form
      refine Ops.pv (pv_build rfl) rfl ?_
      refine Ops.ef rfl (ef_boxK rfl rfl) ?_
      rintro _ _ ⟨b6, rfl, rfl⟩
      refine Ops.pv (pv_assign rfl) rfl ?_
      refine Ops.nil ?_
      refine Ends.seq ?_
      refine Wp.seq ?_
      refine Wp.seq ?_
      refine Wp.region ?_
      refine Ops.pv (pv_assign rfl) rfl ?_
      refine Ops.nil ?_
      refine Ends.seq ?_
      refine Wp.block ?_
      refine Wp.loopK (σ := Nat × Value × Hp × (Nat → Nat) × (Nat → Hp)) [(6, _)] (fun s => [(7, .int .i64 s.1)]) (fun s => (b6, .cells [.slice tp T.length tq, .int .i64 0, s.2.1].toArray 64) :: (H2 ++ (s.2.2.1 ++ (segs s.2.2.2.2 4 ++ (G ++ F))))) (fun s => s.1 ≤ 4 ∧ Slc 65 1 s.2.1 s.1 ((List.range s.1).map (fun d => ptrV (s.2.2.2.1 d))) s.2.2.1 ∧ (∀ j, j < s.1 → DRdyH [] (s.2.2.2.1 j) (s.2.2.2.2 j)) ∧ ∀ j, s.1 ≤ j → s.2.2.2.2 j = []) (fun s => 4 - s.1) (0, .slice none 0 0, [], fun _ => 0, fun _ => []) ⟨Nat.zero_le _, Slc.nil _ _, fun j hj => absurd hj (Nat.not_lt_zero j), fun _ _ => rfl⟩ ⟨rfl, trivial⟩ ⟨rfl, trivial⟩ (by intro w ho; (try dsimp only [List.nil_append, List.cons_append]); rw [segs_nil]; exact Drop.own ho) ?_
      rintro ⟨d, w, J, rb, h⟩ KK ⟨hd, hw, hR, hz⟩ hK
      dsimp only [List.cons_append, List.nil_append] at hK ⊢
      dsimp only at hd hw hR hz ⊢
      have ho3 := hw.one
      have ho4 := hw.cells1
      have gb1 : True := trivial
      refine Wp.seq ?_
      refine Wp.seq ?_
      refine Wp.region ?_
      refine Ops.pv (pv_move rfl) rfl ?_
      refine Ops.pv (pv_lss rfl rfl) rfl ?_
      refine Ops.nil ?_
      refine Ends.seq ?_
      first | refine Wp.cond_dect rfl (fun h6 => ?_) (fun h6 => ?_) | refine Wp.cond_t rfl (fun h6 => ?_) (fun h6 => ?_)
      · have hd4 : d < 4 := by omega
        refine Wp.skip ?_
        refine Ends.seq ?_
        refine Wp.seq ?_
        refine Wp.block ?_
        refine Wp.region ?_
        refine Ops.pv (pv_move rfl) rfl ?_
        refine Ops.pv (pv_move rfl) rfl ?_
        first | refine Ops.pv (pv_nilCheck rfl) rfl ?_ | refine Ops.pv (pv_nilCheck_func rfl rfl) rfl ?_
        first | refine Ops.pv (pv_fieldAddr0 rfl rfl) rfl ?_ | refine Ops.pv (pv_fieldAddr rfl rfl) rfl ?_
        first | refine Ops.pv (pv_load rfl rfl rfl) rfl ?_ | refine Ops.pv (pv_load rfl rfl (by assumption)) rfl ?_
        refine Ops.pv (pv_build rfl) rfl ?_
        refine Ops.ef rfl (ef_boxK rfl rfl) ?_
        rintro _ _ ⟨b7, rfl, rfl⟩
        refine Ops.ef rfl (ef_buildSlice1 (k := 1) rfl rfl rfl rfl rfl) ?_
        rintro _ _ ⟨b8, rfl, rfl⟩
        refine Ops.ef rfl (ef_append (H := J) (xs := [.pointer (some ⟨_, 0, none⟩)]) rfl hw rfl ⟨rfl, trivial⟩ rfl rfl rfl (by omega) (by omega) rfl rfl) ?_
        rintro _ _ ⟨w2, J2, hw2, rfl, rfl⟩
        refine Ops.app ?_
        have ho1 := hw2.one
        have ho2 := hw2.cells1
        first | refine Ops.pv (pv_nilCheck rfl) rfl ?_ | refine Ops.pv (pv_nilCheck_func rfl rfl) rfl ?_
        first | refine Ops.pv (pv_fieldAddr0 rfl rfl) rfl ?_ | refine Ops.pv (pv_fieldAddr rfl rfl) rfl ?_
        refine Ops.ef rfl (ef_store1 rfl rfl (by first | rfl | assumption) (by first | rfl | assumption)) ?_
        rintro _ _ ⟨rfl, rfl⟩
        refine Ops.nil ?_
        refine Ends.block_normal ?_
        refine Ends.seq ?_
        refine Wp.region ?_
        refine Ops.pv (pv_move rfl) rfl ?_
        first | refine Ops.pv (pv_add rfl rfl (w64 (by omega) (by omega))) rfl ?_ | refine Ops.pv (pv_add rfl rfl rfl) rfl ?_
        refine Ops.pv (pv_assign rfl) rfl ?_
        refine Ops.nil ?_
        refine Ends.goes ?_
        rw [show h = fset h d [] by rw [← hz d (Nat.le_refl _), fset_self]]
        refine Goes.closeS h 4 d [(b7, .cells [.slice none 0 0].toArray 68)] hd4 ?_
        refine Goes.back (hK (d + 1, w2, J2, fset rb d b7, fset h d [(b7, .cells [.slice none 0 0].toArray 68)]) ⟨by dsimp only; omega, ?_, fun j hj => ?_, fun j hj => ?_⟩ (by dsimp only; omega)) ⟨rfl, rfl, trivial⟩
        · dsimp only; rw [range4_snoc, fset_same, ptrs_congr (rb := fset rb d b7) (rb' := rb) (fun j hj => fset_ne (by omega))]; exact hw2
        · dsimp only; by_cases e : j = d
          · subst e; rw [fset_same, fset_same]; exact ⟨_, [], Slc.nil _ _, rfl⟩
          · rw [fset_ne e, fset_ne e]; exact hR j (by dsimp only at hj; omega)
        · dsimp only at hj ⊢; rw [fset_ne (by omega)]; exact hz j (by omega)
      · refine Wp.exit ?_
        refine Ends.then_exit ?_
        refine Ends.then_exit ?_
        refine Ends.block_hit ?_
        refine Ends.seq ?_
        refine Wp.seq ?_
        refine Wp.region ?_
        refine Ops.pv (pv_move rfl) rfl ?_
        refine Ops.pv (pv_assign rfl) rfl ?_
        refine Ops.pv (pv_assign rfl) rfl ?_
        refine Ops.nil ?_
        refine Ends.seq ?_
        refine Wp.ret ?_
        obtain rfl : d = 4 := by omega
        exact Ends.ret (L' := (b6, .cells [.slice tp T.length tq, .int .i64 0, w].toArray 64) :: (H2 ++ (J ++ (segs h 4 ++ G)))) (res2 rfl rfl rfl) (.inl ⟨Decidable.not_not.1 (by assumption), b6, _, rfl, ⟨_, _, w, J, rb, h, hs2, hw, hR, rfl⟩, by simp⟩)

end Go.Proofs.Ytpjodkcghiklcab
