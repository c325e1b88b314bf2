/- Walks of layer 18: an endpoint's methods, the program's and the document's, answer as the plain functions say. No condition. -/
import Derived.Test.YtpjodkcghiklcaaM18h
set_option linter.unusedVariables false
set_option linter.unusedSimpArgs false
namespace Go.Proofs.Ytpjodkcghiklcaa
open Go.SL

theorem tr_epNew  : Tr Try.prog 37 [] ([]) (fun u L' => ∃ pb, u = .pointer (some ⟨pb, 0, none⟩) ∧ EpH ⟨0, []⟩ pb L') := by
  refine Tr.enter Try.func37 rfl Try.ntmps37 rfl (fun W F => ?_)
  refine Wp.app ?_
  refine Wp.seq ?_
  refine Wp.region ?_
  refine Ops.pv (pv_assign rfl) rfl ?_
  refine Ops.nil ?_
  refine Ends.seq ?_
  refine Wp.seq ?_
  refine Wp.region ?_
  refine Ops.ef rfl (ef_call (tr_lnew) rfl rfl) ?_
  rintro _ _ ⟨_, _, ⟨lb1, rfl, rfl⟩, rfl, rfl⟩
  refine Ops.app ?_
  refine Ops.pv (pv_build rfl) rfl ?_
  refine Ops.ef rfl (ef_boxK rfl rfl) ?_
  rintro _ _ ⟨b1, rfl, rfl⟩
  refine Ops.pv (pv_assign rfl) rfl ?_
  refine Ops.nil ?_
  refine Ends.seq ?_
  refine Wp.ret ?_
  exact Ends.ret (L' := [(b1, .cells [.int .i64 0, .pointer (some ⟨lb1, 0, none⟩)].toArray 97), (lb1, .cells [.slice none 0 0].toArray 87)]) (res1 rfl rfl) ⟨b1, rfl, lb1, _, [], Slc.nil _ _, rfl⟩

theorem tr_meet (pb : Nat) (H : Hp) (S : Ep) (hH : EpH S pb H) (hl : S.l.length ≤ 2 ^ 20) (id way : Int) (wait : Bool) : Tr Try.prog 71 [.pointer (some ⟨pb, 0, none⟩), .int .i64 id, .int .i64 way, .bool wait] (H) (fun u L' => u = .tuple #[.int .i64 (meetV S id way), .bool (meetB S id way), .int .i64 (pushE S.l id)] ∧ EpH (meetS S id way wait) pb L') := by
  obtain ⟨w, l⟩ := S
  obtain ⟨lb, v, K, hs, rfl⟩ := hH
  dsimp only at hs hl ⊢
  refine Tr.enter Try.func71 rfl Try.ntmps71 rfl (fun W F => ?_)
  refine Wp.app ?_
  refine Wp.seq ?_
  refine Wp.region ?_
  refine Ops.pv (pv_assign rfl) rfl ?_
  refine Ops.pv (pv_assign rfl) rfl ?_
  refine Ops.pv (pv_assign rfl) rfl ?_
  refine Ops.nil ?_
  refine Ends.seq ?_
  refine Wp.seq ?_
  refine Wp.seq ?_
  refine Wp.region ?_
  refine Ops.pv (pv_move rfl) rfl ?_
  first | refine Ops.pv (pv_nilCheck rfl) rfl ?_ | refine Ops.pv (pv_nilCheck_func rfl rfl) rfl ?_
  first | refine Ops.pv (pv_fieldAddr0 rfl rfl) rfl ?_ | refine Ops.pv (pv_fieldAddr rfl rfl) rfl ?_
  first | refine Ops.pv (pv_load rfl rfl rfl) rfl ?_ | refine Ops.pv (pv_load rfl rfl (by assumption)) rfl ?_
  refine Ops.pv (pv_move rfl) rfl ?_
  refine Ops.ef rfl (ef_call (tr_lpush lb v K l id hs (by omega)) rfl rfl) ?_
  rintro _ _ ⟨_, _, ⟨rfl, v1, H1, hs1, rfl⟩, rfl, rfl⟩
  refine Ops.app ?_
  refine Ops.pv (pv_assign rfl) rfl ?_
  refine Ops.nil ?_
  refine Ends.seq ?_
  refine Wp.seq ?_
  refine Wp.region ?_
  refine Ops.pv (pv_move rfl) rfl ?_
  refine Ops.pv (pv_neq rfl rfl) rfl ?_
  refine Ops.nil ?_
  refine Ends.seq ?_
  first | refine Wp.cond_dect rfl (fun h1 => ?_) (fun h1 => ?_) | refine Wp.cond_t rfl (fun h1 => ?_) (fun h1 => ?_)
  · have he : ¬ pushE l id = 0 := by assumption
    rw [push_no he] at hs1
    refine Wp.seq ?_
    refine Wp.region ?_
    refine Ops.pv (pv_move rfl) rfl ?_
    refine Ops.pv (pv_assign rfl) rfl ?_
    refine Ops.pv (pv_assign rfl) rfl ?_
    refine Ops.pv (pv_assign rfl) rfl ?_
    refine Ops.nil ?_
    refine Ends.seq ?_
    refine Wp.ret ?_
    refine Ends.then_ret ?_
    obtain ⟨m1, m2, m3⟩ := meet_err (S := (⟨w, l⟩ : Ep)) (way := way) (wait := wait) he
    exact Ends.ret (L' := (pb, .cells [.int .i64 w, .pointer (some ⟨lb, 0, none⟩)].toArray 97) :: (lb, .cells [v1].toArray 87) :: H1) (res3 rfl rfl rfl rfl) ⟨by rw [m1, m2], by rw [m3]; exact ⟨lb, _, _, hs1, rfl⟩⟩
  · have he : pushE l id = 0 := by omega
    obtain ⟨hp1, hp2⟩ := push_ok0 he
    rw [hp1] at hs1
    obtain ⟨f, hf1, hf2, hf3⟩ := head_snoc hp2
    refine Wp.skip ?_
    refine Ends.seq ?_
    refine Wp.seq ?_
    refine Wp.region ?_
    refine Ops.pv (pv_move rfl) rfl ?_
    first | refine Ops.pv (pv_nilCheck rfl) rfl ?_ | refine Ops.pv (pv_nilCheck_func rfl rfl) rfl ?_
    first | refine Ops.pv (pv_fieldAddr0 rfl rfl) rfl ?_ | refine Ops.pv (pv_fieldAddr rfl rfl) rfl ?_
    first | refine Ops.pv (pv_load rfl rfl rfl) rfl ?_ | refine Ops.pv (pv_load rfl rfl (by assumption)) rfl ?_
    refine Ops.ef rfl (ef_call (tr_list lb v1 H1 (l ++ [id]) hs1 (by rw [List.length_append]; simp; omega)) rfl rfl) ?_
    rintro _ _ ⟨_, _, ⟨C1, hc1, rfl⟩, rfl, rfl⟩
    refine Ops.app ?_
    obtain ⟨p1, q1, rfl⟩ := hc1.form
    obtain ⟨b5, o5, cap5, cc5, T5, f5, hv5, hbv5, hr5⟩ := hc1.view.open (by simp)
    have hny := ints_nth hr5 hf1
    cases hv5
    refine Ops.pv (pv_indexAddr (i := 0) rfl rfl rfl (by first | omega | (simp; done) | (simp; omega))) rfl ?_
    refine Ops.pv (pv_load rfl rfl hny) rfl ?_
    refine Ops.pv (pv_assign rfl) rfl ?_
    refine Ops.nil ?_
    refine Ends.seq ?_
    refine Wp.seq ?_
    refine Wp.block ?_
    refine Wp.seq ?_
    refine Wp.region ?_
    refine Ops.pv (pv_move rfl) rfl ?_
    refine Ops.pv (pv_move rfl) rfl ?_
    refine Ops.pv (pv_neq rfl rfl) rfl ?_
    refine Ops.pv (pv_move rfl) rfl ?_
    refine Ops.pvc rfl rfl (fun hg => pv_move rfl) rfl ?_
    first | refine Ops.pvc rfl rfl (fun hg => Pv.setE (t := 40) rfl (cv_pos hg) (pv_nilCheck rfl)) rfl ?_ | refine Ops.pvc rfl rfl (fun hg => Pv.setE (t := 40) rfl (cv_pos hg) (pv_nilCheck_func rfl rfl)) rfl ?_
    first | refine Ops.pvc rfl rfl (fun hg => Pv.setE (t := 40) rfl (cv_pos hg) (Pv.setE (t := 41) rfl (cv_pos hg) (pv_fieldAddr0 rfl rfl))) rfl ?_ | refine Ops.pvc rfl rfl (fun hg => Pv.setE (t := 40) rfl (cv_pos hg) (Pv.setE (t := 41) rfl (cv_pos hg) (pv_fieldAddr rfl rfl))) rfl ?_
    first | refine Ops.pvc rfl rfl (fun hg => Pv.setE (t := 40) rfl (cv_pos hg) (Pv.setE (t := 41) rfl (cv_pos hg) (Pv.setE (t := 42) rfl (cv_pos hg) (pv_load rfl rfl rfl)))) rfl ?_ | refine Ops.pvc rfl rfl (fun hg => Pv.setE (t := 40) rfl (cv_pos hg) (Pv.setE (t := 41) rfl (cv_pos hg) (Pv.setE (t := 42) rfl (cv_pos hg) (pv_load rfl rfl (by assumption))))) rfl ?_
    refine Ops.pvc rfl rfl (fun hg => Pv.setE (t := 40) rfl (cv_pos hg) (Pv.setE (t := 41) rfl (cv_pos hg) (Pv.setE (t := 42) rfl (cv_pos hg) (Pv.setE (t := 43) rfl (cv_pos hg) (pv_move rfl))))) rfl ?_
    refine Ops.pvc rfl rfl (fun hg => Pv.setE (t := 40) rfl (cv_pos hg) (Pv.setE (t := 41) rfl (cv_pos hg) (Pv.setE (t := 42) rfl (cv_pos hg) (Pv.setE (t := 43) rfl (cv_pos hg) (Pv.setE (t := 44) rfl (cv_pos hg) (pv_neq rfl rfl)))))) rfl ?_
    refine Ops.pv (pv_pick_and rfl rfl) rfl ?_
    refine Ops.pv (pv_assign rfl) rfl ?_
    refine Ops.nil ?_
    refine Ends.seq ?_
    first | refine Wp.cond_dect rfl (fun hj => ?_) (fun hj => ?_) | refine Wp.cond_t rfl (fun hj => ?_) (fun hj => ?_)
    · refine Wp.seq ?_
      refine Wp.region ?_
      refine Ops.pv (pv_move rfl) rfl ?_
      first | refine Ops.pv (pv_nilCheck rfl) rfl ?_ | refine Ops.pv (pv_nilCheck_func rfl rfl) rfl ?_
      first | refine Ops.pv (pv_fieldAddr0 rfl rfl) rfl ?_ | refine Ops.pv (pv_fieldAddr rfl rfl) rfl ?_
      first | refine Ops.pv (pv_load rfl rfl rfl) rfl ?_ | refine Ops.pv (pv_load rfl rfl (by assumption)) rfl ?_
      refine Ops.pv (pv_move rfl) rfl ?_
      refine Ops.ef rfl (ef_call (tr_lremove lb v1 H1 (l ++ [id]) id hs1 (by rw [List.length_append]; simp; omega)) rfl rfl) ?_
      rintro _ _ ⟨_, _, ⟨rfl, v2, H2, hs2, rfl⟩, rfl, rfl⟩
      refine Ops.app ?_
      rw [rem_snoc hp2] at hs2
      refine Ops.nil ?_
      refine Ends.seq ?_
      refine Wp.seq ?_
      refine Wp.region ?_
      refine Ops.pv (pv_move rfl) rfl ?_
      first | refine Ops.pv (pv_nilCheck rfl) rfl ?_ | refine Ops.pv (pv_nilCheck_func rfl rfl) rfl ?_
      first | refine Ops.pv (pv_fieldAddr0 rfl rfl) rfl ?_ | refine Ops.pv (pv_fieldAddr rfl rfl) rfl ?_
      first | refine Ops.pv (pv_load rfl rfl rfl) rfl ?_ | refine Ops.pv (pv_load rfl rfl (by assumption)) rfl ?_
      refine Ops.ef rfl (ef_call (tr_lpop lb v2 H2 l hs2 (by omega)) rfl rfl) ?_
      rintro _ _ ⟨_, _, ⟨rfl, v3, H3, hs3, rfl⟩, rfl, rfl⟩
      refine Ops.app ?_
      refine Ops.nil ?_
      refine Ends.seq ?_
      refine Wp.seq ?_
      refine Wp.region ?_
      refine Ops.pv (pv_move rfl) rfl ?_
      refine Ops.pv (pv_assign rfl) rfl ?_
      refine Ops.pv (pv_assign rfl) rfl ?_
      refine Ops.pv (pv_assign rfl) rfl ?_
      refine Ops.nil ?_
      refine Ends.seq ?_
      refine Wp.ret ?_
      refine Ends.block_ret ?_
      refine Ends.then_ret ?_
      obtain ⟨m1, m2, m3⟩ := meet_yes (S := (⟨w, l⟩ : Ep)) (way := way) (wait := wait) he (hf2.1 hj.1) hj.2
      exact Ends.ret (L' := (pb, .cells [.int .i64 w, .pointer (some ⟨lb, 0, none⟩)].toArray 97) :: (lb, .cells [v3].toArray 87) :: H3) (res3 rfl rfl rfl rfl) ⟨by rw [m1, m2, hf3 (hf2.1 hj.1), he], by rw [m3]; exact ⟨lb, _, _, hs3, rfl⟩⟩
    · refine Wp.seq ?_
      refine Wp.region ?_
      refine Ops.pv (pv_move rfl) rfl ?_
      refine Ops.pv (pv_assign rfl) rfl ?_
      refine Ops.nil ?_
      refine Ends.seq ?_
      first | refine Wp.cond_dect rfl (fun h3 => ?_) (fun h3 => ?_) | refine Wp.cond_t rfl (fun h3 => ?_) (fun h3 => ?_)
      · refine Wp.region ?_
        refine Ops.pv (pv_move rfl) rfl ?_
        refine Ops.pv (pv_move rfl) rfl ?_
        first | refine Ops.pv (pv_nilCheck rfl) rfl ?_ | refine Ops.pv (pv_nilCheck_func rfl rfl) rfl ?_
        first | refine Ops.pv (pv_fieldAddr0 rfl rfl) rfl ?_ | refine Ops.pv (pv_fieldAddr rfl rfl) rfl ?_
        refine Ops.ef rfl (ef_store1 rfl rfl (by first | rfl | assumption) (by first | rfl | assumption)) ?_
        rintro _ _ ⟨rfl, rfl⟩
        refine Ops.nil ?_
        refine Ends.block_normal ?_
        refine Ends.seq ?_
        refine Wp.seq ?_
        refine Wp.region ?_
        refine Ops.pv (pv_assign rfl) rfl ?_
        refine Ops.pv (pv_assign rfl) rfl ?_
        refine Ops.pv (pv_assign rfl) rfl ?_
        refine Ops.nil ?_
        refine Ends.seq ?_
        refine Wp.ret ?_
        have hj2 : ¬ (l ≠ [] ∧ w ≠ way) := fun e => hj ⟨hf2.2 e.1, e.2⟩
        have hw : wait = true := by assumption
        subst hw
        obtain ⟨m1, m2, m3⟩ := meet_no (S := (⟨w, l⟩ : Ep)) (way := way) (wait := true) he hj2
        exact Ends.ret (L' := (pb, .cells [.int .i64 way, .pointer (some ⟨lb, 0, none⟩)].toArray 97) :: (lb, .cells [v1].toArray 87) :: H1) (res3 rfl rfl rfl rfl) ⟨by rw [m1, m2, he], by rw [m3]; exact ⟨lb, _, _, hs1, rfl⟩⟩
      · refine Wp.region ?_
        refine Ops.pv (pv_move rfl) rfl ?_
        first | refine Ops.pv (pv_nilCheck rfl) rfl ?_ | refine Ops.pv (pv_nilCheck_func rfl rfl) rfl ?_
        first | refine Ops.pv (pv_fieldAddr0 rfl rfl) rfl ?_ | refine Ops.pv (pv_fieldAddr rfl rfl) rfl ?_
        first | refine Ops.pv (pv_load rfl rfl rfl) rfl ?_ | refine Ops.pv (pv_load rfl rfl (by assumption)) rfl ?_
        refine Ops.pv (pv_move rfl) rfl ?_
        refine Ops.ef rfl (ef_call (tr_lremove lb v1 H1 (l ++ [id]) id hs1 (by rw [List.length_append]; simp; omega)) rfl rfl) ?_
        rintro _ _ ⟨_, _, ⟨rfl, v4, H4, hs4, rfl⟩, rfl, rfl⟩
        refine Ops.app ?_
        rw [rem_snoc hp2] at hs4
        refine Ops.nil ?_
        refine Ends.block_normal ?_
        refine Ends.seq ?_
        refine Wp.seq ?_
        refine Wp.region ?_
        refine Ops.pv (pv_assign rfl) rfl ?_
        refine Ops.pv (pv_assign rfl) rfl ?_
        refine Ops.pv (pv_assign rfl) rfl ?_
        refine Ops.nil ?_
        refine Ends.seq ?_
        refine Wp.ret ?_
        have hj2 : ¬ (l ≠ [] ∧ w ≠ way) := fun e => hj ⟨hf2.2 e.1, e.2⟩
        have hw : wait = false := by assumption
        subst hw
        obtain ⟨m1, m2, m3⟩ := meet_no (S := (⟨w, l⟩ : Ep)) (way := way) (wait := false) he hj2
        exact Ends.ret (L' := (pb, .cells [.int .i64 w, .pointer (some ⟨lb, 0, none⟩)].toArray 97) :: (lb, .cells [v4].toArray 87) :: H4) (res3 rfl rfl rfl rfl) ⟨by rw [m1, m2, he], by rw [m3]; exact ⟨lb, _, _, hs4, rfl⟩⟩

theorem tr_epSend (pb : Nat) (H : Hp) (S : Ep) (hH : EpH S pb H) (hl : S.l.length ≤ 2 ^ 20) (id : Int) (wait : Bool) : Tr Try.prog 39 [.pointer (some ⟨pb, 0, none⟩), .int .i64 id, .bool wait] (H) (fun u L' => u = .tuple #[.int .i64 (meetV S id (wOf false)), .bool (meetB S id (wOf false)), .int .i64 (pushE S.l id)] ∧ EpH (meetS S id (wOf false) wait) pb L') := by
  refine Tr.enter Try.func39 rfl Try.ntmps39 rfl (fun W F => ?_)
  refine Wp.app ?_
  refine Wp.seq ?_
  refine Wp.region ?_
  refine Ops.pv (pv_assign rfl) rfl ?_
  refine Ops.pv (pv_assign rfl) rfl ?_
  refine Ops.pv (pv_assign rfl) rfl ?_
  refine Ops.nil ?_
  refine Ends.seq ?_
  refine Wp.seq ?_
  refine Wp.region ?_
  refine Ops.pv (pv_move rfl) rfl ?_
  refine Ops.pv (pv_move rfl) rfl ?_
  refine Ops.pv (pv_move rfl) rfl ?_
  refine Ops.ef rfl (ef_call (tr_meet pb H S hH hl id (wOf false) wait) rfl rfl) ?_
  rintro _ _ ⟨_, _, ⟨rfl, hH1⟩, rfl, rfl⟩
  refine Ops.app ?_
  refine Ops.pv (pv_extract rfl rfl) rfl ?_
  refine Ops.pv (pv_extract rfl rfl) rfl ?_
  refine Ops.pv (pv_extract rfl rfl) rfl ?_
  refine Ops.pv (pv_assign rfl) rfl ?_
  refine Ops.pv (pv_assign rfl) rfl ?_
  refine Ops.pv (pv_assign rfl) rfl ?_
  refine Ops.nil ?_
  refine Ends.seq ?_
  refine Wp.ret ?_
  exact Ends.ret (res3 rfl rfl rfl rfl) ⟨rfl, hH1⟩

theorem tr_epRecv (pb : Nat) (H : Hp) (S : Ep) (hH : EpH S pb H) (hl : S.l.length ≤ 2 ^ 20) (id : Int) (wait : Bool) : Tr Try.prog 40 [.pointer (some ⟨pb, 0, none⟩), .int .i64 id, .bool wait] (H) (fun u L' => u = .tuple #[.int .i64 (meetV S id (wOf true)), .bool (meetB S id (wOf true)), .int .i64 (pushE S.l id)] ∧ EpH (meetS S id (wOf true) wait) pb L') := by
  refine Tr.enter Try.func40 rfl Try.ntmps40 rfl (fun W F => ?_)
  refine Wp.app ?_
  refine Wp.seq ?_
  refine Wp.region ?_
  refine Ops.pv (pv_assign rfl) rfl ?_
  refine Ops.pv (pv_assign rfl) rfl ?_
  refine Ops.pv (pv_assign rfl) rfl ?_
  refine Ops.nil ?_
  refine Ends.seq ?_
  refine Wp.seq ?_
  refine Wp.region ?_
  refine Ops.pv (pv_move rfl) rfl ?_
  refine Ops.pv (pv_move rfl) rfl ?_
  refine Ops.pv (pv_move rfl) rfl ?_
  refine Ops.ef rfl (ef_call (tr_meet pb H S hH hl id (wOf true) wait) rfl rfl) ?_
  rintro _ _ ⟨_, _, ⟨rfl, hH1⟩, rfl, rfl⟩
  refine Ops.app ?_
  refine Ops.pv (pv_extract rfl rfl) rfl ?_
  refine Ops.pv (pv_extract rfl rfl) rfl ?_
  refine Ops.pv (pv_extract rfl rfl) rfl ?_
  refine Ops.pv (pv_assign rfl) rfl ?_
  refine Ops.pv (pv_assign rfl) rfl ?_
  refine Ops.pv (pv_assign rfl) rfl ?_
  refine Ops.nil ?_
  refine Ends.seq ?_
  refine Wp.ret ?_
  exact Ends.ret (res3 rfl rfl rfl rfl) ⟨rfl, hH1⟩

theorem tr_epCancel (pb : Nat) (H : Hp) (S : Ep) (hH : EpH S pb H) (hl : S.l.length ≤ 2 ^ 20) (id : Int) : Tr Try.prog 38 [.pointer (some ⟨pb, 0, none⟩), .int .i64 id] (H) (fun u L' => u = .bool (remB S.l id) ∧ EpH ⟨S.w, remL S.l id⟩ pb L') := by
  obtain ⟨w, l⟩ := S
  obtain ⟨lb, v, K, hs, rfl⟩ := hH
  dsimp only at hs hl ⊢
  refine Tr.enter Try.func38 rfl Try.ntmps38 rfl (fun W F => ?_)
  refine Wp.app ?_
  refine Wp.seq ?_
  refine Wp.region ?_
  refine Ops.pv (pv_assign rfl) rfl ?_
  refine Ops.nil ?_
  refine Ends.seq ?_
  refine Wp.seq ?_
  refine Wp.region ?_
  refine Ops.pv (pv_move rfl) rfl ?_
  first | refine Ops.pv (pv_nilCheck rfl) rfl ?_ | refine Ops.pv (pv_nilCheck_func rfl rfl) rfl ?_
  first | refine Ops.pv (pv_fieldAddr0 rfl rfl) rfl ?_ | refine Ops.pv (pv_fieldAddr rfl rfl) rfl ?_
  first | refine Ops.pv (pv_load rfl rfl rfl) rfl ?_ | refine Ops.pv (pv_load rfl rfl (by assumption)) rfl ?_
  refine Ops.pv (pv_move rfl) rfl ?_
  refine Ops.ef rfl (ef_call (tr_lremove lb v K l id hs (by omega)) rfl rfl) ?_
  rintro _ _ ⟨_, _, ⟨rfl, v1, H1, hs1, rfl⟩, rfl, rfl⟩
  refine Ops.app ?_
  refine Ops.pv (pv_assign rfl) rfl ?_
  refine Ops.nil ?_
  refine Ends.seq ?_
  refine Wp.ret ?_
  exact Ends.ret (L' := (pb, .cells [.int .i64 w, .pointer (some ⟨lb, 0, none⟩)].toArray 97) :: (lb, .cells [v1].toArray 87) :: H1) (res1 rfl rfl) ⟨rfl, lb, _, _, hs1, rfl⟩

theorem tr_epState (pb : Nat) (H : Hp) (S : Ep) (hH : EpH S pb H) (hl : S.l.length ≤ 2 ^ 20) : Tr Try.prog 41 [.pointer (some ⟨pb, 0, none⟩)] (H) (fun u L' => ∃ v' H', u = .tuple #[.int .i64 (stW S), v'] ∧ Slc 3 1 v' S.l.length (intsC S.l) H' ∧ L' = H' ++ H) := by
  obtain ⟨w, l⟩ := S
  obtain ⟨lb, v, K, hs, rfl⟩ := hH
  dsimp only at hs hl ⊢
  refine Tr.enter Try.func41 rfl Try.ntmps41 rfl (fun W F => ?_)
  refine Wp.app ?_
  refine Wp.seq ?_
  refine Wp.region ?_
  refine Ops.pv (pv_assign rfl) rfl ?_
  refine Ops.pv (pv_assign rfl) rfl ?_
  refine Ops.nil ?_
  refine Ends.seq ?_
  refine Wp.seq ?_
  refine Wp.region ?_
  refine Ops.pv (pv_move rfl) rfl ?_
  first | refine Ops.pv (pv_nilCheck rfl) rfl ?_ | refine Ops.pv (pv_nilCheck_func rfl rfl) rfl ?_
  first | refine Ops.pv (pv_fieldAddr0 rfl rfl) rfl ?_ | refine Ops.pv (pv_fieldAddr rfl rfl) rfl ?_
  first | refine Ops.pv (pv_load rfl rfl rfl) rfl ?_ | refine Ops.pv (pv_load rfl rfl (by assumption)) rfl ?_
  refine Ops.ef rfl (ef_call (tr_list lb v K l hs (by omega)) rfl rfl) ?_
  rintro _ _ ⟨_, _, ⟨C1, hc1, rfl⟩, rfl, rfl⟩
  refine Ops.app ?_
  obtain ⟨p1, q1, rfl⟩ := hc1.form
  refine Ops.pv (pv_assign rfl) rfl ?_
  refine Ops.nil ?_
  refine Ends.seq ?_
  refine Wp.seq ?_
  refine Wp.seq ?_
  refine Wp.region ?_
  refine Ops.pv (pv_move rfl) rfl ?_
  refine Ops.pv (pv_len_slice (T := 26) rfl rfl) rfl ?_
  refine Ops.pv (pv_eql rfl rfl) rfl ?_
  refine Ops.nil ?_
  refine Ends.seq ?_
  first | refine Wp.cond_dect rfl (fun h1 => ?_) (fun h1 => ?_) | refine Wp.cond_t rfl (fun h1 => ?_) (fun h1 => ?_)
  · refine Wp.seq ?_
    refine Wp.region ?_
    refine Ops.pv (pv_assign rfl) rfl ?_
    refine Ops.pv (pv_assign rfl) rfl ?_
    refine Ops.nil ?_
    refine Ends.seq ?_
    refine Wp.ret ?_
    refine Ends.then_ret ?_
    obtain rfl : l = [] := List.eq_nil_of_length_eq_zero (by omega)
    exact Ends.ret (L' := (pb, .cells [.int .i64 w, .pointer (some ⟨lb, 0, none⟩)].toArray 97) :: (lb, .cells [v].toArray 87) :: K) (res2 rfl rfl rfl) ⟨_, [], rfl, Slc.nil _ _, rfl⟩
  · refine Wp.skip ?_
    refine Ends.seq ?_
    refine Wp.seq ?_
    refine Wp.region ?_
    refine Ops.pv (pv_move rfl) rfl ?_
    first | refine Ops.pv (pv_nilCheck rfl) rfl ?_ | refine Ops.pv (pv_nilCheck_func rfl rfl) rfl ?_
    first | refine Ops.pv (pv_fieldAddr0 rfl rfl) rfl ?_ | refine Ops.pv (pv_fieldAddr rfl rfl) rfl ?_
    first | refine Ops.pv (pv_load rfl rfl rfl) rfl ?_ | refine Ops.pv (pv_load rfl rfl (by assumption)) rfl ?_
    refine Ops.pv (pv_move rfl) rfl ?_
    refine Ops.pv (pv_assign rfl) rfl ?_
    refine Ops.pv (pv_assign rfl) rfl ?_
    refine Ops.nil ?_
    refine Ends.seq ?_
    refine Wp.ret ?_
    have hn : l ≠ [] := by rintro rfl; simp_all
    exact Ends.ret (L' := C1 ++ ((pb, .cells [.int .i64 w, .pointer (some ⟨lb, 0, none⟩)].toArray 97) :: (lb, .cells [v].toArray 87) :: K)) (res2 rfl rfl rfl) ⟨_, C1, by rw [stW, if_neg hn], hc1, rfl⟩

theorem tr_epClear (pb : Nat) (H : Hp) (S : Ep) (hH : EpH S pb H) (hl : S.l.length ≤ 2 ^ 20) : Tr Try.prog 42 [.pointer (some ⟨pb, 0, none⟩)] (H) (fun u L' => ∃ K' H', Slc 3 1 u S.l.length (intsC S.l) K' ∧ EpH ⟨S.w, []⟩ pb H' ∧ L' = K' ++ H') := by
  obtain ⟨w, l⟩ := S
  obtain ⟨lb, v, K, hs, rfl⟩ := hH
  dsimp only at hs hl ⊢
  refine Tr.enter Try.func42 rfl Try.ntmps42 rfl (fun W F => ?_)
  refine Wp.app ?_
  refine Wp.seq ?_
  refine Wp.region ?_
  refine Ops.pv (pv_assign rfl) rfl ?_
  refine Ops.nil ?_
  refine Ends.seq ?_
  refine Wp.seq ?_
  refine Wp.region ?_
  refine Ops.pv (pv_move rfl) rfl ?_
  first | refine Ops.pv (pv_nilCheck rfl) rfl ?_ | refine Ops.pv (pv_nilCheck_func rfl rfl) rfl ?_
  first | refine Ops.pv (pv_fieldAddr0 rfl rfl) rfl ?_ | refine Ops.pv (pv_fieldAddr rfl rfl) rfl ?_
  first | refine Ops.pv (pv_load rfl rfl rfl) rfl ?_ | refine Ops.pv (pv_load rfl rfl (by assumption)) rfl ?_
  refine Ops.ef rfl (ef_call (tr_list lb v K l hs (by omega)) rfl rfl) ?_
  rintro _ _ ⟨_, _, ⟨C1, hc1, rfl⟩, rfl, rfl⟩
  refine Ops.app ?_
  obtain ⟨p1, q1, rfl⟩ := hc1.form
  refine Ops.pv (pv_assign rfl) rfl ?_
  refine Ops.nil ?_
  refine Ends.seq ?_
  refine Wp.seq ?_
  refine Wp.region ?_
  refine Ops.pv (pv_move rfl) rfl ?_
  refine Ops.ef rfl (ef_call (tr_lnew) rfl rfl) ?_
  rintro _ _ ⟨_, _, ⟨lb1, rfl, rfl⟩, rfl, rfl⟩
  refine Ops.app ?_
  first | refine Ops.pv (pv_nilCheck rfl) rfl ?_ | refine Ops.pv (pv_nilCheck_func rfl rfl) rfl ?_
  first | refine Ops.pv (pv_fieldAddr0 rfl rfl) rfl ?_ | refine Ops.pv (pv_fieldAddr rfl rfl) rfl ?_
  refine Ops.ef rfl (ef_store1 rfl rfl (by first | rfl | assumption) (by first | rfl | assumption)) ?_
  rintro _ _ ⟨rfl, rfl⟩
  refine Ops.nil ?_
  refine Ends.seq ?_
  refine Wp.seq ?_
  refine Wp.region ?_
  refine Ops.pv (pv_move rfl) rfl ?_
  refine Ops.pv (pv_assign rfl) rfl ?_
  refine Ops.nil ?_
  refine Ends.seq ?_
  refine Wp.ret ?_
  exact Ends.ret (L' := C1 ++ [(pb, .cells [.int .i64 w, .pointer (some ⟨lb1, 0, none⟩)].toArray 97), (lb1, .cells [.slice none 0 0].toArray 87)]) (res1 rfl rfl) ⟨C1, _, hc1, ⟨lb1, _, [], Slc.nil _ _, rfl⟩, rfl⟩

theorem tr_deat (qb : Nat) (v : Value) (K : Hp) (r : Bool) (l : List Int) (hs : Slc 3 1 v l.length (intsC l) K) (hl : l.length ≤ 2 ^ 20) (x : Int) : TrR Try.prog 73 [.pointer (some ⟨qb, 0, none⟩), .int .i64 x] ((qb, .cells [v, .bool r].toArray 67) :: K) (.int .i64 (idxM l x)) := by
  obtain ⟨a, c, rfl⟩ := hs.form
  have hv := hs.view
  refine Tr.enter Try.func73 rfl Try.ntmps73 rfl (fun W F => ?_)
  refine Wp.app ?_
  refine Wp.seq ?_
  refine Wp.region ?_
  refine Ops.pv (pv_assign rfl) rfl ?_
  refine Ops.nil ?_
  refine Ends.seq ?_
  refine Wp.seq ?_
  refine Wp.seq ?_
  refine Wp.region ?_
  refine Ops.pv (pv_assign rfl) rfl ?_
  refine Ops.nil ?_
  refine Ends.seq ?_
  refine Wp.block ?_
  refine Wp.loopK (σ := Nat) [(0, _), (1, _)] (fun s => [(5, .int .i64 s)]) (fun s => (qb, .cells [.slice a l.length c, .bool r].toArray 67) :: (K ++ F)) (fun s => s ≤ l.length ∧ ∀ j, j < s → l[j]? ≠ some x) (fun s => l.length - s) 0 ⟨Nat.zero_le _, fun j hj => absurd hj (Nat.not_lt_zero j)⟩ ⟨rfl, rfl, trivial⟩ ⟨rfl, trivial⟩ (by intro w ho; (try dsimp only [List.nil_append, List.cons_append]); exact Drop.own ho) ?_
  rintro i KK ⟨hi, hn⟩ hK
  dsimp only [List.cons_append, List.nil_append] at hK ⊢
  refine Wp.seq ?_
  refine Wp.seq ?_
  refine Wp.region ?_
  refine Ops.pv (pv_move rfl) rfl ?_
  refine Ops.pv (pv_move rfl) rfl ?_
  first | refine Ops.pv (pv_nilCheck rfl) rfl ?_ | refine Ops.pv (pv_nilCheck_func rfl rfl) rfl ?_
  first | refine Ops.pv (pv_fieldAddr0 rfl rfl) rfl ?_ | refine Ops.pv (pv_fieldAddr rfl rfl) rfl ?_
  first | refine Ops.pv (pv_load rfl rfl rfl) rfl ?_ | refine Ops.pv (pv_load rfl rfl (by assumption)) rfl ?_
  refine Ops.pv (pv_len_slice (T := 26) rfl rfl) rfl ?_
  refine Ops.pv (pv_lss rfl rfl) rfl ?_
  refine Ops.nil ?_
  refine Ends.seq ?_
  first | refine Wp.cond_dect rfl (fun h1 => ?_) (fun h1 => ?_) | refine Wp.cond_t rfl (fun h1 => ?_) (fun h1 => ?_)
  · obtain ⟨b, o, cap, cc, T, f, hv1, hbv, hr⟩ := hv.open (by omega)
    cases hv1
    obtain ⟨y, hy⟩ : ∃ y, l[i]? = some y := ⟨_, List.getElem?_eq_getElem (by omega)⟩
    have hny := ints_nth hr hy
    refine Wp.skip ?_
    refine Ends.seq ?_
    refine Wp.seq ?_
    refine Wp.block ?_
    refine Wp.seq ?_
    refine Wp.region ?_
    refine Ops.pv (pv_move rfl) rfl ?_
    first | refine Ops.pv (pv_nilCheck rfl) rfl ?_ | refine Ops.pv (pv_nilCheck_func rfl rfl) rfl ?_
    first | refine Ops.pv (pv_fieldAddr0 rfl rfl) rfl ?_ | refine Ops.pv (pv_fieldAddr rfl rfl) rfl ?_
    first | refine Ops.pv (pv_load rfl rfl rfl) rfl ?_ | refine Ops.pv (pv_load rfl rfl (by assumption)) rfl ?_
    refine Ops.pv (pv_move rfl) rfl ?_
    refine Ops.pv (pv_indexAddr rfl rfl rfl (by omega)) rfl ?_
    first | refine Ops.pv (pv_load rfl rfl rfl) rfl ?_ | refine Ops.pv (pv_load rfl rfl (by assumption)) rfl ?_
    refine Ops.pv (pv_move rfl) rfl ?_
    refine Ops.pv (pv_eql rfl rfl) rfl ?_
    refine Ops.nil ?_
    refine Ends.seq ?_
    first | refine Wp.cond_dect rfl (fun h2 => ?_) (fun h2 => ?_) | refine Wp.cond_t rfl (fun h2 => ?_) (fun h2 => ?_)
    · refine Wp.seq ?_
      refine Wp.region ?_
      refine Ops.pv (pv_move rfl) rfl ?_
      refine Ops.pv (pv_assign rfl) rfl ?_
      refine Ops.nil ?_
      refine Ends.seq ?_
      refine Wp.ret ?_
      refine Ends.block_ret ?_
      refine Ends.then_ret ?_
      refine Ends.then_ret ?_
      refine Ends.block_ret ?_
      refine Ends.then_ret ?_
      exact Ends.ret (res1 rfl rfl) ⟨by rw [idx_hit (i := i) (by rw [hy]; congr 1) hn], rfl⟩
    · refine Wp.skip ?_
      refine Ends.block_normal ?_
      refine Ends.seq ?_
      refine Wp.region ?_
      refine Ops.pv (pv_move rfl) rfl ?_
      first | refine Ops.pv (pv_add rfl rfl (w64 (by omega) (by omega))) rfl ?_ | refine Ops.pv (pv_add rfl rfl rfl) rfl ?_
      refine Ops.pv (pv_assign rfl) rfl ?_
      refine Ops.nil ?_
      refine Ends.goes ?_
      refine Goes.back (hK (i + 1) ⟨by omega, fun j hj => ?_⟩ (by omega)) ⟨rfl, rfl, rfl, trivial⟩
      rcases Nat.lt_succ_iff_lt_or_eq.1 hj with hj | rfl
      · exact hn j hj
      · rw [hy]; intro e; cases e; omega
  · refine Wp.exit ?_
    refine Ends.then_exit ?_
    refine Ends.then_exit ?_
    refine Ends.block_hit ?_
    refine Ends.seq ?_
    refine Wp.seq ?_
    refine Wp.region ?_
    refine Ops.pv (pv_assign rfl) rfl ?_
    refine Ops.nil ?_
    refine Ends.seq ?_
    refine Wp.ret ?_
    exact Ends.ret (res1 rfl rfl) ⟨by rw [idx_miss (fun j hj => hn j (by omega))], rfl⟩

theorem tr_demeet (qb : Nat) (v : Value) (K : Hp) (r : Bool) (l : List Int) (hs : Slc 3 1 v l.length (intsC l) K) (hl : l.length ≤ 2 ^ 20) (id : Int) (wait rc : Bool) : Tr Try.prog 72 [.pointer (some ⟨qb, 0, none⟩), .int .i64 id, .bool wait, .bool rc] ((qb, .cells [v, .bool r].toArray 67) :: K) (fun u L' => u = .tuple #[.int .i64 (meetV ⟨wOf r, l⟩ id (wOf rc)), .bool (meetB ⟨wOf r, l⟩ id (wOf rc)), .int .i64 (pushE l id)] ∧ ∃ v' K', Slc 3 1 v' (meetS ⟨wOf r, l⟩ id (wOf rc) wait).l.length (intsC (meetS ⟨wOf r, l⟩ id (wOf rc) wait).l) K' ∧ L' = (qb, .cells [v', .bool (meetR r l id rc wait)].toArray 67) :: K') := by
  obtain ⟨a, c, rfl⟩ := hs.form
  have hv := hs.view
  refine Tr.enter Try.func72 rfl Try.ntmps72 rfl (fun W F => ?_)
  refine Wp.app ?_
  refine Wp.seq ?_
  refine Wp.region ?_
  refine Ops.pv (pv_assign rfl) rfl ?_
  refine Ops.pv (pv_assign rfl) rfl ?_
  refine Ops.pv (pv_assign rfl) rfl ?_
  refine Ops.nil ?_
  refine Ends.seq ?_
  refine Wp.seq ?_
  refine Wp.block ?_
  refine Wp.seq ?_
  refine Wp.region ?_
  refine Ops.pv (pv_move rfl) rfl ?_
  refine Ops.pv (pv_lss rfl rfl) rfl ?_
  refine Ops.pv (pv_move rfl) rfl ?_
  refine Ops.pvcn rfl rfl (fun hg => pv_move rfl) rfl ?_
  refine Ops.pvcn rfl rfl (fun hg => Pv.setE (t := 16) rfl (cv_pos hg) (pv_gtr rfl rfl)) rfl ?_
  refine Ops.pv (pv_pick_or rfl rfl) rfl ?_
  refine Ops.pv (pv_assign rfl) rfl ?_
  refine Ops.nil ?_
  refine Ends.seq ?_
  first | refine Wp.cond_dect rfl (fun h1 => ?_) (fun h1 => ?_) | refine Wp.cond_t rfl (fun h1 => ?_) (fun h1 => ?_)
  · refine Wp.seq ?_
    refine Wp.region ?_
    refine Ops.pv (pv_assign rfl) rfl ?_
    refine Ops.pv (pv_assign rfl) rfl ?_
    refine Ops.pv (pv_assign rfl) rfl ?_
    refine Ops.nil ?_
    refine Ends.seq ?_
    refine Wp.ret ?_
    refine Ends.block_ret ?_
    refine Ends.then_ret ?_
    have he1 := (pushL_range (l := l) (x := id) (by simp [rightM]; omega)).1
    obtain ⟨m1, m2, m3, m4⟩ := dmeet_err (l := l) (r := r) (rc := rc) (wait := wait) (id := id) (by omega)
    exact Ends.ret (L' := (qb, .cells [.slice a l.length c, .bool r].toArray 67) :: K) (res3 rfl rfl rfl rfl) ⟨by rw [m1, m2, he1], _, _, by rw [m3]; exact hs, by rw [m4]⟩
  · refine Wp.seq ?_
    refine Wp.region ?_
    refine Ops.pv (pv_move rfl) rfl ?_
    refine Ops.pv (pv_move rfl) rfl ?_
    refine Ops.ef rfl (ef_callr (tr_deat qb _ K r l hs hl id) rfl rfl) ?_
    rintro _ _ ⟨rfl, rfl⟩
    refine Ops.pv (pv_geq rfl rfl) rfl ?_
    refine Ops.pv (pv_assign rfl) rfl ?_
    refine Ops.nil ?_
    refine Ends.seq ?_
    first | refine Wp.cond_dect rfl (fun h2 => ?_) (fun h2 => ?_) | refine Wp.cond_t rfl (fun h2 => ?_) (fun h2 => ?_)
    · refine Wp.seq ?_
      refine Wp.region ?_
      refine Ops.pv (pv_assign rfl) rfl ?_
      refine Ops.pv (pv_assign rfl) rfl ?_
      refine Ops.pv (pv_assign rfl) rfl ?_
      refine Ops.nil ?_
      refine Ends.seq ?_
      refine Wp.ret ?_
      refine Ends.block_ret ?_
      refine Ends.then_ret ?_
      have he1 := (pushL_twice (l := l) (x := id) (by simp [rightM]; omega) (by omega)).1
      obtain ⟨m1, m2, m3, m4⟩ := dmeet_err (l := l) (r := r) (rc := rc) (wait := wait) (id := id) (by omega)
      exact Ends.ret (L' := (qb, .cells [.slice a l.length c, .bool r].toArray 67) :: K) (res3 rfl rfl rfl rfl) ⟨by rw [m1, m2, he1], _, _, by rw [m3]; exact hs, by rw [m4]⟩
    · refine Wp.skip ?_
      refine Ends.block_normal ?_
      refine Ends.seq ?_
      refine Wp.seq ?_
      refine Wp.seq ?_
      refine Wp.region ?_
      have hri : rightM id = true := by simp [rightM]; omega
      have hnm : id ∉ l := fun e => by have := (idx_mem _ _).2 e; omega
      have he := push_zero hri hnm
      refine Ops.pv (pv_move rfl) rfl ?_
      first | refine Ops.pv (pv_nilCheck rfl) rfl ?_ | refine Ops.pv (pv_nilCheck_func rfl rfl) rfl ?_
      first | refine Ops.pv (pv_fieldAddr0 rfl rfl) rfl ?_ | refine Ops.pv (pv_fieldAddr rfl rfl) rfl ?_
      first | refine Ops.pv (pv_load rfl rfl rfl) rfl ?_ | refine Ops.pv (pv_load rfl rfl (by assumption)) rfl ?_
      refine Ops.pv (pv_len_slice (T := 26) rfl rfl) rfl ?_
      refine Ops.pv (pv_gtr rfl rfl) rfl ?_
      refine Ops.pv (pv_move rfl) rfl ?_
      first | refine Ops.split (t := 30) rfl (fun h3 => ?_) (fun h3 => ?_) | refine Ops.splitb (t := 30) rfl (fun h3 => ?_) (fun h3 => ?_)
      · refine Ops.pvg ⟨_, _, rfl, rfl, rfl⟩ (pv_move rfl) rfl ?_
        first | refine Ops.pvg ⟨_, _, rfl, rfl, rfl⟩ (pv_nilCheck rfl) rfl ?_ | refine Ops.pvg ⟨_, _, rfl, rfl, rfl⟩ (pv_nilCheck_func rfl rfl) rfl ?_
        first | refine Ops.pvg ⟨_, _, rfl, rfl, rfl⟩ (pv_fieldAddr0 rfl rfl) rfl ?_ | refine Ops.pvg ⟨_, _, rfl, rfl, rfl⟩ (pv_fieldAddr rfl rfl) rfl ?_
        first | refine Ops.pvg ⟨_, _, rfl, rfl, rfl⟩ (pv_load rfl rfl rfl) rfl ?_ | refine Ops.pvg ⟨_, _, rfl, rfl, rfl⟩ (pv_load rfl rfl (by assumption)) rfl ?_
        refine Ops.pvg ⟨_, _, rfl, rfl, rfl⟩ (pv_move rfl) rfl ?_
        refine Ops.pvg ⟨_, _, rfl, rfl, rfl⟩ (pv_neq_bool rfl rfl) rfl ?_
        refine Ops.pv (pv_pick_true rfl rfl) rfl ?_
        refine Ops.nil ?_
        refine Ends.seq ?_
        first | refine Wp.cond_dect rfl (fun h4 => ?_) (fun h4 => ?_) | refine Wp.cond_t rfl (fun h4 => ?_) (fun h4 => ?_)
        · refine Wp.seq ?_
          refine Wp.region ?_
          obtain ⟨y, t, rfl⟩ : ∃ y t, l = y :: t := by cases l with | nil => simp_all | cons y t => exact ⟨y, t, rfl⟩
          obtain ⟨b, o, cap, cc, T, f, hv1, hbv, hr⟩ := hv.open (by simp)
          cases hv1
          have hny := ints_nth (i := 0) hr rfl
          refine Ops.pv (pv_move rfl) rfl ?_
          first | refine Ops.pv (pv_nilCheck rfl) rfl ?_ | refine Ops.pv (pv_nilCheck_func rfl rfl) rfl ?_
          first | refine Ops.pv (pv_fieldAddr0 rfl rfl) rfl ?_ | refine Ops.pv (pv_fieldAddr rfl rfl) rfl ?_
          first | refine Ops.pv (pv_load rfl rfl rfl) rfl ?_ | refine Ops.pv (pv_load rfl rfl (by assumption)) rfl ?_
          refine Ops.pv (pv_indexAddr (i := 0) rfl rfl rfl (by first | omega | (simp; done) | (simp; omega))) rfl ?_
          refine Ops.pv (pv_load rfl rfl hny) rfl ?_
          refine Ops.pv (pv_assign rfl) rfl ?_
          refine Ops.nil ?_
          refine Ends.seq ?_
          refine Wp.seq ?_
          refine Wp.region ?_
          refine Ops.pv (pv_move rfl) rfl ?_
          refine Ops.ef rfl (ef_buildSlice0 rfl) ?_
          rintro _ _ ⟨b1, rfl, rfl⟩
          refine Ops.pv (pv_move rfl) rfl ?_
          first | refine Ops.pv (pv_nilCheck rfl) rfl ?_ | refine Ops.pv (pv_nilCheck_func rfl rfl) rfl ?_
          first | refine Ops.pv (pv_fieldAddr0 rfl rfl) rfl ?_ | refine Ops.pv (pv_fieldAddr rfl rfl) rfl ?_
          first | refine Ops.pv (pv_load rfl rfl rfl) rfl ?_ | refine Ops.pv (pv_load rfl rfl (by assumption)) rfl ?_
          refine Ops.pv (pv_sliceL (i := 1) (j := t.length + 1) (r := (((y :: t).drop 1).take (t.length + 1 - 1)).length) rfl ⟨_, rfl⟩ rfl (by omega) (by have := hv.2; obtain ⟨_, _, e, h, _⟩ := this; cases e; exact h) (part_len (l := y :: t) (by omega) (by simp)).symm) rfl ?_
          refine Ops.ef rfl (ef_appendV (H := [(b1, .cells ([] : List Value).toArray 3)]) rfl (slc_empty 3 b1) rfl ((view_part hv (i := 1) (j := t.length + 1) (by omega) (by simp)).mono (by intro p hp; simp [hp])) (intsC_one _) (by simp only [List.length_take, List.length_drop, List.length_cons] at hl ⊢; omega) (by simp only [List.length_take, List.length_drop, List.length_cons] at hl ⊢; omega) rfl rfl) ?_
          rintro _ _ ⟨v1, H1, hs1, rfl, rfl⟩
          refine Ops.app ?_
          have ho1 := hs1.one
          have ho2 := hs1.cells1
          first | refine Ops.pv (pv_nilCheck rfl) rfl ?_ | refine Ops.pv (pv_nilCheck_func rfl rfl) rfl ?_
          first | refine Ops.pv (pv_fieldAddr0 rfl rfl) rfl ?_ | refine Ops.pv (pv_fieldAddr rfl rfl) rfl ?_
          refine Ops.ef rfl (ef_store1 rfl rfl (by first | rfl | assumption) (by first | rfl | assumption)) ?_
          rintro _ _ ⟨rfl, rfl⟩
          refine Ops.nil ?_
          refine Ends.seq ?_
          refine Wp.seq ?_
          refine Wp.region ?_
          refine Ops.pv (pv_move rfl) rfl ?_
          refine Ops.pv (pv_assign rfl) rfl ?_
          refine Ops.pv (pv_assign rfl) rfl ?_
          refine Ops.pv (pv_assign rfl) rfl ?_
          refine Ops.nil ?_
          refine Ends.seq ?_
          refine Wp.ret ?_
          refine Ends.then_ret ?_
          rw [Nat.zero_add, List.nil_append] at hs1
          have et : ((y :: t).drop 1).take (t.length + 1 - 1) = t := by simp
          rw [et] at hs1
          have hrc : r ≠ rc := by simp_all
          obtain ⟨m1, m2, m3, m4⟩ := dmeet_yes (l := y :: t) (r := r) (rc := rc) (wait := wait) (id := id) he (by simp) hrc
          exact Ends.ret (L' := (qb, .cells [v1, .bool r].toArray 67) :: H1) (res3 rfl rfl rfl rfl) ⟨by rw [m1, m2, he]; rfl, _, _, by rw [m3]; exact hs1, by rw [m4]⟩
        · refine Wp.skip ?_
          refine Ends.seq ?_
          refine Wp.seq ?_
          refine Wp.seq ?_
          refine Wp.region ?_
          refine Ops.pv (pv_move rfl) rfl ?_
          refine Ops.nil ?_
          refine Ends.seq ?_
          first | refine Wp.cond_dect rfl (fun h5 => ?_) (fun h5 => ?_) | refine Wp.cond_t rfl (fun h5 => ?_) (fun h5 => ?_)
          · refine Wp.seq ?_
            refine Wp.region ?_
            refine Ops.pv (pv_move rfl) rfl ?_
            refine Ops.pv (pv_move rfl) rfl ?_
            first | refine Ops.pv (pv_nilCheck rfl) rfl ?_ | refine Ops.pv (pv_nilCheck_func rfl rfl) rfl ?_
            first | refine Ops.pv (pv_fieldAddr0 rfl rfl) rfl ?_ | refine Ops.pv (pv_fieldAddr rfl rfl) rfl ?_
            first | refine Ops.pv (pv_load rfl rfl rfl) rfl ?_ | refine Ops.pv (pv_load rfl rfl (by assumption)) rfl ?_
            refine Ops.pv (pv_move rfl) rfl ?_
            refine Ops.ef rfl (ef_buildSlice1 (k := 1) rfl rfl rfl rfl rfl) ?_
            rintro _ _ ⟨b2, rfl, rfl⟩
            refine Ops.ef rfl (ef_append (H := K) (xs := [.int .i64 id]) rfl hs rfl ⟨rfl, trivial⟩ rfl rfl rfl (by omega) (by omega) rfl rfl) ?_
            rintro _ _ ⟨v2, H2, hs2, rfl, rfl⟩
            refine Ops.app ?_
            have ho1 := hs2.one
            have ho2 := hs2.cells1
            first | refine Ops.pv (pv_nilCheck rfl) rfl ?_ | refine Ops.pv (pv_nilCheck_func rfl rfl) rfl ?_
            first | refine Ops.pv (pv_fieldAddr0 rfl rfl) rfl ?_ | refine Ops.pv (pv_fieldAddr rfl rfl) rfl ?_
            refine Ops.ef rfl (ef_store1 rfl rfl (by first | rfl | assumption) (by first | rfl | assumption)) ?_
            rintro _ _ ⟨rfl, rfl⟩
            refine Ops.nil ?_
            refine Ends.seq ?_
            refine Wp.region ?_
            refine Ops.pv (pv_move rfl) rfl ?_
            refine Ops.pv (pv_move rfl) rfl ?_
            first | refine Ops.pv (pv_nilCheck rfl) rfl ?_ | refine Ops.pv (pv_nilCheck_func rfl rfl) rfl ?_
            first | refine Ops.pv (pv_fieldAddr0 rfl rfl) rfl ?_ | refine Ops.pv (pv_fieldAddr rfl rfl) rfl ?_
            refine Ops.ef rfl (ef_store1 rfl rfl (by first | rfl | assumption) (by first | rfl | assumption)) ?_
            rintro _ _ ⟨rfl, rfl⟩
            refine Ops.nil ?_
            refine Ends.seq ?_
            refine Wp.seq ?_
            refine Wp.region ?_
            refine Ops.pv (pv_assign rfl) rfl ?_
            refine Ops.pv (pv_assign rfl) rfl ?_
            refine Ops.pv (pv_assign rfl) rfl ?_
            refine Ops.nil ?_
            refine Ends.seq ?_
            refine Wp.ret ?_
            have hw : wait = true := by assumption
            subst hw
            obtain ⟨m1, m2, m3, m4⟩ := dmeet_no (l := l) (r := r) (rc := rc) (wait := true) (id := id) he (by rintro ⟨e1, e2⟩; simp_all)
            exact Ends.ret (L' := (qb, .cells [v2, .bool rc].toArray 67) :: H2) (res3 rfl rfl rfl rfl) ⟨by rw [m1, m2, he], _, _, by rw [m3]; exact (by rw [if_pos rfl, List.length_append, intsC_app]; exact hs2), by rw [m4, if_pos rfl]⟩
          · refine Wp.skip ?_
            refine Ends.seq ?_
            refine Wp.seq ?_
            refine Wp.region ?_
            refine Ops.pv (pv_assign rfl) rfl ?_
            refine Ops.pv (pv_assign rfl) rfl ?_
            refine Ops.pv (pv_assign rfl) rfl ?_
            refine Ops.nil ?_
            refine Ends.seq ?_
            refine Wp.ret ?_
            have hw : wait = false := by assumption
            subst hw
            obtain ⟨m1, m2, m3, m4⟩ := dmeet_no (l := l) (r := r) (rc := rc) (wait := false) (id := id) he (by rintro ⟨e1, e2⟩; simp_all)
            exact Ends.ret (L' := (qb, .cells [.slice a l.length c, .bool r].toArray 67) :: K) (res3 rfl rfl rfl rfl) ⟨by rw [m1, m2, he], _, _, by rw [m3]; exact (by rw [if_neg (by simp)]; exact hs), by rw [m4, if_neg (by simp)]⟩
      · refine Ops.skipg ⟨_, _, rfl, rfl, rfl⟩ rfl ?_
        refine Ops.skipg ⟨_, _, rfl, rfl, rfl⟩ rfl ?_
        refine Ops.skipg ⟨_, _, rfl, rfl, rfl⟩ rfl ?_
        refine Ops.skipg ⟨_, _, rfl, rfl, rfl⟩ rfl ?_
        refine Ops.skipg ⟨_, _, rfl, rfl, rfl⟩ rfl ?_
        refine Ops.skipg ⟨_, _, rfl, rfl, rfl⟩ rfl ?_
        refine Ops.pv (pv_pick_false rfl rfl) rfl ?_
        refine Ops.nil ?_
        refine Ends.seq ?_
        refine Wp.cond_false rfl ?_
        refine Wp.skip ?_
        refine Ends.seq ?_
        refine Wp.seq ?_
        refine Wp.seq ?_
        refine Wp.region ?_
        refine Ops.pv (pv_move rfl) rfl ?_
        refine Ops.nil ?_
        refine Ends.seq ?_
        first | refine Wp.cond_dect rfl (fun h6 => ?_) (fun h6 => ?_) | refine Wp.cond_t rfl (fun h6 => ?_) (fun h6 => ?_)
        · refine Wp.seq ?_
          refine Wp.region ?_
          refine Ops.pv (pv_move rfl) rfl ?_
          refine Ops.pv (pv_move rfl) rfl ?_
          first | refine Ops.pv (pv_nilCheck rfl) rfl ?_ | refine Ops.pv (pv_nilCheck_func rfl rfl) rfl ?_
          first | refine Ops.pv (pv_fieldAddr0 rfl rfl) rfl ?_ | refine Ops.pv (pv_fieldAddr rfl rfl) rfl ?_
          first | refine Ops.pv (pv_load rfl rfl rfl) rfl ?_ | refine Ops.pv (pv_load rfl rfl (by assumption)) rfl ?_
          refine Ops.pv (pv_move rfl) rfl ?_
          refine Ops.ef rfl (ef_buildSlice1 (k := 1) rfl rfl rfl rfl rfl) ?_
          rintro _ _ ⟨b3, rfl, rfl⟩
          refine Ops.ef rfl (ef_append (H := K) (xs := [.int .i64 id]) rfl hs rfl ⟨rfl, trivial⟩ rfl rfl rfl (by omega) (by omega) rfl rfl) ?_
          rintro _ _ ⟨v3, H3, hs3, rfl, rfl⟩
          refine Ops.app ?_
          have ho1 := hs3.one
          have ho2 := hs3.cells1
          first | refine Ops.pv (pv_nilCheck rfl) rfl ?_ | refine Ops.pv (pv_nilCheck_func rfl rfl) rfl ?_
          first | refine Ops.pv (pv_fieldAddr0 rfl rfl) rfl ?_ | refine Ops.pv (pv_fieldAddr rfl rfl) rfl ?_
          refine Ops.ef rfl (ef_store1 rfl rfl (by first | rfl | assumption) (by first | rfl | assumption)) ?_
          rintro _ _ ⟨rfl, rfl⟩
          refine Ops.nil ?_
          refine Ends.seq ?_
          refine Wp.region ?_
          refine Ops.pv (pv_move rfl) rfl ?_
          refine Ops.pv (pv_move rfl) rfl ?_
          first | refine Ops.pv (pv_nilCheck rfl) rfl ?_ | refine Ops.pv (pv_nilCheck_func rfl rfl) rfl ?_
          first | refine Ops.pv (pv_fieldAddr0 rfl rfl) rfl ?_ | refine Ops.pv (pv_fieldAddr rfl rfl) rfl ?_
          refine Ops.ef rfl (ef_store1 rfl rfl (by first | rfl | assumption) (by first | rfl | assumption)) ?_
          rintro _ _ ⟨rfl, rfl⟩
          refine Ops.nil ?_
          refine Ends.seq ?_
          refine Wp.seq ?_
          refine Wp.region ?_
          refine Ops.pv (pv_assign rfl) rfl ?_
          refine Ops.pv (pv_assign rfl) rfl ?_
          refine Ops.pv (pv_assign rfl) rfl ?_
          refine Ops.nil ?_
          refine Ends.seq ?_
          refine Wp.ret ?_
          have hw : wait = true := by assumption
          subst hw
          obtain ⟨m1, m2, m3, m4⟩ := dmeet_no (l := l) (r := r) (rc := rc) (wait := true) (id := id) he (by rintro ⟨e1, e2⟩; simp_all)
          exact Ends.ret (L' := (qb, .cells [v3, .bool rc].toArray 67) :: H3) (res3 rfl rfl rfl rfl) ⟨by rw [m1, m2, he], _, _, by rw [m3]; exact (by rw [if_pos rfl, List.length_append, intsC_app]; exact hs3), by rw [m4, if_pos rfl]⟩
        · refine Wp.skip ?_
          refine Ends.seq ?_
          refine Wp.seq ?_
          refine Wp.region ?_
          refine Ops.pv (pv_assign rfl) rfl ?_
          refine Ops.pv (pv_assign rfl) rfl ?_
          refine Ops.pv (pv_assign rfl) rfl ?_
          refine Ops.nil ?_
          refine Ends.seq ?_
          refine Wp.ret ?_
          have hw : wait = false := by assumption
          subst hw
          obtain ⟨m1, m2, m3, m4⟩ := dmeet_no (l := l) (r := r) (rc := rc) (wait := false) (id := id) he (by rintro ⟨e1, e2⟩; simp_all)
          exact Ends.ret (L' := (qb, .cells [.slice a l.length c, .bool r].toArray 67) :: K) (res3 rfl rfl rfl rfl) ⟨by rw [m1, m2, he], _, _, by rw [m3]; exact (by rw [if_neg (by simp)]; exact hs), by rw [m4, if_neg (by simp)]⟩

theorem tr_deSend (qb : Nat) (v : Value) (K : Hp) (r : Bool) (l : List Int) (hs : Slc 3 1 v l.length (intsC l) K) (hl : l.length ≤ 2 ^ 20) (id : Int) (wait : Bool) : Tr Try.prog 43 [.pointer (some ⟨qb, 0, none⟩), .int .i64 id, .bool wait] ((qb, .cells [v, .bool r].toArray 67) :: K) (fun u L' => u = .tuple #[.int .i64 (meetV ⟨wOf r, l⟩ id (wOf false)), .bool (meetB ⟨wOf r, l⟩ id (wOf false)), .int .i64 (pushE l id)] ∧ ∃ v' K', Slc 3 1 v' (meetS ⟨wOf r, l⟩ id (wOf false) wait).l.length (intsC (meetS ⟨wOf r, l⟩ id (wOf false) wait).l) K' ∧ L' = (qb, .cells [v', .bool (meetR r l id false wait)].toArray 67) :: K') := by
  refine Tr.enter Try.func43 rfl Try.ntmps43 rfl (fun W F => ?_)
  refine Wp.app ?_
  refine Wp.seq ?_
  refine Wp.region ?_
  refine Ops.pv (pv_assign rfl) rfl ?_
  refine Ops.pv (pv_assign rfl) rfl ?_
  refine Ops.pv (pv_assign rfl) rfl ?_
  refine Ops.nil ?_
  refine Ends.seq ?_
  refine Wp.seq ?_
  refine Wp.region ?_
  refine Ops.pv (pv_move rfl) rfl ?_
  refine Ops.pv (pv_move rfl) rfl ?_
  refine Ops.pv (pv_move rfl) rfl ?_
  refine Ops.ef rfl (ef_call (tr_demeet qb v K r l hs hl id wait false) rfl rfl) ?_
  rintro _ _ ⟨_, _, ⟨rfl, v1, K1, hs1, rfl⟩, rfl, rfl⟩
  refine Ops.app ?_
  refine Ops.pv (pv_extract rfl rfl) rfl ?_
  refine Ops.pv (pv_extract rfl rfl) rfl ?_
  refine Ops.pv (pv_extract rfl rfl) rfl ?_
  refine Ops.pv (pv_assign rfl) rfl ?_
  refine Ops.pv (pv_assign rfl) rfl ?_
  refine Ops.pv (pv_assign rfl) rfl ?_
  refine Ops.nil ?_
  refine Ends.seq ?_
  refine Wp.ret ?_
  exact Ends.ret (res3 rfl rfl rfl rfl) ⟨rfl, _, _, hs1, rfl⟩

theorem tr_deRecv (qb : Nat) (v : Value) (K : Hp) (r : Bool) (l : List Int) (hs : Slc 3 1 v l.length (intsC l) K) (hl : l.length ≤ 2 ^ 20) (id : Int) (wait : Bool) : Tr Try.prog 44 [.pointer (some ⟨qb, 0, none⟩), .int .i64 id, .bool wait] ((qb, .cells [v, .bool r].toArray 67) :: K) (fun u L' => u = .tuple #[.int .i64 (meetV ⟨wOf r, l⟩ id (wOf true)), .bool (meetB ⟨wOf r, l⟩ id (wOf true)), .int .i64 (pushE l id)] ∧ ∃ v' K', Slc 3 1 v' (meetS ⟨wOf r, l⟩ id (wOf true) wait).l.length (intsC (meetS ⟨wOf r, l⟩ id (wOf true) wait).l) K' ∧ L' = (qb, .cells [v', .bool (meetR r l id true wait)].toArray 67) :: K') := by
  refine Tr.enter Try.func44 rfl Try.ntmps44 rfl (fun W F => ?_)
  refine Wp.app ?_
  refine Wp.seq ?_
  refine Wp.region ?_
  refine Ops.pv (pv_assign rfl) rfl ?_
  refine Ops.pv (pv_assign rfl) rfl ?_
  refine Ops.pv (pv_assign rfl) rfl ?_
  refine Ops.nil ?_
  refine Ends.seq ?_
  refine Wp.seq ?_
  refine Wp.region ?_
  refine Ops.pv (pv_move rfl) rfl ?_
  refine Ops.pv (pv_move rfl) rfl ?_
  refine Ops.pv (pv_move rfl) rfl ?_
  refine Ops.ef rfl (ef_call (tr_demeet qb v K r l hs hl id wait true) rfl rfl) ?_
  rintro _ _ ⟨_, _, ⟨rfl, v1, K1, hs1, rfl⟩, rfl, rfl⟩
  refine Ops.app ?_
  refine Ops.pv (pv_extract rfl rfl) rfl ?_
  refine Ops.pv (pv_extract rfl rfl) rfl ?_
  refine Ops.pv (pv_extract rfl rfl) rfl ?_
  refine Ops.pv (pv_assign rfl) rfl ?_
  refine Ops.pv (pv_assign rfl) rfl ?_
  refine Ops.pv (pv_assign rfl) rfl ?_
  refine Ops.nil ?_
  refine Ends.seq ?_
  refine Wp.ret ?_
  exact Ends.ret (res3 rfl rfl rfl rfl) ⟨rfl, _, _, hs1, rfl⟩

theorem tr_deCancel (qb : Nat) (v : Value) (K : Hp) (r : Bool) (l : List Int) (hs : Slc 3 1 v l.length (intsC l) K) (hl : l.length ≤ 2 ^ 20) (x : Int) : Tr Try.prog 45 [.pointer (some ⟨qb, 0, none⟩), .int .i64 x] ((qb, .cells [v, .bool r].toArray 67) :: K) (fun u L' => u = .bool (remB l x) ∧ ∃ v' K', Slc 3 1 v' (remL l x).length (intsC (remL l x)) K' ∧ L' = (qb, .cells [v', .bool r].toArray 67) :: K') := by
  obtain ⟨a, c, rfl⟩ := hs.form
  have hv := hs.view
  have hlc : l.length ≤ c := by obtain ⟨_, _, _, e, h, _⟩ := hv; cases e; exact h
  refine Tr.enter Try.func45 rfl Try.ntmps45 rfl (fun W F => ?_)
  refine Wp.app ?_
  refine Wp.seq ?_
  refine Wp.region ?_
  refine Ops.pv (pv_assign rfl) rfl ?_
  refine Ops.nil ?_
  refine Ends.seq ?_
  refine Wp.seq ?_
  refine Wp.region ?_
  refine Ops.pv (pv_move rfl) rfl ?_
  refine Ops.pv (pv_move rfl) rfl ?_
  refine Ops.ef rfl (ef_callr (tr_deat qb _ K r l hs hl x) rfl rfl) ?_
  rintro _ _ ⟨rfl, rfl⟩
  refine Ops.pv (pv_assign rfl) rfl ?_
  refine Ops.nil ?_
  refine Ends.seq ?_
  refine Wp.seq ?_
  refine Wp.seq ?_
  refine Wp.region ?_
  refine Ops.pv (pv_move rfl) rfl ?_
  refine Ops.pv (pv_lss rfl rfl) rfl ?_
  refine Ops.nil ?_
  refine Ends.seq ?_
  first | refine Wp.cond_dect rfl (fun h1 => ?_) (fun h1 => ?_) | refine Wp.cond_t rfl (fun h1 => ?_) (fun h1 => ?_)
  · refine Wp.seq ?_
    refine Wp.region ?_
    refine Ops.pv (pv_assign rfl) rfl ?_
    refine Ops.nil ?_
    refine Ends.seq ?_
    refine Wp.ret ?_
    refine Ends.then_ret ?_
    exact Ends.ret (L' := (qb, .cells [.slice a l.length c, .bool r].toArray 67) :: K) (res1 rfl rfl) ⟨by rw [show remB l x = false from decide_eq_false (by omega)], _, K, by rw [show remL l x = l from if_neg (by omega)]; exact hs, rfl⟩
  · obtain ⟨i, hi⟩ : ∃ i : Nat, idxM l x = i := ⟨(idxM l x).toNat, by omega⟩
    have hil : i < l.length := by have := idx_lt l x; omega
    rw [hi]
    have hA := view_part hv (i := 0) (j := i) (Nat.zero_le _) (by omega)
    have hB := view_part hv (i := i + 1) (j := l.length) (by omega) (Nat.le_refl _)
    have eA : (l.drop 0).take (i - 0) = l.take i := by simp
    have eB : (l.drop (i + 1)).take (l.length - (i + 1)) = l.drop (i + 1) := List.take_of_length_le (by simp)
    have lA := part_len (l := l) (i := 0) (j := i) (Nat.zero_le _) (by omega)
    have lB := part_len (l := l) (i := i + 1) (j := l.length) (by omega) (Nat.le_refl _)
    rw [eA] at hA lA
    rw [eB] at hB lB
    have hrem : remL l x = l.take i ++ l.drop (i + 1) := by unfold remL; rw [if_pos (by omega), hi, Int.toNat_natCast]
    have hrb : remB l x = true := decide_eq_true (by omega)
    refine Wp.skip ?_
    refine Ends.seq ?_
    refine Wp.seq ?_
    refine AnyH.start K 20 rfl ?_
    refine AnyH.take 0 rfl (by kernel_rfl) (by kernel_rfl) (by kernel_rfl) PF.pf rfl (pv_move rfl) rfl ?_
    refine AnyH.take 2 rfl (by kernel_rfl) (by kernel_rfl) (by kernel_rfl) PF.pf rfl (pv_move rfl) rfl ?_
    first | refine AnyH.take 3 rfl (by kernel_rfl) (by kernel_rfl) (by kernel_rfl) PF.pf rfl (pv_nilCheck rfl) rfl ?_ | refine AnyH.take 3 rfl (by kernel_rfl) (by kernel_rfl) (by kernel_rfl) PF.pf rfl (pv_nilCheck_func rfl rfl) rfl ?_
    first | refine AnyH.take 4 rfl (by kernel_rfl) (by kernel_rfl) (by kernel_rfl) PF.pf rfl (pv_fieldAddr0 rfl rfl) rfl ?_ | refine AnyH.take 4 rfl (by kernel_rfl) (by kernel_rfl) (by kernel_rfl) PF.pf rfl (pv_fieldAddr rfl rfl) rfl ?_
    refine AnyH.take 6 rfl (by kernel_rfl) (by kernel_rfl) (by kernel_rfl) PF.pf rfl (pv_move rfl) rfl ?_
    refine AnyH.take 9 rfl (by kernel_rfl) (by kernel_rfl) (by kernel_rfl) PF.pf rfl (pv_move rfl) rfl ?_
    first | refine AnyH.take 10 rfl (by kernel_rfl) (by kernel_rfl) (by kernel_rfl) PF.pf rfl (pv_nilCheck rfl) rfl ?_ | refine AnyH.take 10 rfl (by kernel_rfl) (by kernel_rfl) (by kernel_rfl) PF.pf rfl (pv_nilCheck_func rfl rfl) rfl ?_
    first | refine AnyH.take 11 rfl (by kernel_rfl) (by kernel_rfl) (by kernel_rfl) PF.pf rfl (pv_fieldAddr0 rfl rfl) rfl ?_ | refine AnyH.take 11 rfl (by kernel_rfl) (by kernel_rfl) (by kernel_rfl) PF.pf rfl (pv_fieldAddr rfl rfl) rfl ?_
    refine AnyH.take 13 rfl (by kernel_rfl) (by kernel_rfl) (by kernel_rfl) PF.pf rfl (pv_move rfl) rfl ?_
    refine AnyH.take 14 rfl (by kernel_rfl) (by kernel_rfl) (by kernel_rfl) PF.pf rfl (pv_add rfl rfl (w64n (k := i + 1) (by omega) (by omega))) rfl ?_
    refine AnyH.three 1 5 12 (by kernel_rfl) ?_ ?_ ?_
    · refine Turn.ef rfl rfl (ef_buildSlice0 rfl) ?_ ?_
      · rintro _ _ ⟨b1, rfl, rfl⟩; infer_instance
      rintro _ _ ⟨b1, rfl, rfl⟩
      refine AnyH.two 5 12 (by kernel_rfl) ?_ ?_
      · first | refine Turn.ef rfl rfl (ef_pv (pv_load rfl rfl rfl) rfl) ?_ ?_ | refine Turn.ef rfl rfl (ef_pv (pv_load rfl rfl (by assumption)) rfl) ?_ ?_
        · rintro _ _ ⟨rfl, rfl⟩; infer_instance
        rintro _ _ ⟨rfl, rfl⟩
        refine AnyH.take 7 rfl (by kernel_rfl) (by kernel_rfl) (by kernel_rfl) PF.pf rfl (pv_sliceL (i := 0) (j := i) rfl rfl ⟨_, rfl⟩ (Nat.zero_le _) (by omega) lA.symm) rfl ?_
        refine AnyH.two 8 12 (by kernel_rfl) ?_ ?_
        · refine Turn.ef rfl rfl (ef_appendV (H := [(b1, .cells ([] : List Value).toArray 3)]) rfl (slc_empty 3 b1) rfl (hA.mono (by intro p hp; simp [hp])) (intsC_one _) (by omega) (by omega) rfl rfl) ?_ ?_
          · rintro _ _ ⟨v1, H1, hs1, rfl, rfl⟩; infer_instance
          rintro _ _ ⟨v1, H1, hs1, rfl, rfl⟩
          refine AnyH.app ?_
          skip
          refine AnyH.one 12 (by kernel_rfl) ?_
          first | refine Turn.ef rfl rfl (ef_pv (pv_load rfl rfl rfl) rfl) ?_ ?_ | refine Turn.ef rfl rfl (ef_pv (pv_load rfl rfl (by assumption)) rfl) ?_ ?_
          · rintro _ _ ⟨rfl, rfl⟩; infer_instance
          rintro _ _ ⟨rfl, rfl⟩
          refine AnyH.take 15 rfl (by kernel_rfl) (by kernel_rfl) (by kernel_rfl) PF.pf rfl (pv_sliceL (i := i + 1) (j := l.length) rfl ⟨_, rfl⟩ rfl (by omega) hlc lB.symm) rfl ?_
          refine AnyH.one 16 (by kernel_rfl) ?_
          refine Turn.ef rfl rfl (ef_appendV (H := H1) rfl hs1 rfl (hB.mono (by intro p hp; simp [hp])) (intsC_one _) (by omega) (by omega) rfl rfl) ?_ ?_
          · rintro _ _ ⟨v2, H2, hs2, rfl, rfl⟩; infer_instance
          rintro _ _ ⟨v2, H2, hs2, rfl, rfl⟩
          refine AnyH.app ?_
          have ho1 := hs2.one
          have ho2 := hs2.cells1
          first | refine AnyH.take 17 rfl (by kernel_rfl) (by kernel_rfl) (by kernel_rfl) PF.pf rfl (pv_nilCheck rfl) rfl ?_ | refine AnyH.take 17 rfl (by kernel_rfl) (by kernel_rfl) (by kernel_rfl) PF.pf rfl (pv_nilCheck_func rfl rfl) rfl ?_
          first | refine AnyH.take 18 rfl (by kernel_rfl) (by kernel_rfl) (by kernel_rfl) PF.pf rfl (pv_fieldAddr0 rfl rfl) rfl ?_ | refine AnyH.take 18 rfl (by kernel_rfl) (by kernel_rfl) (by kernel_rfl) PF.pf rfl (pv_fieldAddr rfl rfl) rfl ?_
          refine AnyH.one 19 (by kernel_rfl) ?_
          refine Turn.ef rfl rfl (ef_store1 rfl rfl (by first | rfl | assumption) (by first | rfl | assumption)) ?_ ?_
          · rintro _ _ ⟨rfl, rfl⟩; infer_instance
          rintro _ _ ⟨rfl, rfl⟩
          refine AnyH.done (by kernel_rfl) ?_
          refine Ends.seq ?_
          refine Wp.seq ?_
          refine Wp.region ?_
          refine Ops.pv (pv_assign rfl) rfl ?_
          refine Ops.nil ?_
          refine Ends.seq ?_
          refine Wp.ret ?_
          rw [Nat.zero_add, List.nil_append, ← intsC_app, ← List.length_append, ← hrem] at hs2
          exact Ends.ret (L' := (qb, .cells [v2, .bool r].toArray 67) :: H2) (res1 rfl rfl) ⟨by rw [hrb], v2, H2, hs2, rfl⟩
        · first | refine Turn.ef rfl rfl (ef_pv (pv_load rfl rfl rfl) rfl) ?_ ?_ | refine Turn.ef rfl rfl (ef_pv (pv_load rfl rfl (by assumption)) rfl) ?_ ?_
          · rintro _ _ ⟨rfl, rfl⟩; infer_instance
          rintro _ _ ⟨rfl, rfl⟩
          refine AnyH.take 15 rfl (by kernel_rfl) (by kernel_rfl) (by kernel_rfl) PF.pf rfl (pv_sliceL (i := i + 1) (j := l.length) rfl ⟨_, rfl⟩ rfl (by omega) hlc lB.symm) rfl ?_
          refine AnyH.one 8 (by kernel_rfl) ?_
          refine Turn.ef rfl rfl (ef_appendV (H := [(b1, .cells ([] : List Value).toArray 3)]) rfl (slc_empty 3 b1) rfl (hA.mono (by intro p hp; simp [hp])) (intsC_one _) (by omega) (by omega) rfl rfl) ?_ ?_
          · rintro _ _ ⟨v3, H3, hs3, rfl, rfl⟩; infer_instance
          rintro _ _ ⟨v3, H3, hs3, rfl, rfl⟩
          refine AnyH.app ?_
          skip
          refine AnyH.one 16 (by kernel_rfl) ?_
          refine Turn.ef rfl rfl (ef_appendV (H := H3) rfl hs3 rfl (hB.mono (by intro p hp; simp [hp])) (intsC_one _) (by omega) (by omega) rfl rfl) ?_ ?_
          · rintro _ _ ⟨v4, H4, hs4, rfl, rfl⟩; infer_instance
          rintro _ _ ⟨v4, H4, hs4, rfl, rfl⟩
          refine AnyH.app ?_
          have ho1 := hs4.one
          have ho2 := hs4.cells1
          first | refine AnyH.take 17 rfl (by kernel_rfl) (by kernel_rfl) (by kernel_rfl) PF.pf rfl (pv_nilCheck rfl) rfl ?_ | refine AnyH.take 17 rfl (by kernel_rfl) (by kernel_rfl) (by kernel_rfl) PF.pf rfl (pv_nilCheck_func rfl rfl) rfl ?_
          first | refine AnyH.take 18 rfl (by kernel_rfl) (by kernel_rfl) (by kernel_rfl) PF.pf rfl (pv_fieldAddr0 rfl rfl) rfl ?_ | refine AnyH.take 18 rfl (by kernel_rfl) (by kernel_rfl) (by kernel_rfl) PF.pf rfl (pv_fieldAddr rfl rfl) rfl ?_
          refine AnyH.one 19 (by kernel_rfl) ?_
          refine Turn.ef rfl rfl (ef_store1 rfl rfl (by first | rfl | assumption) (by first | rfl | assumption)) ?_ ?_
          · rintro _ _ ⟨rfl, rfl⟩; infer_instance
          rintro _ _ ⟨rfl, rfl⟩
          refine AnyH.done (by kernel_rfl) ?_
          refine Ends.seq ?_
          refine Wp.seq ?_
          refine Wp.region ?_
          refine Ops.pv (pv_assign rfl) rfl ?_
          refine Ops.nil ?_
          refine Ends.seq ?_
          refine Wp.ret ?_
          rw [Nat.zero_add, List.nil_append, ← intsC_app, ← List.length_append, ← hrem] at hs4
          exact Ends.ret (L' := (qb, .cells [v4, .bool r].toArray 67) :: H4) (res1 rfl rfl) ⟨by rw [hrb], v4, H4, hs4, rfl⟩
      · first | refine Turn.ef rfl rfl (ef_pv (pv_load rfl rfl rfl) rfl) ?_ ?_ | refine Turn.ef rfl rfl (ef_pv (pv_load rfl rfl (by assumption)) rfl) ?_ ?_
        · rintro _ _ ⟨rfl, rfl⟩; infer_instance
        rintro _ _ ⟨rfl, rfl⟩
        refine AnyH.take 15 rfl (by kernel_rfl) (by kernel_rfl) (by kernel_rfl) PF.pf rfl (pv_sliceL (i := i + 1) (j := l.length) rfl ⟨_, rfl⟩ rfl (by omega) hlc lB.symm) rfl ?_
        refine AnyH.one 5 (by kernel_rfl) ?_
        first | refine Turn.ef rfl rfl (ef_pv (pv_load rfl rfl rfl) rfl) ?_ ?_ | refine Turn.ef rfl rfl (ef_pv (pv_load rfl rfl (by assumption)) rfl) ?_ ?_
        · rintro _ _ ⟨rfl, rfl⟩; infer_instance
        rintro _ _ ⟨rfl, rfl⟩
        refine AnyH.take 7 rfl (by kernel_rfl) (by kernel_rfl) (by kernel_rfl) PF.pf rfl (pv_sliceL (i := 0) (j := i) rfl rfl ⟨_, rfl⟩ (Nat.zero_le _) (by omega) lA.symm) rfl ?_
        refine AnyH.one 8 (by kernel_rfl) ?_
        refine Turn.ef rfl rfl (ef_appendV (H := [(b1, .cells ([] : List Value).toArray 3)]) rfl (slc_empty 3 b1) rfl (hA.mono (by intro p hp; simp [hp])) (intsC_one _) (by omega) (by omega) rfl rfl) ?_ ?_
        · rintro _ _ ⟨v5, H5, hs5, rfl, rfl⟩; infer_instance
        rintro _ _ ⟨v5, H5, hs5, rfl, rfl⟩
        refine AnyH.app ?_
        skip
        refine AnyH.one 16 (by kernel_rfl) ?_
        refine Turn.ef rfl rfl (ef_appendV (H := H5) rfl hs5 rfl (hB.mono (by intro p hp; simp [hp])) (intsC_one _) (by omega) (by omega) rfl rfl) ?_ ?_
        · rintro _ _ ⟨v6, H6, hs6, rfl, rfl⟩; infer_instance
        rintro _ _ ⟨v6, H6, hs6, rfl, rfl⟩
        refine AnyH.app ?_
        have ho1 := hs6.one
        have ho2 := hs6.cells1
        first | refine AnyH.take 17 rfl (by kernel_rfl) (by kernel_rfl) (by kernel_rfl) PF.pf rfl (pv_nilCheck rfl) rfl ?_ | refine AnyH.take 17 rfl (by kernel_rfl) (by kernel_rfl) (by kernel_rfl) PF.pf rfl (pv_nilCheck_func rfl rfl) rfl ?_
        first | refine AnyH.take 18 rfl (by kernel_rfl) (by kernel_rfl) (by kernel_rfl) PF.pf rfl (pv_fieldAddr0 rfl rfl) rfl ?_ | refine AnyH.take 18 rfl (by kernel_rfl) (by kernel_rfl) (by kernel_rfl) PF.pf rfl (pv_fieldAddr rfl rfl) rfl ?_
        refine AnyH.one 19 (by kernel_rfl) ?_
        refine Turn.ef rfl rfl (ef_store1 rfl rfl (by first | rfl | assumption) (by first | rfl | assumption)) ?_ ?_
        · rintro _ _ ⟨rfl, rfl⟩; infer_instance
        rintro _ _ ⟨rfl, rfl⟩
        refine AnyH.done (by kernel_rfl) ?_
        refine Ends.seq ?_
        refine Wp.seq ?_
        refine Wp.region ?_
        refine Ops.pv (pv_assign rfl) rfl ?_
        refine Ops.nil ?_
        refine Ends.seq ?_
        refine Wp.ret ?_
        rw [Nat.zero_add, List.nil_append, ← intsC_app, ← List.length_append, ← hrem] at hs6
        exact Ends.ret (L' := (qb, .cells [v6, .bool r].toArray 67) :: H6) (res1 rfl rfl) ⟨by rw [hrb], v6, H6, hs6, rfl⟩
    · first | refine Turn.ef rfl rfl (ef_pv (pv_load rfl rfl rfl) rfl) ?_ ?_ | refine Turn.ef rfl rfl (ef_pv (pv_load rfl rfl (by assumption)) rfl) ?_ ?_
      · rintro _ _ ⟨rfl, rfl⟩; infer_instance
      rintro _ _ ⟨rfl, rfl⟩
      refine AnyH.take 7 rfl (by kernel_rfl) (by kernel_rfl) (by kernel_rfl) PF.pf rfl (pv_sliceL (i := 0) (j := i) rfl rfl ⟨_, rfl⟩ (Nat.zero_le _) (by omega) lA.symm) rfl ?_
      refine AnyH.two 1 12 (by kernel_rfl) ?_ ?_
      · refine Turn.ef rfl rfl (ef_buildSlice0 rfl) ?_ ?_
        · rintro _ _ ⟨b2, rfl, rfl⟩; infer_instance
        rintro _ _ ⟨b2, rfl, rfl⟩
        refine AnyH.two 8 12 (by kernel_rfl) ?_ ?_
        · refine Turn.ef rfl rfl (ef_appendV (H := [(b2, .cells ([] : List Value).toArray 3)]) rfl (slc_empty 3 b2) rfl (hA.mono (by intro p hp; simp [hp])) (intsC_one _) (by omega) (by omega) rfl rfl) ?_ ?_
          · rintro _ _ ⟨v7, H7, hs7, rfl, rfl⟩; infer_instance
          rintro _ _ ⟨v7, H7, hs7, rfl, rfl⟩
          refine AnyH.app ?_
          skip
          refine AnyH.one 12 (by kernel_rfl) ?_
          first | refine Turn.ef rfl rfl (ef_pv (pv_load rfl rfl rfl) rfl) ?_ ?_ | refine Turn.ef rfl rfl (ef_pv (pv_load rfl rfl (by assumption)) rfl) ?_ ?_
          · rintro _ _ ⟨rfl, rfl⟩; infer_instance
          rintro _ _ ⟨rfl, rfl⟩
          refine AnyH.take 15 rfl (by kernel_rfl) (by kernel_rfl) (by kernel_rfl) PF.pf rfl (pv_sliceL (i := i + 1) (j := l.length) rfl ⟨_, rfl⟩ rfl (by omega) hlc lB.symm) rfl ?_
          refine AnyH.one 16 (by kernel_rfl) ?_
          refine Turn.ef rfl rfl (ef_appendV (H := H7) rfl hs7 rfl (hB.mono (by intro p hp; simp [hp])) (intsC_one _) (by omega) (by omega) rfl rfl) ?_ ?_
          · rintro _ _ ⟨v8, H8, hs8, rfl, rfl⟩; infer_instance
          rintro _ _ ⟨v8, H8, hs8, rfl, rfl⟩
          refine AnyH.app ?_
          have ho1 := hs8.one
          have ho2 := hs8.cells1
          first | refine AnyH.take 17 rfl (by kernel_rfl) (by kernel_rfl) (by kernel_rfl) PF.pf rfl (pv_nilCheck rfl) rfl ?_ | refine AnyH.take 17 rfl (by kernel_rfl) (by kernel_rfl) (by kernel_rfl) PF.pf rfl (pv_nilCheck_func rfl rfl) rfl ?_
          first | refine AnyH.take 18 rfl (by kernel_rfl) (by kernel_rfl) (by kernel_rfl) PF.pf rfl (pv_fieldAddr0 rfl rfl) rfl ?_ | refine AnyH.take 18 rfl (by kernel_rfl) (by kernel_rfl) (by kernel_rfl) PF.pf rfl (pv_fieldAddr rfl rfl) rfl ?_
          refine AnyH.one 19 (by kernel_rfl) ?_
          refine Turn.ef rfl rfl (ef_store1 rfl rfl (by first | rfl | assumption) (by first | rfl | assumption)) ?_ ?_
          · rintro _ _ ⟨rfl, rfl⟩; infer_instance
          rintro _ _ ⟨rfl, rfl⟩
          refine AnyH.done (by kernel_rfl) ?_
          refine Ends.seq ?_
          refine Wp.seq ?_
          refine Wp.region ?_
          refine Ops.pv (pv_assign rfl) rfl ?_
          refine Ops.nil ?_
          refine Ends.seq ?_
          refine Wp.ret ?_
          rw [Nat.zero_add, List.nil_append, ← intsC_app, ← List.length_append, ← hrem] at hs8
          exact Ends.ret (L' := (qb, .cells [v8, .bool r].toArray 67) :: H8) (res1 rfl rfl) ⟨by rw [hrb], v8, H8, hs8, rfl⟩
        · first | refine Turn.ef rfl rfl (ef_pv (pv_load rfl rfl rfl) rfl) ?_ ?_ | refine Turn.ef rfl rfl (ef_pv (pv_load rfl rfl (by assumption)) rfl) ?_ ?_
          · rintro _ _ ⟨rfl, rfl⟩; infer_instance
          rintro _ _ ⟨rfl, rfl⟩
          refine AnyH.take 15 rfl (by kernel_rfl) (by kernel_rfl) (by kernel_rfl) PF.pf rfl (pv_sliceL (i := i + 1) (j := l.length) rfl ⟨_, rfl⟩ rfl (by omega) hlc lB.symm) rfl ?_
          refine AnyH.one 8 (by kernel_rfl) ?_
          refine Turn.ef rfl rfl (ef_appendV (H := [(b2, .cells ([] : List Value).toArray 3)]) rfl (slc_empty 3 b2) rfl (hA.mono (by intro p hp; simp [hp])) (intsC_one _) (by omega) (by omega) rfl rfl) ?_ ?_
          · rintro _ _ ⟨v9, H9, hs9, rfl, rfl⟩; infer_instance
          rintro _ _ ⟨v9, H9, hs9, rfl, rfl⟩
          refine AnyH.app ?_
          skip
          refine AnyH.one 16 (by kernel_rfl) ?_
          refine Turn.ef rfl rfl (ef_appendV (H := H9) rfl hs9 rfl (hB.mono (by intro p hp; simp [hp])) (intsC_one _) (by omega) (by omega) rfl rfl) ?_ ?_
          · rintro _ _ ⟨v10, H10, hs10, rfl, rfl⟩; infer_instance
          rintro _ _ ⟨v10, H10, hs10, rfl, rfl⟩
          refine AnyH.app ?_
          have ho1 := hs10.one
          have ho2 := hs10.cells1
          first | refine AnyH.take 17 rfl (by kernel_rfl) (by kernel_rfl) (by kernel_rfl) PF.pf rfl (pv_nilCheck rfl) rfl ?_ | refine AnyH.take 17 rfl (by kernel_rfl) (by kernel_rfl) (by kernel_rfl) PF.pf rfl (pv_nilCheck_func rfl rfl) rfl ?_
          first | refine AnyH.take 18 rfl (by kernel_rfl) (by kernel_rfl) (by kernel_rfl) PF.pf rfl (pv_fieldAddr0 rfl rfl) rfl ?_ | refine AnyH.take 18 rfl (by kernel_rfl) (by kernel_rfl) (by kernel_rfl) PF.pf rfl (pv_fieldAddr rfl rfl) rfl ?_
          refine AnyH.one 19 (by kernel_rfl) ?_
          refine Turn.ef rfl rfl (ef_store1 rfl rfl (by first | rfl | assumption) (by first | rfl | assumption)) ?_ ?_
          · rintro _ _ ⟨rfl, rfl⟩; infer_instance
          rintro _ _ ⟨rfl, rfl⟩
          refine AnyH.done (by kernel_rfl) ?_
          refine Ends.seq ?_
          refine Wp.seq ?_
          refine Wp.region ?_
          refine Ops.pv (pv_assign rfl) rfl ?_
          refine Ops.nil ?_
          refine Ends.seq ?_
          refine Wp.ret ?_
          rw [Nat.zero_add, List.nil_append, ← intsC_app, ← List.length_append, ← hrem] at hs10
          exact Ends.ret (L' := (qb, .cells [v10, .bool r].toArray 67) :: H10) (res1 rfl rfl) ⟨by rw [hrb], v10, H10, hs10, rfl⟩
      · first | refine Turn.ef rfl rfl (ef_pv (pv_load rfl rfl rfl) rfl) ?_ ?_ | refine Turn.ef rfl rfl (ef_pv (pv_load rfl rfl (by assumption)) rfl) ?_ ?_
        · rintro _ _ ⟨rfl, rfl⟩; infer_instance
        rintro _ _ ⟨rfl, rfl⟩
        refine AnyH.take 15 rfl (by kernel_rfl) (by kernel_rfl) (by kernel_rfl) PF.pf rfl (pv_sliceL (i := i + 1) (j := l.length) rfl ⟨_, rfl⟩ rfl (by omega) hlc lB.symm) rfl ?_
        refine AnyH.one 1 (by kernel_rfl) ?_
        refine Turn.ef rfl rfl (ef_buildSlice0 rfl) ?_ ?_
        · rintro _ _ ⟨b3, rfl, rfl⟩; infer_instance
        rintro _ _ ⟨b3, rfl, rfl⟩
        refine AnyH.one 8 (by kernel_rfl) ?_
        refine Turn.ef rfl rfl (ef_appendV (H := [(b3, .cells ([] : List Value).toArray 3)]) rfl (slc_empty 3 b3) rfl (hA.mono (by intro p hp; simp [hp])) (intsC_one _) (by omega) (by omega) rfl rfl) ?_ ?_
        · rintro _ _ ⟨v11, H11, hs11, rfl, rfl⟩; infer_instance
        rintro _ _ ⟨v11, H11, hs11, rfl, rfl⟩
        refine AnyH.app ?_
        skip
        refine AnyH.one 16 (by kernel_rfl) ?_
        refine Turn.ef rfl rfl (ef_appendV (H := H11) rfl hs11 rfl (hB.mono (by intro p hp; simp [hp])) (intsC_one _) (by omega) (by omega) rfl rfl) ?_ ?_
        · rintro _ _ ⟨v12, H12, hs12, rfl, rfl⟩; infer_instance
        rintro _ _ ⟨v12, H12, hs12, rfl, rfl⟩
        refine AnyH.app ?_
        have ho1 := hs12.one
        have ho2 := hs12.cells1
        first | refine AnyH.take 17 rfl (by kernel_rfl) (by kernel_rfl) (by kernel_rfl) PF.pf rfl (pv_nilCheck rfl) rfl ?_ | refine AnyH.take 17 rfl (by kernel_rfl) (by kernel_rfl) (by kernel_rfl) PF.pf rfl (pv_nilCheck_func rfl rfl) rfl ?_
        first | refine AnyH.take 18 rfl (by kernel_rfl) (by kernel_rfl) (by kernel_rfl) PF.pf rfl (pv_fieldAddr0 rfl rfl) rfl ?_ | refine AnyH.take 18 rfl (by kernel_rfl) (by kernel_rfl) (by kernel_rfl) PF.pf rfl (pv_fieldAddr rfl rfl) rfl ?_
        refine AnyH.one 19 (by kernel_rfl) ?_
        refine Turn.ef rfl rfl (ef_store1 rfl rfl (by first | rfl | assumption) (by first | rfl | assumption)) ?_ ?_
        · rintro _ _ ⟨rfl, rfl⟩; infer_instance
        rintro _ _ ⟨rfl, rfl⟩
        refine AnyH.done (by kernel_rfl) ?_
        refine Ends.seq ?_
        refine Wp.seq ?_
        refine Wp.region ?_
        refine Ops.pv (pv_assign rfl) rfl ?_
        refine Ops.nil ?_
        refine Ends.seq ?_
        refine Wp.ret ?_
        rw [Nat.zero_add, List.nil_append, ← intsC_app, ← List.length_append, ← hrem] at hs12
        exact Ends.ret (L' := (qb, .cells [v12, .bool r].toArray 67) :: H12) (res1 rfl rfl) ⟨by rw [hrb], v12, H12, hs12, rfl⟩
    · first | refine Turn.ef rfl rfl (ef_pv (pv_load rfl rfl rfl) rfl) ?_ ?_ | refine Turn.ef rfl rfl (ef_pv (pv_load rfl rfl (by assumption)) rfl) ?_ ?_
      · rintro _ _ ⟨rfl, rfl⟩; infer_instance
      rintro _ _ ⟨rfl, rfl⟩
      refine AnyH.take 15 rfl (by kernel_rfl) (by kernel_rfl) (by kernel_rfl) PF.pf rfl (pv_sliceL (i := i + 1) (j := l.length) rfl ⟨_, rfl⟩ rfl (by omega) hlc lB.symm) rfl ?_
      refine AnyH.two 1 5 (by kernel_rfl) ?_ ?_
      · refine Turn.ef rfl rfl (ef_buildSlice0 rfl) ?_ ?_
        · rintro _ _ ⟨b4, rfl, rfl⟩; infer_instance
        rintro _ _ ⟨b4, rfl, rfl⟩
        refine AnyH.one 5 (by kernel_rfl) ?_
        first | refine Turn.ef rfl rfl (ef_pv (pv_load rfl rfl rfl) rfl) ?_ ?_ | refine Turn.ef rfl rfl (ef_pv (pv_load rfl rfl (by assumption)) rfl) ?_ ?_
        · rintro _ _ ⟨rfl, rfl⟩; infer_instance
        rintro _ _ ⟨rfl, rfl⟩
        refine AnyH.take 7 rfl (by kernel_rfl) (by kernel_rfl) (by kernel_rfl) PF.pf rfl (pv_sliceL (i := 0) (j := i) rfl rfl ⟨_, rfl⟩ (Nat.zero_le _) (by omega) lA.symm) rfl ?_
        refine AnyH.one 8 (by kernel_rfl) ?_
        refine Turn.ef rfl rfl (ef_appendV (H := [(b4, .cells ([] : List Value).toArray 3)]) rfl (slc_empty 3 b4) rfl (hA.mono (by intro p hp; simp [hp])) (intsC_one _) (by omega) (by omega) rfl rfl) ?_ ?_
        · rintro _ _ ⟨v13, H13, hs13, rfl, rfl⟩; infer_instance
        rintro _ _ ⟨v13, H13, hs13, rfl, rfl⟩
        refine AnyH.app ?_
        skip
        refine AnyH.one 16 (by kernel_rfl) ?_
        refine Turn.ef rfl rfl (ef_appendV (H := H13) rfl hs13 rfl (hB.mono (by intro p hp; simp [hp])) (intsC_one _) (by omega) (by omega) rfl rfl) ?_ ?_
        · rintro _ _ ⟨v14, H14, hs14, rfl, rfl⟩; infer_instance
        rintro _ _ ⟨v14, H14, hs14, rfl, rfl⟩
        refine AnyH.app ?_
        have ho1 := hs14.one
        have ho2 := hs14.cells1
        first | refine AnyH.take 17 rfl (by kernel_rfl) (by kernel_rfl) (by kernel_rfl) PF.pf rfl (pv_nilCheck rfl) rfl ?_ | refine AnyH.take 17 rfl (by kernel_rfl) (by kernel_rfl) (by kernel_rfl) PF.pf rfl (pv_nilCheck_func rfl rfl) rfl ?_
        first | refine AnyH.take 18 rfl (by kernel_rfl) (by kernel_rfl) (by kernel_rfl) PF.pf rfl (pv_fieldAddr0 rfl rfl) rfl ?_ | refine AnyH.take 18 rfl (by kernel_rfl) (by kernel_rfl) (by kernel_rfl) PF.pf rfl (pv_fieldAddr rfl rfl) rfl ?_
        refine AnyH.one 19 (by kernel_rfl) ?_
        refine Turn.ef rfl rfl (ef_store1 rfl rfl (by first | rfl | assumption) (by first | rfl | assumption)) ?_ ?_
        · rintro _ _ ⟨rfl, rfl⟩; infer_instance
        rintro _ _ ⟨rfl, rfl⟩
        refine AnyH.done (by kernel_rfl) ?_
        refine Ends.seq ?_
        refine Wp.seq ?_
        refine Wp.region ?_
        refine Ops.pv (pv_assign rfl) rfl ?_
        refine Ops.nil ?_
        refine Ends.seq ?_
        refine Wp.ret ?_
        rw [Nat.zero_add, List.nil_append, ← intsC_app, ← List.length_append, ← hrem] at hs14
        exact Ends.ret (L' := (qb, .cells [v14, .bool r].toArray 67) :: H14) (res1 rfl rfl) ⟨by rw [hrb], v14, H14, hs14, rfl⟩
      · first | refine Turn.ef rfl rfl (ef_pv (pv_load rfl rfl rfl) rfl) ?_ ?_ | refine Turn.ef rfl rfl (ef_pv (pv_load rfl rfl (by assumption)) rfl) ?_ ?_
        · rintro _ _ ⟨rfl, rfl⟩; infer_instance
        rintro _ _ ⟨rfl, rfl⟩
        refine AnyH.take 7 rfl (by kernel_rfl) (by kernel_rfl) (by kernel_rfl) PF.pf rfl (pv_sliceL (i := 0) (j := i) rfl rfl ⟨_, rfl⟩ (Nat.zero_le _) (by omega) lA.symm) rfl ?_
        refine AnyH.one 1 (by kernel_rfl) ?_
        refine Turn.ef rfl rfl (ef_buildSlice0 rfl) ?_ ?_
        · rintro _ _ ⟨b5, rfl, rfl⟩; infer_instance
        rintro _ _ ⟨b5, rfl, rfl⟩
        refine AnyH.one 8 (by kernel_rfl) ?_
        refine Turn.ef rfl rfl (ef_appendV (H := [(b5, .cells ([] : List Value).toArray 3)]) rfl (slc_empty 3 b5) rfl (hA.mono (by intro p hp; simp [hp])) (intsC_one _) (by omega) (by omega) rfl rfl) ?_ ?_
        · rintro _ _ ⟨v15, H15, hs15, rfl, rfl⟩; infer_instance
        rintro _ _ ⟨v15, H15, hs15, rfl, rfl⟩
        refine AnyH.app ?_
        skip
        refine AnyH.one 16 (by kernel_rfl) ?_
        refine Turn.ef rfl rfl (ef_appendV (H := H15) rfl hs15 rfl (hB.mono (by intro p hp; simp [hp])) (intsC_one _) (by omega) (by omega) rfl rfl) ?_ ?_
        · rintro _ _ ⟨v16, H16, hs16, rfl, rfl⟩; infer_instance
        rintro _ _ ⟨v16, H16, hs16, rfl, rfl⟩
        refine AnyH.app ?_
        have ho1 := hs16.one
        have ho2 := hs16.cells1
        first | refine AnyH.take 17 rfl (by kernel_rfl) (by kernel_rfl) (by kernel_rfl) PF.pf rfl (pv_nilCheck rfl) rfl ?_ | refine AnyH.take 17 rfl (by kernel_rfl) (by kernel_rfl) (by kernel_rfl) PF.pf rfl (pv_nilCheck_func rfl rfl) rfl ?_
        first | refine AnyH.take 18 rfl (by kernel_rfl) (by kernel_rfl) (by kernel_rfl) PF.pf rfl (pv_fieldAddr0 rfl rfl) rfl ?_ | refine AnyH.take 18 rfl (by kernel_rfl) (by kernel_rfl) (by kernel_rfl) PF.pf rfl (pv_fieldAddr rfl rfl) rfl ?_
        refine AnyH.one 19 (by kernel_rfl) ?_
        refine Turn.ef rfl rfl (ef_store1 rfl rfl (by first | rfl | assumption) (by first | rfl | assumption)) ?_ ?_
        · rintro _ _ ⟨rfl, rfl⟩; infer_instance
        rintro _ _ ⟨rfl, rfl⟩
        refine AnyH.done (by kernel_rfl) ?_
        refine Ends.seq ?_
        refine Wp.seq ?_
        refine Wp.region ?_
        refine Ops.pv (pv_assign rfl) rfl ?_
        refine Ops.nil ?_
        refine Ends.seq ?_
        refine Wp.ret ?_
        rw [Nat.zero_add, List.nil_append, ← intsC_app, ← List.length_append, ← hrem] at hs16
        exact Ends.ret (L' := (qb, .cells [v16, .bool r].toArray 67) :: H16) (res1 rfl rfl) ⟨by rw [hrb], v16, H16, hs16, rfl⟩

theorem tr_deClear (qb : Nat) (v : Value) (K : Hp) (r : Bool) (l : List Int) (hs : Slc 3 1 v l.length (intsC l) K) (hl : l.length ≤ 2 ^ 20) : Tr Try.prog 46 [.pointer (some ⟨qb, 0, none⟩)] ((qb, .cells [v, .bool r].toArray 67) :: K) (fun u L' => u = v ∧ L' = (qb, .cells [.slice none 0 0, .bool r].toArray 67) :: K) := by
  obtain ⟨a, c, rfl⟩ := hs.form
  refine Tr.enter Try.func46 rfl Try.ntmps46 rfl (fun W F => ?_)
  refine Wp.app ?_
  refine Wp.seq ?_
  refine Wp.region ?_
  refine Ops.pv (pv_assign rfl) rfl ?_
  refine Ops.nil ?_
  refine Ends.seq ?_
  refine Wp.seq ?_
  refine Wp.region ?_
  refine Ops.pv (pv_move rfl) rfl ?_
  first | refine Ops.pv (pv_nilCheck rfl) rfl ?_ | refine Ops.pv (pv_nilCheck_func rfl rfl) rfl ?_
  first | refine Ops.pv (pv_fieldAddr0 rfl rfl) rfl ?_ | refine Ops.pv (pv_fieldAddr rfl rfl) rfl ?_
  first | refine Ops.pv (pv_load rfl rfl rfl) rfl ?_ | refine Ops.pv (pv_load rfl rfl (by assumption)) rfl ?_
  refine Ops.pv (pv_assign rfl) rfl ?_
  refine Ops.nil ?_
  refine Ends.seq ?_
  refine Wp.seq ?_
  refine Wp.region ?_
  refine Ops.pv (pv_move rfl) rfl ?_
  first | refine Ops.pv (pv_nilCheck rfl) rfl ?_ | refine Ops.pv (pv_nilCheck_func rfl rfl) rfl ?_
  first | refine Ops.pv (pv_fieldAddr0 rfl rfl) rfl ?_ | refine Ops.pv (pv_fieldAddr rfl rfl) rfl ?_
  refine Ops.ef rfl (ef_store1 rfl rfl (by first | rfl | assumption) (by first | rfl | assumption)) ?_
  rintro _ _ ⟨rfl, rfl⟩
  refine Ops.nil ?_
  refine Ends.seq ?_
  refine Wp.seq ?_
  refine Wp.region ?_
  refine Ops.pv (pv_move rfl) rfl ?_
  refine Ops.pv (pv_assign rfl) rfl ?_
  refine Ops.nil ?_
  refine Ends.seq ?_
  refine Wp.ret ?_
  exact Ends.ret (res1 rfl rfl) ⟨rfl, rfl⟩

theorem tr_deState (qb : Nat) (v : Value) (K : Hp) (r : Bool) (l : List Int) (hs : Slc 3 1 v l.length (intsC l) K) (hl : l.length ≤ 2 ^ 20) : TrR Try.prog 47 [.pointer (some ⟨qb, 0, none⟩)] ((qb, .cells [v, .bool r].toArray 67) :: K) (.tuple #[.int .i64 (stW ⟨wOf r, l⟩), if l = [] then .slice none 0 0 else v]) := by
  obtain ⟨a, c, rfl⟩ := hs.form
  refine Tr.enter Try.func47 rfl Try.ntmps47 rfl (fun W F => ?_)
  refine Wp.app ?_
  refine Wp.seq ?_
  refine Wp.region ?_
  refine Ops.pv (pv_assign rfl) rfl ?_
  refine Ops.pv (pv_assign rfl) rfl ?_
  refine Ops.nil ?_
  refine Ends.seq ?_
  refine Wp.seq ?_
  refine Wp.block ?_
  refine Wp.seq ?_
  refine Wp.region ?_
  refine Ops.pv (pv_move rfl) rfl ?_
  first | refine Ops.pv (pv_nilCheck rfl) rfl ?_ | refine Ops.pv (pv_nilCheck_func rfl rfl) rfl ?_
  first | refine Ops.pv (pv_fieldAddr0 rfl rfl) rfl ?_ | refine Ops.pv (pv_fieldAddr rfl rfl) rfl ?_
  first | refine Ops.pv (pv_load rfl rfl rfl) rfl ?_ | refine Ops.pv (pv_load rfl rfl (by assumption)) rfl ?_
  refine Ops.pv (pv_len_slice (T := 26) rfl rfl) rfl ?_
  refine Ops.pv (pv_eql rfl rfl) rfl ?_
  refine Ops.pv (pv_assign rfl) rfl ?_
  refine Ops.nil ?_
  refine Ends.seq ?_
  first | refine Wp.cond_dect rfl (fun h1 => ?_) (fun h1 => ?_) | refine Wp.cond_t rfl (fun h1 => ?_) (fun h1 => ?_)
  · refine Wp.seq ?_
    refine Wp.region ?_
    refine Ops.pv (pv_assign rfl) rfl ?_
    refine Ops.pv (pv_assign rfl) rfl ?_
    refine Ops.nil ?_
    refine Ends.seq ?_
    refine Wp.ret ?_
    refine Ends.block_ret ?_
    refine Ends.then_ret ?_
    obtain rfl : l = [] := List.eq_nil_of_length_eq_zero (by omega)
    exact Ends.ret (res2 rfl rfl rfl) ⟨rfl, rfl⟩
  · refine Wp.seq ?_
    refine Wp.region ?_
    refine Ops.pv (pv_move rfl) rfl ?_
    first | refine Ops.pv (pv_nilCheck rfl) rfl ?_ | refine Ops.pv (pv_nilCheck_func rfl rfl) rfl ?_
    first | refine Ops.pv (pv_fieldAddr0 rfl rfl) rfl ?_ | refine Ops.pv (pv_fieldAddr rfl rfl) rfl ?_
    first | refine Ops.pv (pv_load rfl rfl rfl) rfl ?_ | refine Ops.pv (pv_load rfl rfl (by assumption)) rfl ?_
    refine Ops.pv (pv_assign rfl) rfl ?_
    refine Ops.nil ?_
    refine Ends.seq ?_
    first | refine Wp.cond_dect rfl (fun h2 => ?_) (fun h2 => ?_) | refine Wp.cond_t rfl (fun h2 => ?_) (fun h2 => ?_)
    · refine Wp.seq ?_
      refine AnyH.startL 6 rfl ?_
      refine AnyH.take 0 rfl (by kernel_rfl) (by kernel_rfl) (by kernel_rfl) PF.pf rfl (pv_move rfl) rfl ?_
      first | refine AnyH.take 1 rfl (by kernel_rfl) (by kernel_rfl) (by kernel_rfl) PF.pf rfl (pv_nilCheck rfl) rfl ?_ | refine AnyH.take 1 rfl (by kernel_rfl) (by kernel_rfl) (by kernel_rfl) PF.pf rfl (pv_nilCheck_func rfl rfl) rfl ?_
      first | refine AnyH.take 2 rfl (by kernel_rfl) (by kernel_rfl) (by kernel_rfl) PF.pf rfl (pv_fieldAddr0 rfl rfl) rfl ?_ | refine AnyH.take 2 rfl (by kernel_rfl) (by kernel_rfl) (by kernel_rfl) PF.pf rfl (pv_fieldAddr rfl rfl) rfl ?_
      first | refine AnyH.take 3 rfl (by kernel_rfl) (by kernel_rfl) (by kernel_rfl) PF.pf rfl (pv_load rfl rfl rfl) rfl ?_ | refine AnyH.take 3 rfl (by kernel_rfl) (by kernel_rfl) (by kernel_rfl) PF.pf rfl (pv_load rfl rfl (by assumption)) rfl ?_
      refine AnyH.take 4 rfl (by kernel_rfl) (by kernel_rfl) (by kernel_rfl) PF.pf rfl (pv_assign rfl) rfl ?_
      refine AnyH.take 5 rfl (by kernel_rfl) (by kernel_rfl) (by kernel_rfl) PF.pf rfl (pv_assign rfl) rfl ?_
      refine AnyH.done (by kernel_rfl) ?_
      refine Ends.seq ?_
      refine Wp.ret ?_
      refine Ends.block_ret ?_
      refine Ends.then_ret ?_
      have hn : l ≠ [] := by rintro rfl; simp_all
      exact Ends.ret (res2 rfl rfl rfl) ⟨by rw [stW, if_neg hn, if_neg hn]; simp_all [wOf], rfl⟩
    · refine Wp.skip ?_
      refine Ends.block_normal ?_
      refine Ends.seq ?_
      refine Wp.seq ?_
      refine AnyH.startL 6 rfl ?_
      refine AnyH.take 0 rfl (by kernel_rfl) (by kernel_rfl) (by kernel_rfl) PF.pf rfl (pv_move rfl) rfl ?_
      first | refine AnyH.take 1 rfl (by kernel_rfl) (by kernel_rfl) (by kernel_rfl) PF.pf rfl (pv_nilCheck rfl) rfl ?_ | refine AnyH.take 1 rfl (by kernel_rfl) (by kernel_rfl) (by kernel_rfl) PF.pf rfl (pv_nilCheck_func rfl rfl) rfl ?_
      first | refine AnyH.take 2 rfl (by kernel_rfl) (by kernel_rfl) (by kernel_rfl) PF.pf rfl (pv_fieldAddr0 rfl rfl) rfl ?_ | refine AnyH.take 2 rfl (by kernel_rfl) (by kernel_rfl) (by kernel_rfl) PF.pf rfl (pv_fieldAddr rfl rfl) rfl ?_
      first | refine AnyH.take 3 rfl (by kernel_rfl) (by kernel_rfl) (by kernel_rfl) PF.pf rfl (pv_load rfl rfl rfl) rfl ?_ | refine AnyH.take 3 rfl (by kernel_rfl) (by kernel_rfl) (by kernel_rfl) PF.pf rfl (pv_load rfl rfl (by assumption)) rfl ?_
      refine AnyH.take 4 rfl (by kernel_rfl) (by kernel_rfl) (by kernel_rfl) PF.pf rfl (pv_assign rfl) rfl ?_
      refine AnyH.take 5 rfl (by kernel_rfl) (by kernel_rfl) (by kernel_rfl) PF.pf rfl (pv_assign rfl) rfl ?_
      refine AnyH.done (by kernel_rfl) ?_
      refine Ends.seq ?_
      refine Wp.ret ?_
      have hn : l ≠ [] := by rintro rfl; simp_all
      exact Ends.ret (res2 rfl rfl rfl) ⟨by rw [stW, if_neg hn, if_neg hn]; simp_all [wOf], rfl⟩

end Go.Proofs.Ytpjodkcghiklcaa
