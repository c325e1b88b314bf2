/- Walks of layer 19: a notice's methods, the program's and the document's, answer as the plain functions say. No condition. -/
import Derived.Test.YtpjodkcghiklcaaM19
import Derived.Test.YtpjodkcghiklcaaW18
set_option linter.unusedVariables false
set_option linter.unusedSimpArgs false
namespace Go.Proofs.Ytpjodkcghiklcaa
open Go.SL

theorem tr_ntNew  : Tr Try.prog 49 [] ([]) (fun u L' => ∃ nb, u = .pointer (some ⟨nb, 0, none⟩) ∧ NtH ⟨0, [], []⟩ nb L') := by
  refine Tr.enter Try.func49 rfl Try.ntmps49 rfl (fun W F => ?_)
  refine Wp.app ?_
  refine Wp.seq ?_
  refine Wp.region ?_
  refine Ops.pv (pv_assign rfl) rfl ?_
  refine Ops.nil ?_
  refine Ends.seq ?_
  refine Wp.seq ?_
  refine Wp.region ?_
  refine Ops.ef rfl (ef_call (tr_lnew) rfl rfl) ?_
  rintro _ _ ⟨_, _, ⟨lb1, rfl, rfl⟩, rfl, rfl⟩
  refine Ops.app ?_
  refine Ops.ef rfl (ef_call (tr_lnew) rfl rfl) ?_
  rintro _ _ ⟨_, _, ⟨lb2, rfl, rfl⟩, rfl, rfl⟩
  refine Ops.app ?_
  refine Ops.pv (pv_build rfl) rfl ?_
  refine Ops.ef rfl (ef_boxK rfl rfl) ?_
  rintro _ _ ⟨b1, rfl, rfl⟩
  refine Ops.pv (pv_assign rfl) rfl ?_
  refine Ops.nil ?_
  refine Ends.seq ?_
  refine Wp.ret ?_
  exact Ends.ret (L' := [(b1, .cells [.int .u64 0, .pointer (some ⟨lb1, 0, none⟩), .pointer (some ⟨lb2, 0, none⟩)].toArray 102), (lb1, .cells [.slice none 0 0].toArray 87), (lb2, .cells [.slice none 0 0].toArray 87)]) (res1 rfl rfl) ⟨b1, rfl, lb1, lb2, _, _, [], [], Slc.nil _ _, Slc.nil _ _, rfl⟩

theorem tr_ntBound (nb : Nat) (H : Hp) (S : Nt) (hH : NtH S nb H) (hl : S.l.length ≤ 2 ^ 20) (hb : S.b.length ≤ 1) : TrR Try.prog 61 [.pointer (some ⟨nb, 0, none⟩)] (H) (.tuple #[.int .i64 (S.b.headD 0), .bool (!S.b.isEmpty)]) := by
  obtain ⟨w, l, bd⟩ := S
  obtain ⟨lb, bb, v, u, K, J, hs, hu, rfl⟩ := hH
  dsimp only at hs hu hl hb ⊢
  refine Tr.enter Try.func61 rfl Try.ntmps61 rfl (fun W F => ?_)
  refine Wp.app ?_
  refine Wp.seq ?_
  refine Wp.region ?_
  refine Ops.pv (pv_assign rfl) rfl ?_
  refine Ops.pv (pv_assign rfl) rfl ?_
  refine Ops.nil ?_
  refine Ends.seq ?_
  refine Wp.seq ?_
  refine Wp.region ?_
  refine Ops.pv (pv_move rfl) rfl ?_
  first | refine Ops.pv (pv_nilCheck rfl) rfl ?_ | refine Ops.pv (pv_nilCheck_func rfl rfl) rfl ?_
  first | refine Ops.pv (pv_fieldAddr0 rfl rfl) rfl ?_ | refine Ops.pv (pv_fieldAddr rfl rfl) rfl ?_
  first | refine Ops.pv (pv_load rfl rfl rfl) rfl ?_ | refine Ops.pv (pv_load rfl rfl (by assumption)) rfl ?_
  refine Ops.ef rfl (ef_call (tr_list bb u J bd hu (by omega)) rfl rfl) ?_
  rintro _ _ ⟨_, _, ⟨C1, hc1, rfl⟩, rfl, rfl⟩
  refine Ops.app ?_
  obtain ⟨p1, q1, rfl⟩ := hc1.form
  refine Ops.pv (pv_assign rfl) rfl ?_
  refine Ops.nil ?_
  refine Ends.seq ?_
  refine Wp.seq ?_
  refine Wp.seq ?_
  refine Wp.region ?_
  refine Ops.pv (pv_move rfl) rfl ?_
  refine Ops.pv (pv_len_slice (T := 26) rfl rfl) rfl ?_
  refine Ops.pv (pv_eql rfl rfl) rfl ?_
  refine Ops.nil ?_
  refine Ends.seq ?_
  first | refine Wp.cond_dect rfl (fun h1 => ?_) (fun h1 => ?_) | refine Wp.cond_t rfl (fun h1 => ?_) (fun h1 => ?_)
  · obtain rfl : bd = [] := List.eq_nil_of_length_eq_zero (by omega)
    refine Wp.seq ?_
    refine Wp.region ?_
    refine Ops.pv (pv_assign rfl) rfl ?_
    refine Ops.pv (pv_assign rfl) rfl ?_
    refine Ops.nil ?_
    refine Ends.seq ?_
    refine Wp.ret ?_
    refine Ends.then_ret ?_
    exact Ends.ret (res2 rfl rfl rfl) ⟨rfl, rfl⟩
  · obtain ⟨y, t, rfl⟩ : ∃ y t, bd = y :: t := by cases bd with | nil => simp_all | cons y t => exact ⟨y, t, rfl⟩
    obtain ⟨b5, o5, cap5, cc5, T5, f5, hv5, hbv5, hr5⟩ := hc1.view.open (by simp)
    have hny := ints_nth (i := 0) hr5 rfl
    cases hv5
    refine Wp.skip ?_
    refine Ends.seq ?_
    refine Wp.seq ?_
    refine Wp.region ?_
    refine Ops.pv (pv_move rfl) rfl ?_
    refine Ops.pv (pv_indexAddr (i := 0) rfl rfl rfl (by simp)) rfl ?_
    first | refine Ops.pv (pv_load rfl rfl rfl) rfl ?_ | refine Ops.pv (pv_load rfl rfl (by assumption)) rfl ?_
    refine Ops.pv (pv_assign rfl) rfl ?_
    refine Ops.pv (pv_assign rfl) rfl ?_
    refine Ops.nil ?_
    refine Ends.seq ?_
    refine Wp.ret ?_
    exact Ends.ret (res2 rfl rfl rfl) ⟨rfl, rfl⟩

theorem tr_ntTake (nb : Nat) (H : Hp) (S : Nt) (hH : NtH S nb H) : Tr Try.prog 74 [.pointer (some ⟨nb, 0, none⟩)] (H) (fun u L' => u = .int .u64 S.w ∧ NtH ⟨0, S.l, S.b⟩ nb L') := by
  obtain ⟨w, l, bd⟩ := S
  obtain ⟨lb, bb, v, u, K, J, hs, hu, rfl⟩ := hH
  dsimp only at hs hu ⊢
  refine Tr.enter Try.func74 rfl Try.ntmps74 rfl (fun W F => ?_)
  refine Wp.app ?_
  refine Wp.seq ?_
  refine Wp.region ?_
  refine Ops.pv (pv_assign rfl) rfl ?_
  refine Ops.nil ?_
  refine Ends.seq ?_
  refine Wp.seq ?_
  refine Wp.region ?_
  refine Ops.pv (pv_move rfl) rfl ?_
  first | refine Ops.pv (pv_nilCheck rfl) rfl ?_ | refine Ops.pv (pv_nilCheck_func rfl rfl) rfl ?_
  first | refine Ops.pv (pv_fieldAddr0 rfl rfl) rfl ?_ | refine Ops.pv (pv_fieldAddr rfl rfl) rfl ?_
  first | refine Ops.pv (pv_load rfl rfl rfl) rfl ?_ | refine Ops.pv (pv_load rfl rfl (by assumption)) rfl ?_
  refine Ops.pv (pv_assign rfl) rfl ?_
  refine Ops.nil ?_
  refine Ends.seq ?_
  refine Wp.seq ?_
  refine Wp.region ?_
  refine Ops.pv (pv_move rfl) rfl ?_
  first | refine Ops.pv (pv_nilCheck rfl) rfl ?_ | refine Ops.pv (pv_nilCheck_func rfl rfl) rfl ?_
  first | refine Ops.pv (pv_fieldAddr0 rfl rfl) rfl ?_ | refine Ops.pv (pv_fieldAddr rfl rfl) rfl ?_
  refine Ops.ef rfl (ef_store1 rfl rfl (by first | rfl | assumption) (by first | rfl | assumption)) ?_
  rintro _ _ ⟨rfl, rfl⟩
  refine Ops.nil ?_
  refine Ends.seq ?_
  refine Wp.seq ?_
  refine Wp.region ?_
  refine Ops.pv (pv_move rfl) rfl ?_
  refine Ops.pv (pv_assign rfl) rfl ?_
  refine Ops.nil ?_
  refine Ends.seq ?_
  refine Wp.ret ?_
  exact Ends.ret (L' := (nb, .cells [.int .u64 0, .pointer (some ⟨lb, 0, none⟩), .pointer (some ⟨bb, 0, none⟩)].toArray 102) :: (lb, .cells [v].toArray 87) :: (bb, .cells [u].toArray 87) :: (K ++ J)) (res1 rfl rfl) ⟨rfl, ⟨lb, bb, _, _, _, _, hs, hu, rfl⟩⟩

theorem tr_ntSignal (nb : Nat) (H : Hp) (S : Nt) (hH : NtH S nb H) (hl : S.l.length ≤ 2 ^ 20) (hb : S.b.length ≤ 1) (x : Int) (bound : Bool) : Tr Try.prog 50 [.pointer (some ⟨nb, 0, none⟩), .int .u64 x, .bool bound] (H) (fun u L' => u = .tuple #[.int .i64 (sgV S bound), .int .u64 (sgW S x bound), .bool (sgB S bound)] ∧ NtH (sgS S x bound) nb L') := by
  obtain ⟨w, l, bd⟩ := S
  obtain ⟨lb, bb, v, u, K, J, hs, hu, rfl⟩ := hH
  dsimp only at hs hu hl hb ⊢
  refine Tr.enter Try.func50 rfl Try.ntmps50 rfl (fun W F => ?_)
  refine Wp.app ?_
  refine Wp.seq ?_
  refine Wp.region ?_
  refine Ops.pv (pv_assign rfl) rfl ?_
  refine Ops.pv (pv_assign rfl) rfl ?_
  refine Ops.pv (pv_assign rfl) rfl ?_
  refine Ops.nil ?_
  refine Ends.seq ?_
  refine Wp.seq ?_
  refine Wp.seq ?_
  refine Wp.region ?_
  refine Ops.pv (pv_move rfl) rfl ?_
  first | refine Ops.pv (pv_nilCheck rfl) rfl ?_ | refine Ops.pv (pv_nilCheck_func rfl rfl) rfl ?_
  first | refine Ops.pv (pv_fieldAddr0 rfl rfl) rfl ?_ | refine Ops.pv (pv_fieldAddr rfl rfl) rfl ?_
  first | refine Ops.pv (pv_load rfl rfl rfl) rfl ?_ | refine Ops.pv (pv_load rfl rfl (by assumption)) rfl ?_
  refine Ops.ef rfl (ef_call (tr_lpop lb v K l hs (by omega)) rfl rfl) ?_
  rintro _ _ ⟨_, _, ⟨rfl, v1, H1, hs1, rfl⟩, rfl, rfl⟩
  refine Ops.app ?_
  refine Ops.pv (pv_move rfl) rfl ?_
  refine Ops.pv (pv_extract rfl rfl) rfl ?_
  refine Ops.pv (pv_extract rfl rfl) rfl ?_
  refine Ops.pv (pv_assign rfl) rfl ?_
  refine Ops.pv (pv_assign rfl) rfl ?_
  refine Ops.nil ?_
  refine Ends.seq ?_
  refine Wp.seq ?_
  refine Wp.region ?_
  refine Ops.pv (pv_move rfl) rfl ?_
  refine Ops.nil ?_
  refine Ends.seq ?_
  first | refine Wp.cond_dect rfl (fun h1 => ?_) (fun h1 => ?_) | refine Wp.cond_t rfl (fun h1 => ?_) (fun h1 => ?_)
  · have hne : l ≠ [] := by rintro rfl; simp_all [popB]
    refine Wp.seq ?_
    refine Wp.region ?_
    refine Ops.pv (pv_move rfl) rfl ?_
    refine Ops.pv (pv_move rfl) rfl ?_
    refine Ops.pv (pv_assign rfl) rfl ?_
    refine Ops.pv (pv_assign rfl) rfl ?_
    refine Ops.pv (pv_assign rfl) rfl ?_
    refine Ops.nil ?_
    refine Ends.seq ?_
    refine Wp.ret ?_
    refine Ends.then_ret ?_
    obtain ⟨m1, m2, m3, m4⟩ := sg_wait (S := (⟨w, l, bd⟩ : Nt)) x bound hne
    exact Ends.ret (L' := (nb, .cells [.int .u64 w, .pointer (some ⟨lb, 0, none⟩), .pointer (some ⟨bb, 0, none⟩)].toArray 102) :: (lb, .cells [v1].toArray 87) :: (bb, .cells [u].toArray 87) :: (H1 ++ J)) (res3 rfl rfl rfl rfl) ⟨by rw [m1, m2, m3]; rfl, by rw [m4]; exact ⟨lb, bb, _, _, _, _, hs1, hu, rfl⟩⟩
  · have hne : l = [] := by have h9 : popB l = false := (by assumption); simpa [popB] using h9
    refine Wp.skip ?_
    refine Ends.seq ?_
    refine Wp.seq ?_
    refine Wp.region ?_
    refine Ops.pv (pv_move rfl) rfl ?_
    first | refine Ops.pv (pv_nilCheck rfl) rfl ?_ | refine Ops.pv (pv_nilCheck_func rfl rfl) rfl ?_
    first | refine Ops.pv (pv_fieldAddr0 rfl rfl) rfl ?_ | refine Ops.pv (pv_fieldAddr rfl rfl) rfl ?_
    first | refine Ops.pv (pv_load rfl rfl rfl) rfl ?_ | refine Ops.pv (pv_load rfl rfl (by assumption)) rfl ?_
    refine Ops.pv (pv_move rfl) rfl ?_
    refine Ops.pv (pv_or rfl rfl rfl) rfl ?_
    first | refine Ops.pv (pv_nilCheck rfl) rfl ?_ | refine Ops.pv (pv_nilCheck_func rfl rfl) rfl ?_
    first | refine Ops.pv (pv_fieldAddr0 rfl rfl) rfl ?_ | refine Ops.pv (pv_fieldAddr rfl rfl) rfl ?_
    refine Ops.ef rfl (ef_store1 rfl rfl (by first | rfl | assumption) (by first | rfl | assumption)) ?_
    rintro _ _ ⟨rfl, rfl⟩
    refine Ops.nil ?_
    refine Ends.seq ?_
    refine Wp.seq ?_
    refine Wp.region ?_
    refine Ops.pv (pv_move rfl) rfl ?_
    refine Ops.ef rfl (ef_callr (tr_ntBound nb _ ⟨orI w x, l.tail, bd⟩ ⟨lb, bb, _, _, _, _, hs1, hu, rfl⟩ (by dsimp only; simp; omega) hb) rfl rfl) ?_
    rintro _ _ ⟨rfl, rfl⟩
    refine Ops.pv (pv_move rfl) rfl ?_
    refine Ops.pv (pv_extract rfl rfl) rfl ?_
    refine Ops.pv (pv_extract rfl rfl) rfl ?_
    refine Ops.pv (pv_assign rfl) rfl ?_
    refine Ops.pv (pv_assign rfl) rfl ?_
    refine Ops.nil ?_
    refine Ends.seq ?_
    refine Wp.seq ?_
    refine Wp.seq ?_
    refine Wp.region ?_
    refine Ops.pv (pv_move rfl) rfl ?_
    first | refine Ops.pv (pv_not_dec rfl) rfl ?_ | refine Ops.pv (pv_not rfl) rfl ?_
    refine Ops.pv (pv_move rfl) rfl ?_
    first | refine Ops.split (t := 39) rfl (fun h2 => ?_) (fun h2 => ?_) | refine Ops.splitb (t := 39) rfl (fun h2 => ?_) (fun h2 => ?_)
    · refine Ops.skipg ⟨_, _, rfl, rfl, rfl⟩ rfl ?_
      refine Ops.skipg ⟨_, _, rfl, rfl, rfl⟩ rfl ?_
      refine Ops.pv (pv_pick_true rfl rfl) rfl ?_
      refine Ops.nil ?_
      refine Ends.seq ?_
      refine Wp.cond_true rfl ?_
      refine Wp.seq ?_
      refine Wp.region ?_
      refine Ops.pv (pv_assign rfl) rfl ?_
      refine Ops.pv (pv_assign rfl) rfl ?_
      refine Ops.pv (pv_assign rfl) rfl ?_
      refine Ops.nil ?_
      refine Ends.seq ?_
      refine Wp.ret ?_
      refine Ends.then_ret ?_
      subst hne
      obtain ⟨m1, m2, m3, m4⟩ := sg_none (S := (⟨w, [], bd⟩ : Nt)) x (bound := bound) rfl (by rintro ⟨e, _⟩; simp_all)
      exact Ends.ret (L' := (nb, .cells [.int .u64 (orI w x), .pointer (some ⟨lb, 0, none⟩), .pointer (some ⟨bb, 0, none⟩)].toArray 102) :: (lb, .cells [v1].toArray 87) :: (bb, .cells [u].toArray 87) :: (H1 ++ J)) (res3 rfl rfl rfl rfl) ⟨by rw [m1, m2, m3], by rw [m4]; exact ⟨lb, bb, _, _, _, _, hs1, hu, rfl⟩⟩
    · refine Ops.pvg ⟨_, _, rfl, rfl, rfl⟩ (pv_move rfl) rfl ?_
      first | refine Ops.pvg ⟨_, _, rfl, rfl, rfl⟩ (pv_not_dec rfl) rfl ?_ | refine Ops.pvg ⟨_, _, rfl, rfl, rfl⟩ (pv_not rfl) rfl ?_
      refine Ops.pv (pv_pick_false rfl rfl) rfl ?_
      refine Ops.nil ?_
      refine Ends.seq ?_
      first | refine Wp.cond_dect rfl (fun h3 => ?_) (fun h3 => ?_) | refine Wp.cond_t rfl (fun h3 => ?_) (fun h3 => ?_)
      · refine Wp.seq ?_
        refine Wp.region ?_
        refine Ops.pv (pv_assign rfl) rfl ?_
        refine Ops.pv (pv_assign rfl) rfl ?_
        refine Ops.pv (pv_assign rfl) rfl ?_
        refine Ops.nil ?_
        refine Ends.seq ?_
        refine Wp.ret ?_
        refine Ends.then_ret ?_
        subst hne
        obtain ⟨m1, m2, m3, m4⟩ := sg_none (S := (⟨w, [], bd⟩ : Nt)) x (bound := bound) rfl (by rintro ⟨_, e⟩; simp_all)
        exact Ends.ret (L' := (nb, .cells [.int .u64 (orI w x), .pointer (some ⟨lb, 0, none⟩), .pointer (some ⟨bb, 0, none⟩)].toArray 102) :: (lb, .cells [v1].toArray 87) :: (bb, .cells [u].toArray 87) :: (H1 ++ J)) (res3 rfl rfl rfl rfl) ⟨by rw [m1, m2, m3], by rw [m4]; exact ⟨lb, bb, _, _, _, _, hs1, hu, rfl⟩⟩
      · refine Wp.skip ?_
        refine Ends.seq ?_
        refine Wp.seq ?_
        refine Wp.region ?_
        refine Ops.pv (pv_move rfl) rfl ?_
        refine Ops.pv (pv_move rfl) rfl ?_
        refine Ops.ef rfl (ef_call (tr_ntTake nb _ ⟨orI w x, l.tail, bd⟩ ⟨lb, bb, _, _, _, _, hs1, hu, rfl⟩) rfl rfl) ?_
        rintro _ _ ⟨_, _, ⟨rfl, hN1⟩, rfl, rfl⟩
        refine Ops.app ?_
        refine Ops.pv (pv_assign rfl) rfl ?_
        refine Ops.pv (pv_assign rfl) rfl ?_
        refine Ops.pv (pv_assign rfl) rfl ?_
        refine Ops.nil ?_
        refine Ends.seq ?_
        refine Wp.ret ?_
        subst hne
        obtain ⟨m1, m2, m3, m4⟩ := sg_bound (S := (⟨w, [], bd⟩ : Nt)) x (bound := bound) rfl ⟨by simp_all, by simp_all⟩
        exact Ends.ret (res3 rfl rfl rfl rfl) ⟨by rw [m1, m2, m3], by rw [m4]; exact hN1⟩

theorem tr_ntWait (nb : Nat) (H : Hp) (S : Nt) (hH : NtH S nb H) (hl : S.l.length ≤ 2 ^ 20) (hb : S.b.length ≤ 1) (id : Int) (wait : Bool) : Tr Try.prog 51 [.pointer (some ⟨nb, 0, none⟩), .int .i64 id, .bool wait] (H) (fun u L' => u = .tuple #[.int .u64 (wtW S id), .bool (wtB S id), .int .i64 (wtE S id)] ∧ NtH (wtS S id wait) nb L') := by
  obtain ⟨w, l, bd⟩ := S
  obtain ⟨lb, bb, v, u, K, J, hs, hu, rfl⟩ := hH
  dsimp only at hs hu hl hb ⊢
  refine Tr.enter Try.func51 rfl Try.ntmps51 rfl (fun W F => ?_)
  refine Wp.app ?_
  refine Wp.seq ?_
  refine Wp.region ?_
  refine Ops.pv (pv_assign rfl) rfl ?_
  refine Ops.pv (pv_assign rfl) rfl ?_
  refine Ops.pv (pv_assign rfl) rfl ?_
  refine Ops.nil ?_
  refine Ends.seq ?_
  refine Wp.seq ?_
  refine Wp.region ?_
  refine Ops.pv (pv_move rfl) rfl ?_
  first | refine Ops.pv (pv_nilCheck rfl) rfl ?_ | refine Ops.pv (pv_nilCheck_func rfl rfl) rfl ?_
  first | refine Ops.pv (pv_fieldAddr0 rfl rfl) rfl ?_ | refine Ops.pv (pv_fieldAddr rfl rfl) rfl ?_
  first | refine Ops.pv (pv_load rfl rfl rfl) rfl ?_ | refine Ops.pv (pv_load rfl rfl (by assumption)) rfl ?_
  refine Ops.pv (pv_move rfl) rfl ?_
  refine Ops.ef rfl (ef_call (tr_lpush lb v K l id hs (by omega)) rfl rfl) ?_
  rintro _ _ ⟨_, _, ⟨rfl, v1, H1, hs1, rfl⟩, rfl, rfl⟩
  refine Ops.app ?_
  refine Ops.pv (pv_assign rfl) rfl ?_
  refine Ops.nil ?_
  refine Ends.seq ?_
  refine Wp.seq ?_
  refine Wp.seq ?_
  refine Wp.region ?_
  refine Ops.pv (pv_move rfl) rfl ?_
  refine Ops.pv (pv_neq rfl rfl) rfl ?_
  refine Ops.nil ?_
  refine Ends.seq ?_
  first | refine Wp.cond_dect rfl (fun h1 => ?_) (fun h1 => ?_) | refine Wp.cond_t rfl (fun h1 => ?_) (fun h1 => ?_)
  · have he : ¬ pushE l id = 0 := by assumption
    rw [push_no he] at hs1
    refine Wp.seq ?_
    refine Wp.region ?_
    refine Ops.pv (pv_move rfl) rfl ?_
    refine Ops.pv (pv_assign rfl) rfl ?_
    refine Ops.pv (pv_assign rfl) rfl ?_
    refine Ops.pv (pv_assign rfl) rfl ?_
    refine Ops.nil ?_
    refine Ends.seq ?_
    refine Wp.ret ?_
    refine Ends.then_ret ?_
    obtain ⟨m1, m2, m3⟩ := wt_err (S := (⟨w, l, bd⟩ : Nt)) (wait := wait) he
    exact Ends.ret (L' := (nb, .cells [.int .u64 w, .pointer (some ⟨lb, 0, none⟩), .pointer (some ⟨bb, 0, none⟩)].toArray 102) :: (lb, .cells [v1].toArray 87) :: (bb, .cells [u].toArray 87) :: (H1 ++ J)) (res3 rfl rfl rfl rfl) ⟨by rw [m1, m2]; rfl, by rw [m3]; exact ⟨lb, bb, _, _, _, _, hs1, hu, rfl⟩⟩
  · have he : pushE l id = 0 := by omega
    obtain ⟨hp1, hp2⟩ := push_ok0 he
    rw [hp1] at hs1
    refine Wp.skip ?_
    refine Ends.seq ?_
    refine Wp.seq ?_
    refine Wp.seq ?_
    refine Wp.region ?_
    refine Ops.pv (pv_move rfl) rfl ?_
    first | refine Ops.pv (pv_nilCheck rfl) rfl ?_ | refine Ops.pv (pv_nilCheck_func rfl rfl) rfl ?_
    first | refine Ops.pv (pv_fieldAddr0 rfl rfl) rfl ?_ | refine Ops.pv (pv_fieldAddr rfl rfl) rfl ?_
    first | refine Ops.pv (pv_load rfl rfl rfl) rfl ?_ | refine Ops.pv (pv_load rfl rfl (by assumption)) rfl ?_
    refine Ops.pv (pv_eql rfl rfl) rfl ?_
    refine Ops.pv (pv_move rfl) rfl ?_
    first | refine Ops.split (t := 25) rfl (fun h2 => ?_) (fun h2 => ?_) | refine Ops.splitb (t := 25) rfl (fun h2 => ?_) (fun h2 => ?_)
    · refine Ops.pvg ⟨_, _, rfl, rfl, rfl⟩ (pv_move rfl) rfl ?_
      refine Ops.pv (pv_pick_true rfl rfl) rfl ?_
      refine Ops.nil ?_
      refine Ends.seq ?_
      first | refine Wp.cond_dect rfl (fun h3 => ?_) (fun h3 => ?_) | refine Wp.cond_t rfl (fun h3 => ?_) (fun h3 => ?_)
      · refine Wp.seq ?_
        refine Wp.region ?_
        refine Ops.pv (pv_assign rfl) rfl ?_
        refine Ops.pv (pv_assign rfl) rfl ?_
        refine Ops.pv (pv_assign rfl) rfl ?_
        refine Ops.nil ?_
        refine Ends.seq ?_
        refine Wp.ret ?_
        refine Ends.then_ret ?_
        obtain ⟨m1, m2, m3⟩ := wt_waits (S := (⟨w, l, bd⟩ : Nt)) (wait := wait) he ⟨by assumption, by assumption⟩
        exact Ends.ret (L' := (nb, .cells [.int .u64 w, .pointer (some ⟨lb, 0, none⟩), .pointer (some ⟨bb, 0, none⟩)].toArray 102) :: (lb, .cells [v1].toArray 87) :: (bb, .cells [u].toArray 87) :: (H1 ++ J)) (res3 rfl rfl rfl rfl) ⟨by rw [m1, m2, wtE, he], by rw [m3]; exact ⟨lb, bb, _, _, _, _, hs1, hu, rfl⟩⟩
      · refine Wp.skip ?_
        refine Ends.seq ?_
        refine Wp.seq ?_
        refine Wp.region ?_
        refine Ops.pv (pv_move rfl) rfl ?_
        first | refine Ops.pv (pv_nilCheck rfl) rfl ?_ | refine Ops.pv (pv_nilCheck_func rfl rfl) rfl ?_
        first | refine Ops.pv (pv_fieldAddr0 rfl rfl) rfl ?_ | refine Ops.pv (pv_fieldAddr rfl rfl) rfl ?_
        first | refine Ops.pv (pv_load rfl rfl rfl) rfl ?_ | refine Ops.pv (pv_load rfl rfl (by assumption)) rfl ?_
        refine Ops.pv (pv_move rfl) rfl ?_
        refine Ops.ef rfl (ef_call (tr_lremove lb v1 H1 (l ++ [id]) id hs1 (by rw [List.length_append]; simp; omega)) rfl rfl) ?_
        rintro _ _ ⟨_, _, ⟨rfl, v2, H2, hs2, rfl⟩, rfl, rfl⟩
        refine Ops.app ?_
        rw [rem_snoc hp2] at hs2
        refine Ops.nil ?_
        refine Ends.seq ?_
        refine Wp.seq ?_
        refine Wp.region ?_
        refine Ops.pv (pv_move rfl) rfl ?_
        refine Ops.ef rfl (ef_call (tr_ntTake nb _ ⟨w, l, bd⟩ ⟨lb, bb, _, _, _, _, hs2, hu, rfl⟩) rfl rfl) ?_
        rintro _ _ ⟨_, _, ⟨rfl, hN1⟩, rfl, rfl⟩
        refine Ops.app ?_
        refine Ops.pv (pv_assign rfl) rfl ?_
        refine Ops.nil ?_
        refine Ends.seq ?_
        refine Wp.seq ?_
        refine Wp.region ?_
        refine Ops.pv (pv_move rfl) rfl ?_
        refine Ops.pv (pv_move rfl) rfl ?_
        refine Ops.pv (pv_neq rfl rfl) rfl ?_
        refine Ops.pv (pv_assign rfl) rfl ?_
        refine Ops.pv (pv_assign rfl) rfl ?_
        refine Ops.pv (pv_assign rfl) rfl ?_
        refine Ops.nil ?_
        refine Ends.seq ?_
        refine Wp.ret ?_
        obtain ⟨m1, m2, m3⟩ := wt_takes (S := (⟨w, l, bd⟩ : Nt)) (wait := wait) he (by rintro ⟨_, e⟩; simp_all)
        exact Ends.ret (res3 rfl rfl rfl rfl) ⟨by rw [m1, m2, wtE, he], by rw [m3]; exact hN1⟩
    · refine Ops.skipg ⟨_, _, rfl, rfl, rfl⟩ rfl ?_
      refine Ops.pv (pv_pick_false rfl rfl) rfl ?_
      refine Ops.nil ?_
      refine Ends.seq ?_
      refine Wp.cond_false rfl ?_
      refine Wp.skip ?_
      refine Ends.seq ?_
      refine Wp.seq ?_
      refine Wp.region ?_
      refine Ops.pv (pv_move rfl) rfl ?_
      first | refine Ops.pv (pv_nilCheck rfl) rfl ?_ | refine Ops.pv (pv_nilCheck_func rfl rfl) rfl ?_
      first | refine Ops.pv (pv_fieldAddr0 rfl rfl) rfl ?_ | refine Ops.pv (pv_fieldAddr rfl rfl) rfl ?_
      first | refine Ops.pv (pv_load rfl rfl rfl) rfl ?_ | refine Ops.pv (pv_load rfl rfl (by assumption)) rfl ?_
      refine Ops.pv (pv_move rfl) rfl ?_
      refine Ops.ef rfl (ef_call (tr_lremove lb v1 H1 (l ++ [id]) id hs1 (by rw [List.length_append]; simp; omega)) rfl rfl) ?_
      rintro _ _ ⟨_, _, ⟨rfl, v3, H3, hs3, rfl⟩, rfl, rfl⟩
      refine Ops.app ?_
      rw [rem_snoc hp2] at hs3
      refine Ops.nil ?_
      refine Ends.seq ?_
      refine Wp.seq ?_
      refine Wp.region ?_
      refine Ops.pv (pv_move rfl) rfl ?_
      refine Ops.ef rfl (ef_call (tr_ntTake nb _ ⟨w, l, bd⟩ ⟨lb, bb, _, _, _, _, hs3, hu, rfl⟩) rfl rfl) ?_
      rintro _ _ ⟨_, _, ⟨rfl, hN2⟩, rfl, rfl⟩
      refine Ops.app ?_
      refine Ops.pv (pv_assign rfl) rfl ?_
      refine Ops.nil ?_
      refine Ends.seq ?_
      refine Wp.seq ?_
      refine Wp.region ?_
      refine Ops.pv (pv_move rfl) rfl ?_
      refine Ops.pv (pv_move rfl) rfl ?_
      refine Ops.pv (pv_neq rfl rfl) rfl ?_
      refine Ops.pv (pv_assign rfl) rfl ?_
      refine Ops.pv (pv_assign rfl) rfl ?_
      refine Ops.pv (pv_assign rfl) rfl ?_
      refine Ops.nil ?_
      refine Ends.seq ?_
      refine Wp.ret ?_
      obtain ⟨m1, m2, m3⟩ := wt_takes (S := (⟨w, l, bd⟩ : Nt)) (wait := wait) he (by rintro ⟨e, _⟩; simp_all)
      exact Ends.ret (res3 rfl rfl rfl rfl) ⟨by rw [m1, m2, wtE, he], by rw [m3]; exact hN2⟩

theorem tr_ntCancel (nb : Nat) (H : Hp) (S : Nt) (hH : NtH S nb H) (hl : S.l.length ≤ 2 ^ 20) (hb : S.b.length ≤ 1) (id : Int) : Tr Try.prog 57 [.pointer (some ⟨nb, 0, none⟩), .int .i64 id] (H) (fun u L' => u = .bool (remB S.l id) ∧ NtH ⟨S.w, remL S.l id, S.b⟩ nb L') := by
  obtain ⟨w, l, bd⟩ := S
  obtain ⟨lb, bb, v, u, K, J, hs, hu, rfl⟩ := hH
  dsimp only at hs hu hl hb ⊢
  refine Tr.enter Try.func57 rfl Try.ntmps57 rfl (fun W F => ?_)
  refine Wp.app ?_
  refine Wp.seq ?_
  refine Wp.region ?_
  refine Ops.pv (pv_assign rfl) rfl ?_
  refine Ops.nil ?_
  refine Ends.seq ?_
  refine Wp.seq ?_
  refine Wp.region ?_
  refine Ops.pv (pv_move rfl) rfl ?_
  first | refine Ops.pv (pv_nilCheck rfl) rfl ?_ | refine Ops.pv (pv_nilCheck_func rfl rfl) rfl ?_
  first | refine Ops.pv (pv_fieldAddr0 rfl rfl) rfl ?_ | refine Ops.pv (pv_fieldAddr rfl rfl) rfl ?_
  first | refine Ops.pv (pv_load rfl rfl rfl) rfl ?_ | refine Ops.pv (pv_load rfl rfl (by assumption)) rfl ?_
  refine Ops.pv (pv_move rfl) rfl ?_
  refine Ops.ef rfl (ef_call (tr_lremove lb v K l id hs (by omega)) rfl rfl) ?_
  rintro _ _ ⟨_, _, ⟨rfl, v1, H1, hs1, rfl⟩, rfl, rfl⟩
  refine Ops.app ?_
  refine Ops.pv (pv_assign rfl) rfl ?_
  refine Ops.nil ?_
  refine Ends.seq ?_
  refine Wp.ret ?_
  exact Ends.ret (L' := (nb, .cells [.int .u64 w, .pointer (some ⟨lb, 0, none⟩), .pointer (some ⟨bb, 0, none⟩)].toArray 102) :: (lb, .cells [v1].toArray 87) :: (bb, .cells [u].toArray 87) :: (H1 ++ J)) (res1 rfl rfl) ⟨rfl, ⟨lb, bb, _, _, _, _, hs1, hu, rfl⟩⟩

theorem tr_ntBind (nb : Nat) (H : Hp) (S : Nt) (hH : NtH S nb H) (hl : S.l.length ≤ 2 ^ 20) (hb : S.b.length ≤ 1) (id : Int) : Tr Try.prog 53 [.pointer (some ⟨nb, 0, none⟩), .int .i64 id] (H) (fun u L' => u = .int .i64 (bdE S id) ∧ NtH (bdS S id) nb L') := by
  obtain ⟨w, l, bd⟩ := S
  obtain ⟨lb, bb, v, u, K, J, hs, hu, rfl⟩ := hH
  dsimp only at hs hu hl hb ⊢
  refine Tr.enter Try.func53 rfl Try.ntmps53 rfl (fun W F => ?_)
  refine Wp.app ?_
  refine Wp.seq ?_
  refine Wp.region ?_
  refine Ops.pv (pv_assign rfl) rfl ?_
  refine Ops.nil ?_
  refine Ends.seq ?_
  refine Wp.seq ?_
  refine Wp.region ?_
  refine Ops.pv (pv_move rfl) rfl ?_
  refine Ops.ef rfl (ef_callr (tr_ntBound nb _ (⟨w, l, bd⟩ : Nt) ⟨lb, bb, _, _, _, _, hs, hu, rfl⟩ hl hb) rfl rfl) ?_
  rintro _ _ ⟨rfl, rfl⟩
  refine Ops.pv (pv_move rfl) rfl ?_
  refine Ops.pv (pv_extract rfl rfl) rfl ?_
  refine Ops.pv (pv_extract rfl rfl) rfl ?_
  refine Ops.pv (pv_assign rfl) rfl ?_
  refine Ops.pv (pv_assign rfl) rfl ?_
  refine Ops.nil ?_
  refine Ends.seq ?_
  refine Wp.seq ?_
  refine Wp.seq ?_
  refine Wp.region ?_
  refine Ops.ef rfl (ef_call (tr_lnew) rfl rfl) ?_
  rintro _ _ ⟨_, _, ⟨lb1, rfl, rfl⟩, rfl, rfl⟩
  refine Ops.app ?_
  have hz0 := Slc.nil 3 1
  refine Ops.pv (pv_move rfl) rfl ?_
  refine Ops.ef rfl (ef_call (tr_lpush lb1 _ [] [] id hz0 (by simp)) rfl rfl) ?_
  rintro _ _ ⟨_, _, ⟨rfl, v1, H1, hs1, rfl⟩, rfl, rfl⟩
  refine Ops.app ?_
  refine Ops.pv (pv_assign rfl) rfl ?_
  refine Ops.nil ?_
  refine Ends.seq ?_
  refine Wp.block ?_
  refine Wp.seq ?_
  refine Wp.region ?_
  refine Ops.pv (pv_move rfl) rfl ?_
  refine Ops.pv (pv_neq rfl rfl) rfl ?_
  refine Ops.pv (pv_assign rfl) rfl ?_
  refine Ops.nil ?_
  refine Ends.seq ?_
  first | refine Wp.cond_dect rfl (fun h1 => ?_) (fun h1 => ?_) | refine Wp.cond_t rfl (fun h1 => ?_) (fun h1 => ?_)
  · refine Wp.seq ?_
    refine Wp.region ?_
    refine Ops.pv (pv_move rfl) rfl ?_
    refine Ops.pv (pv_assign rfl) rfl ?_
    refine Ops.nil ?_
    refine Ends.seq ?_
    refine Wp.ret ?_
    refine Ends.block_ret ?_
    refine Ends.then_ret ?_
    obtain ⟨m1, m2⟩ := bdE_err (S := (⟨w, l, bd⟩ : Nt)) (id := id) (by assumption)
    exact Ends.ret (L' := (nb, .cells [.int .u64 w, .pointer (some ⟨lb, 0, none⟩), .pointer (some ⟨bb, 0, none⟩)].toArray 102) :: (lb, .cells [v].toArray 87) :: (bb, .cells [u].toArray 87) :: (K ++ J)) (res1 rfl rfl) ⟨by rw [m1], by rw [m2]; exact ⟨lb, bb, _, _, _, _, hs, hu, rfl⟩⟩
  · refine Wp.seq ?_
    refine Wp.region ?_
    refine Ops.pv (pv_move rfl) rfl ?_
    refine Ops.pv (pv_assign rfl) rfl ?_
    refine Ops.nil ?_
    refine Ends.seq ?_
    first | refine Wp.cond_dect rfl (fun h2 => ?_) (fun h2 => ?_) | refine Wp.cond_t rfl (fun h2 => ?_) (fun h2 => ?_)
    · refine Wp.seq ?_
      refine Wp.region ?_
      refine Ops.pv (pv_assign rfl) rfl ?_
      refine Ops.nil ?_
      refine Ends.seq ?_
      refine Wp.ret ?_
      refine Ends.block_ret ?_
      refine Ends.then_ret ?_
      obtain ⟨m1, m2⟩ := bdE_twice (S := (⟨w, l, bd⟩ : Nt)) (id := id) (by omega) (by dsimp only; rintro rfl; simp_all)
      exact Ends.ret (L' := (nb, .cells [.int .u64 w, .pointer (some ⟨lb, 0, none⟩), .pointer (some ⟨bb, 0, none⟩)].toArray 102) :: (lb, .cells [v].toArray 87) :: (bb, .cells [u].toArray 87) :: (K ++ J)) (res1 rfl rfl) ⟨by rw [m1], by rw [m2]; exact ⟨lb, bb, _, _, _, _, hs, hu, rfl⟩⟩
    · refine Wp.skip ?_
      refine Ends.block_normal ?_
      refine Ends.seq ?_
      refine Wp.seq ?_
      refine Wp.region ?_
      refine Ops.pv (pv_move rfl) rfl ?_
      first | refine Ops.pv (pv_nilCheck rfl) rfl ?_ | refine Ops.pv (pv_nilCheck_func rfl rfl) rfl ?_
      first | refine Ops.pv (pv_fieldAddr0 rfl rfl) rfl ?_ | refine Ops.pv (pv_fieldAddr rfl rfl) rfl ?_
      first | refine Ops.pv (pv_load rfl rfl rfl) rfl ?_ | refine Ops.pv (pv_load rfl rfl (by assumption)) rfl ?_
      refine Ops.pv (pv_move rfl) rfl ?_
      refine Ops.ef rfl (ef_call (tr_lpush bb u J bd id hu (by omega)) rfl rfl) ?_
      rintro _ _ ⟨_, _, ⟨rfl, v2, H2, hs2, rfl⟩, rfl, rfl⟩
      refine Ops.app ?_
      refine Ops.pv (pv_assign rfl) rfl ?_
      refine Ops.nil ?_
      refine Ends.seq ?_
      refine Wp.ret ?_
      have hz : bd = [] := by cases bd with
        | nil => rfl
        | cons y t => simp_all
      subst hz
      have he : pushE [] id = 0 := by omega
      obtain ⟨m1, m2⟩ := bdE_ok (S := (⟨w, l, []⟩ : Nt)) (id := id) he rfl
      rw [bd_push he] at hs2
      exact Ends.ret (L' := (nb, .cells [.int .u64 w, .pointer (some ⟨lb, 0, none⟩), .pointer (some ⟨bb, 0, none⟩)].toArray 102) :: (lb, .cells [v].toArray 87) :: (bb, .cells [v2].toArray 87) :: (K ++ H2)) (res1 rfl rfl) ⟨by rw [m1, he], by rw [m2]; exact ⟨lb, bb, _, _, _, _, hs, hs2, rfl⟩⟩

theorem tr_ntUnbind (nb : Nat) (H : Hp) (S : Nt) (hH : NtH S nb H) (hl : S.l.length ≤ 2 ^ 20) (hb : S.b.length ≤ 1) : Tr Try.prog 54 [.pointer (some ⟨nb, 0, none⟩)] (H) (fun u L' => u = .tuple #[.int .i64 (popV S.b), .bool (popB S.b)] ∧ NtH ⟨S.w, S.l, S.b.tail⟩ nb L') := by
  obtain ⟨w, l, bd⟩ := S
  obtain ⟨lb, bb, v, u, K, J, hs, hu, rfl⟩ := hH
  dsimp only at hs hu hl hb ⊢
  refine Tr.enter Try.func54 rfl Try.ntmps54 rfl (fun W F => ?_)
  refine Wp.app ?_
  refine Wp.seq ?_
  refine Wp.region ?_
  refine Ops.pv (pv_assign rfl) rfl ?_
  refine Ops.pv (pv_assign rfl) rfl ?_
  refine Ops.nil ?_
  refine Ends.seq ?_
  refine Wp.seq ?_
  refine Wp.region ?_
  refine Ops.pv (pv_move rfl) rfl ?_
  first | refine Ops.pv (pv_nilCheck rfl) rfl ?_ | refine Ops.pv (pv_nilCheck_func rfl rfl) rfl ?_
  first | refine Ops.pv (pv_fieldAddr0 rfl rfl) rfl ?_ | refine Ops.pv (pv_fieldAddr rfl rfl) rfl ?_
  first | refine Ops.pv (pv_load rfl rfl rfl) rfl ?_ | refine Ops.pv (pv_load rfl rfl (by assumption)) rfl ?_
  refine Ops.ef rfl (ef_call (tr_lpop bb u J bd hu (by omega)) rfl rfl) ?_
  rintro _ _ ⟨_, _, ⟨rfl, v1, H1, hs1, rfl⟩, rfl, rfl⟩
  refine Ops.app ?_
  refine Ops.pv (pv_extract rfl rfl) rfl ?_
  refine Ops.pv (pv_extract rfl rfl) rfl ?_
  refine Ops.pv (pv_assign rfl) rfl ?_
  refine Ops.pv (pv_assign rfl) rfl ?_
  refine Ops.nil ?_
  refine Ends.seq ?_
  refine Wp.ret ?_
  exact Ends.ret (L' := (nb, .cells [.int .u64 w, .pointer (some ⟨lb, 0, none⟩), .pointer (some ⟨bb, 0, none⟩)].toArray 102) :: (lb, .cells [v].toArray 87) :: (bb, .cells [v1].toArray 87) :: (K ++ H1)) (res2 rfl rfl rfl) ⟨rfl, ⟨lb, bb, _, _, _, _, hs, hs1, rfl⟩⟩

theorem tr_ntState (nb : Nat) (H : Hp) (S : Nt) (hH : NtH S nb H) (hl : S.l.length ≤ 2 ^ 20) (hb : S.b.length ≤ 1) : Tr Try.prog 52 [.pointer (some ⟨nb, 0, none⟩)] (H) (fun u L' => ∃ v' H', u = .tuple #[.int .u64 S.w, v'] ∧ Slc 3 1 v' S.l.length (intsC S.l) H' ∧ L' = H' ++ H) := by
  obtain ⟨w, l, bd⟩ := S
  obtain ⟨lb, bb, v, u, K, J, hs, hu, rfl⟩ := hH
  dsimp only at hs hu hl hb ⊢
  refine Tr.enter Try.func52 rfl Try.ntmps52 rfl (fun W F => ?_)
  refine Wp.app ?_
  refine Wp.seq ?_
  refine Wp.region ?_
  refine Ops.pv (pv_assign rfl) rfl ?_
  refine Ops.pv (pv_assign rfl) rfl ?_
  refine Ops.nil ?_
  refine Ends.seq ?_
  refine Wp.seq ?_
  refine AnyH.start [(nb, .cells [.int .u64 w, .pointer (some ⟨lb, 0, none⟩), .pointer (some ⟨bb, 0, none⟩)].toArray 102)] 11 rfl ?_
  refine AnyH.take 0 rfl (by kernel_rfl) (by kernel_rfl) (by kernel_rfl) PF.pf rfl (pv_move rfl) rfl ?_
  first | refine AnyH.take 1 rfl (by kernel_rfl) (by kernel_rfl) (by kernel_rfl) PF.pf rfl (pv_nilCheck rfl) rfl ?_ | refine AnyH.take 1 rfl (by kernel_rfl) (by kernel_rfl) (by kernel_rfl) PF.pf rfl (pv_nilCheck_func rfl rfl) rfl ?_
  first | refine AnyH.take 2 rfl (by kernel_rfl) (by kernel_rfl) (by kernel_rfl) PF.pf rfl (pv_fieldAddr0 rfl rfl) rfl ?_ | refine AnyH.take 2 rfl (by kernel_rfl) (by kernel_rfl) (by kernel_rfl) PF.pf rfl (pv_fieldAddr rfl rfl) rfl ?_
  first | refine AnyH.take 3 rfl (by kernel_rfl) (by kernel_rfl) (by kernel_rfl) PF.pf rfl (pv_load rfl rfl rfl) rfl ?_ | refine AnyH.take 3 rfl (by kernel_rfl) (by kernel_rfl) (by kernel_rfl) PF.pf rfl (pv_load rfl rfl (by assumption)) rfl ?_
  refine AnyH.take 4 rfl (by kernel_rfl) (by kernel_rfl) (by kernel_rfl) PF.pf rfl (pv_move rfl) rfl ?_
  first | refine AnyH.take 5 rfl (by kernel_rfl) (by kernel_rfl) (by kernel_rfl) PF.pf rfl (pv_nilCheck rfl) rfl ?_ | refine AnyH.take 5 rfl (by kernel_rfl) (by kernel_rfl) (by kernel_rfl) PF.pf rfl (pv_nilCheck_func rfl rfl) rfl ?_
  first | refine AnyH.take 6 rfl (by kernel_rfl) (by kernel_rfl) (by kernel_rfl) PF.pf rfl (pv_fieldAddr0 rfl rfl) rfl ?_ | refine AnyH.take 6 rfl (by kernel_rfl) (by kernel_rfl) (by kernel_rfl) PF.pf rfl (pv_fieldAddr rfl rfl) rfl ?_
  first | refine AnyH.take 7 rfl (by kernel_rfl) (by kernel_rfl) (by kernel_rfl) PF.pf rfl (pv_load rfl rfl rfl) rfl ?_ | refine AnyH.take 7 rfl (by kernel_rfl) (by kernel_rfl) (by kernel_rfl) PF.pf rfl (pv_load rfl rfl (by assumption)) rfl ?_
  refine AnyH.one 8 (by kernel_rfl) ?_
  refine Turn.ef rfl rfl (ef_call (tr_list lb v K l hs (by omega)) rfl rfl) ?_ ?_
  · rintro _ _ ⟨_, _, ⟨C1, hc1, rfl⟩, rfl, rfl⟩; infer_instance
  rintro _ _ ⟨_, _, ⟨C1, hc1, rfl⟩, rfl, rfl⟩
  refine AnyH.app ?_
  skip
  refine AnyH.take 9 rfl (by kernel_rfl) (by kernel_rfl) (by kernel_rfl) PF.pf rfl (pv_assign rfl) rfl ?_
  refine AnyH.take 10 rfl (by kernel_rfl) (by kernel_rfl) (by kernel_rfl) PF.pf rfl (pv_assign rfl) rfl ?_
  refine AnyH.done (by kernel_rfl) ?_
  refine Ends.seq ?_
  refine Wp.ret ?_
  exact Ends.ret (L' := C1 ++ ((nb, .cells [.int .u64 w, .pointer (some ⟨lb, 0, none⟩), .pointer (some ⟨bb, 0, none⟩)].toArray 102) :: (lb, .cells [v].toArray 87) :: (bb, .cells [u].toArray 87) :: (K ++ J))) (res2 rfl rfl rfl) ⟨_, C1, rfl, hc1, rfl⟩

theorem tr_dnat (qb : Nat) (w : Int) (v : Value) (K : Hp) (l : List Int) (id0 : Int) (has : Bool) (hs : Slc 3 1 v l.length (intsC l) K) (hl : l.length ≤ 2 ^ 20) (x : Int) : TrR Try.prog 75 [.pointer (some ⟨qb, 0, none⟩), .int .i64 x] ((qb, .cells [.int .u64 w, v, .int .i64 id0, .bool has].toArray 82) :: K) (.int .i64 (idxM l x)) := by
  obtain ⟨a, c, rfl⟩ := hs.form
  have hv := hs.view
  refine Tr.enter Try.func75 rfl Try.ntmps75 rfl (fun W F => ?_)
  refine Wp.app ?_
  refine Wp.seq ?_
  refine Wp.region ?_
  refine Ops.pv (pv_assign rfl) rfl ?_
  refine Ops.nil ?_
  refine Ends.seq ?_
  refine Wp.seq ?_
  refine Wp.seq ?_
  refine Wp.region ?_
  refine Ops.pv (pv_assign rfl) rfl ?_
  refine Ops.nil ?_
  refine Ends.seq ?_
  refine Wp.block ?_
  refine Wp.loopK (σ := Nat) [(0, _), (1, _)] (fun s => [(5, .int .i64 s)]) (fun s => (qb, .cells [.int .u64 w, .slice a l.length c, .int .i64 id0, .bool has].toArray 82) :: (K ++ F)) (fun s => s ≤ l.length ∧ ∀ j, j < s → l[j]? ≠ some x) (fun s => l.length - s) 0 ⟨Nat.zero_le _, fun j hj => absurd hj (Nat.not_lt_zero j)⟩ ⟨rfl, rfl, trivial⟩ ⟨rfl, trivial⟩ (by intro w ho; (try dsimp only [List.nil_append, List.cons_append]); exact Drop.own ho) ?_
  rintro i KK ⟨hi, hn⟩ hK
  dsimp only [List.cons_append, List.nil_append] at hK ⊢
  refine Wp.seq ?_
  refine Wp.seq ?_
  refine Wp.region ?_
  refine Ops.pv (pv_move rfl) rfl ?_
  refine Ops.pv (pv_move rfl) rfl ?_
  first | refine Ops.pv (pv_nilCheck rfl) rfl ?_ | refine Ops.pv (pv_nilCheck_func rfl rfl) rfl ?_
  first | refine Ops.pv (pv_fieldAddr0 rfl rfl) rfl ?_ | refine Ops.pv (pv_fieldAddr rfl rfl) rfl ?_
  first | refine Ops.pv (pv_load rfl rfl rfl) rfl ?_ | refine Ops.pv (pv_load rfl rfl (by assumption)) rfl ?_
  refine Ops.pv (pv_len_slice (T := 26) rfl rfl) rfl ?_
  refine Ops.pv (pv_lss rfl rfl) rfl ?_
  refine Ops.nil ?_
  refine Ends.seq ?_
  first | refine Wp.cond_dect rfl (fun h1 => ?_) (fun h1 => ?_) | refine Wp.cond_t rfl (fun h1 => ?_) (fun h1 => ?_)
  · obtain ⟨b, o, cap, cc, T, f, hv1, hbv, hr⟩ := hv.open (by omega)
    cases hv1
    obtain ⟨y, hy⟩ : ∃ y, l[i]? = some y := ⟨_, List.getElem?_eq_getElem (by omega)⟩
    have hny := ints_nth hr hy
    refine Wp.skip ?_
    refine Ends.seq ?_
    refine Wp.seq ?_
    refine Wp.block ?_
    refine Wp.seq ?_
    refine Wp.region ?_
    refine Ops.pv (pv_move rfl) rfl ?_
    first | refine Ops.pv (pv_nilCheck rfl) rfl ?_ | refine Ops.pv (pv_nilCheck_func rfl rfl) rfl ?_
    first | refine Ops.pv (pv_fieldAddr0 rfl rfl) rfl ?_ | refine Ops.pv (pv_fieldAddr rfl rfl) rfl ?_
    first | refine Ops.pv (pv_load rfl rfl rfl) rfl ?_ | refine Ops.pv (pv_load rfl rfl (by assumption)) rfl ?_
    refine Ops.pv (pv_move rfl) rfl ?_
    refine Ops.pv (pv_indexAddr rfl rfl rfl (by omega)) rfl ?_
    first | refine Ops.pv (pv_load rfl rfl rfl) rfl ?_ | refine Ops.pv (pv_load rfl rfl (by assumption)) rfl ?_
    refine Ops.pv (pv_move rfl) rfl ?_
    refine Ops.pv (pv_eql rfl rfl) rfl ?_
    refine Ops.nil ?_
    refine Ends.seq ?_
    first | refine Wp.cond_dect rfl (fun h2 => ?_) (fun h2 => ?_) | refine Wp.cond_t rfl (fun h2 => ?_) (fun h2 => ?_)
    · refine Wp.seq ?_
      refine Wp.region ?_
      refine Ops.pv (pv_move rfl) rfl ?_
      refine Ops.pv (pv_assign rfl) rfl ?_
      refine Ops.nil ?_
      refine Ends.seq ?_
      refine Wp.ret ?_
      refine Ends.block_ret ?_
      refine Ends.then_ret ?_
      refine Ends.then_ret ?_
      refine Ends.block_ret ?_
      refine Ends.then_ret ?_
      exact Ends.ret (res1 rfl rfl) ⟨by rw [idx_hit (i := i) (by rw [hy]; congr 1) hn], rfl⟩
    · refine Wp.skip ?_
      refine Ends.block_normal ?_
      refine Ends.seq ?_
      refine Wp.region ?_
      refine Ops.pv (pv_move rfl) rfl ?_
      first | refine Ops.pv (pv_add rfl rfl (w64 (by omega) (by omega))) rfl ?_ | refine Ops.pv (pv_add rfl rfl rfl) rfl ?_
      refine Ops.pv (pv_assign rfl) rfl ?_
      refine Ops.nil ?_
      refine Ends.goes ?_
      refine Goes.back (hK (i + 1) ⟨by omega, fun j hj => ?_⟩ (by omega)) ⟨rfl, rfl, rfl, trivial⟩
      rcases Nat.lt_succ_iff_lt_or_eq.1 hj with hj | rfl
      · exact hn j hj
      · rw [hy]; intro e; cases e; omega
  · refine Wp.exit ?_
    refine Ends.then_exit ?_
    refine Ends.then_exit ?_
    refine Ends.block_hit ?_
    refine Ends.seq ?_
    refine Wp.seq ?_
    refine Wp.region ?_
    refine Ops.pv (pv_assign rfl) rfl ?_
    refine Ops.nil ?_
    refine Ends.seq ?_
    refine Wp.ret ?_
    exact Ends.ret (res1 rfl rfl) ⟨by rw [idx_miss (fun j hj => hn j (by omega))], rfl⟩

theorem tr_dnSignal (qb : Nat) (w : Int) (v : Value) (K : Hp) (l : List Int) (id0 : Int) (has : Bool) (hs : Slc 3 1 v l.length (intsC l) K) (hl : l.length ≤ 2 ^ 20) (x : Int) (bound : Bool) : Tr Try.prog 55 [.pointer (some ⟨qb, 0, none⟩), .int .u64 x, .bool bound] ((qb, .cells [.int .u64 w, v, .int .i64 id0, .bool has].toArray 82) :: K) (fun u L' => u = .tuple #[.int .i64 (sgV (⟨w, l, bdOf id0 has⟩ : Nt) bound), .int .u64 (sgW (⟨w, l, bdOf id0 has⟩ : Nt) x bound), .bool (sgB (⟨w, l, bdOf id0 has⟩ : Nt) bound)] ∧ ∃ v' K', Slc 3 1 v' (sgS (⟨w, l, bdOf id0 has⟩ : Nt) x bound).l.length (intsC (sgS (⟨w, l, bdOf id0 has⟩ : Nt) x bound).l) K' ∧ L' = (qb, .cells [.int .u64 (sgS (⟨w, l, bdOf id0 has⟩ : Nt) x bound).w, v', .int .i64 id0, .bool has].toArray 82) :: K') := by
  obtain ⟨a, c, rfl⟩ := hs.form
  have hv := hs.view
  refine Tr.enter Try.func55 rfl Try.ntmps55 rfl (fun W F => ?_)
  refine Wp.app ?_
  refine Wp.seq ?_
  refine Wp.region ?_
  refine Ops.pv (pv_assign rfl) rfl ?_
  refine Ops.pv (pv_assign rfl) rfl ?_
  refine Ops.pv (pv_assign rfl) rfl ?_
  refine Ops.nil ?_
  refine Ends.seq ?_
  refine Wp.seq ?_
  refine Wp.seq ?_
  refine Wp.region ?_
  refine Ops.pv (pv_move rfl) rfl ?_
  first | refine Ops.pv (pv_nilCheck rfl) rfl ?_ | refine Ops.pv (pv_nilCheck_func rfl rfl) rfl ?_
  first | refine Ops.pv (pv_fieldAddr0 rfl rfl) rfl ?_ | refine Ops.pv (pv_fieldAddr rfl rfl) rfl ?_
  first | refine Ops.pv (pv_load rfl rfl rfl) rfl ?_ | refine Ops.pv (pv_load rfl rfl (by assumption)) rfl ?_
  refine Ops.pv (pv_len_slice (T := 26) rfl rfl) rfl ?_
  refine Ops.pv (pv_gtr rfl rfl) rfl ?_
  refine Ops.nil ?_
  refine Ends.seq ?_
  first | refine Wp.cond_dect rfl (fun h1 => ?_) (fun h1 => ?_) | refine Wp.cond_t rfl (fun h1 => ?_) (fun h1 => ?_)
  · refine Wp.seq ?_
    refine Wp.region ?_
    obtain ⟨y, t, rfl⟩ : ∃ y t, l = y :: t := by cases l with | nil => simp_all | cons y t => exact ⟨y, t, rfl⟩
    obtain ⟨b, o, cap, cc, T, f, hv1, hbv, hr⟩ := hv.open (by simp)
    cases hv1
    have hny := ints_nth (i := 0) hr rfl
    refine Ops.pv (pv_move rfl) rfl ?_
    first | refine Ops.pv (pv_nilCheck rfl) rfl ?_ | refine Ops.pv (pv_nilCheck_func rfl rfl) rfl ?_
    first | refine Ops.pv (pv_fieldAddr0 rfl rfl) rfl ?_ | refine Ops.pv (pv_fieldAddr rfl rfl) rfl ?_
    first | refine Ops.pv (pv_load rfl rfl rfl) rfl ?_ | refine Ops.pv (pv_load rfl rfl (by assumption)) rfl ?_
    refine Ops.pv (pv_indexAddr (i := 0) rfl rfl rfl (by first | omega | (simp; done) | (simp; omega))) rfl ?_
    refine Ops.pv (pv_load rfl rfl hny) rfl ?_
    refine Ops.pv (pv_assign rfl) rfl ?_
    refine Ops.nil ?_
    refine Ends.seq ?_
    refine Wp.seq ?_
    refine Wp.region ?_
    refine Ops.pv (pv_move rfl) rfl ?_
    refine Ops.ef rfl (ef_buildSlice0 rfl) ?_
    rintro _ _ ⟨b1, rfl, rfl⟩
    refine Ops.pv (pv_move rfl) rfl ?_
    first | refine Ops.pv (pv_nilCheck rfl) rfl ?_ | refine Ops.pv (pv_nilCheck_func rfl rfl) rfl ?_
    first | refine Ops.pv (pv_fieldAddr0 rfl rfl) rfl ?_ | refine Ops.pv (pv_fieldAddr rfl rfl) rfl ?_
    first | refine Ops.pv (pv_load rfl rfl rfl) rfl ?_ | refine Ops.pv (pv_load rfl rfl (by assumption)) rfl ?_
    refine Ops.pv (pv_sliceL (i := 1) (j := t.length + 1) (r := (((y :: t).drop 1).take (t.length + 1 - 1)).length) rfl ⟨_, rfl⟩ rfl (by omega) (by have := hv.2; obtain ⟨_, _, e, h, _⟩ := this; cases e; exact h) (part_len (l := y :: t) (by omega) (by simp)).symm) rfl ?_
    refine Ops.ef rfl (ef_appendV (H := [(b1, .cells ([] : List Value).toArray 3)]) rfl (slc_empty 3 b1) rfl ((view_part hv (i := 1) (j := t.length + 1) (by omega) (by simp)).mono (by intro p hp; simp [hp])) (intsC_one _) (by simp only [List.length_take, List.length_drop, List.length_cons] at hl ⊢; omega) (by simp only [List.length_take, List.length_drop, List.length_cons] at hl ⊢; omega) rfl rfl) ?_
    rintro _ _ ⟨v1, H1, hs1, rfl, rfl⟩
    refine Ops.app ?_
    have ho1 := hs1.one
    have ho2 := hs1.cells1
    first | refine Ops.pv (pv_nilCheck rfl) rfl ?_ | refine Ops.pv (pv_nilCheck_func rfl rfl) rfl ?_
    first | refine Ops.pv (pv_fieldAddr0 rfl rfl) rfl ?_ | refine Ops.pv (pv_fieldAddr rfl rfl) rfl ?_
    refine Ops.ef rfl (ef_store1 rfl rfl (by first | rfl | assumption) (by first | rfl | assumption)) ?_
    rintro _ _ ⟨rfl, rfl⟩
    refine Ops.nil ?_
    refine Ends.seq ?_
    refine Wp.seq ?_
    refine Wp.region ?_
    refine Ops.pv (pv_move rfl) rfl ?_
    refine Ops.pv (pv_move rfl) rfl ?_
    refine Ops.pv (pv_assign rfl) rfl ?_
    refine Ops.pv (pv_assign rfl) rfl ?_
    refine Ops.pv (pv_assign rfl) rfl ?_
    refine Ops.nil ?_
    refine Ends.seq ?_
    refine Wp.ret ?_
    refine Ends.then_ret ?_
    rw [Nat.zero_add, List.nil_append] at hs1
    have et : ((y :: t).drop 1).take (t.length + 1 - 1) = t := by simp
    rw [et] at hs1
    obtain ⟨m1, m2, m3, m4⟩ := sg_wait (S := (⟨w, y :: t, bdOf id0 has⟩ : Nt)) x bound (by simp)
    exact Ends.ret (L' := (qb, .cells [.int .u64 w, v1, .int .i64 id0, .bool has].toArray 82) :: H1) (res3 rfl rfl rfl rfl) ⟨by rw [m1, m2, m3]; rfl, _, _, by rw [m4]; exact hs1, by rw [m4]⟩
  · have hz : l = [] := List.eq_nil_of_length_eq_zero (by omega)
    refine Wp.skip ?_
    refine Ends.seq ?_
    refine Wp.seq ?_
    refine Wp.region ?_
    refine Ops.pv (pv_move rfl) rfl ?_
    first | refine Ops.pv (pv_nilCheck rfl) rfl ?_ | refine Ops.pv (pv_nilCheck_func rfl rfl) rfl ?_
    first | refine Ops.pv (pv_fieldAddr0 rfl rfl) rfl ?_ | refine Ops.pv (pv_fieldAddr rfl rfl) rfl ?_
    first | refine Ops.pv (pv_load rfl rfl rfl) rfl ?_ | refine Ops.pv (pv_load rfl rfl (by assumption)) rfl ?_
    refine Ops.pv (pv_move rfl) rfl ?_
    refine Ops.pv (pv_or rfl rfl rfl) rfl ?_
    refine Ops.pv (pv_assign rfl) rfl ?_
    refine Ops.nil ?_
    refine Ends.seq ?_
    refine Wp.seq ?_
    refine Wp.seq ?_
    refine Wp.region ?_
    refine Ops.pv (pv_move rfl) rfl ?_
    refine Ops.pv (pv_move rfl) rfl ?_
    first | refine Ops.split (t := 42) rfl (fun h2 => ?_) (fun h2 => ?_) | refine Ops.splitb (t := 42) rfl (fun h2 => ?_) (fun h2 => ?_)
    · refine Ops.pvg ⟨_, _, rfl, rfl, rfl⟩ (pv_move rfl) rfl ?_
      first | refine Ops.pvg ⟨_, _, rfl, rfl, rfl⟩ (pv_nilCheck rfl) rfl ?_ | refine Ops.pvg ⟨_, _, rfl, rfl, rfl⟩ (pv_nilCheck_func rfl rfl) rfl ?_
      first | refine Ops.pvg ⟨_, _, rfl, rfl, rfl⟩ (pv_fieldAddr0 rfl rfl) rfl ?_ | refine Ops.pvg ⟨_, _, rfl, rfl, rfl⟩ (pv_fieldAddr rfl rfl) rfl ?_
      first | refine Ops.pvg ⟨_, _, rfl, rfl, rfl⟩ (pv_load rfl rfl rfl) rfl ?_ | refine Ops.pvg ⟨_, _, rfl, rfl, rfl⟩ (pv_load rfl rfl (by assumption)) rfl ?_
      refine Ops.pv (pv_pick_true rfl rfl) rfl ?_
      refine Ops.nil ?_
      refine Ends.seq ?_
      first | refine Wp.cond_dect rfl (fun h3 => ?_) (fun h3 => ?_) | refine Wp.cond_t rfl (fun h3 => ?_) (fun h3 => ?_)
      · refine Wp.seq ?_
        refine Wp.region ?_
        refine Ops.pv (pv_move rfl) rfl ?_
        first | refine Ops.pv (pv_nilCheck rfl) rfl ?_ | refine Ops.pv (pv_nilCheck_func rfl rfl) rfl ?_
        first | refine Ops.pv (pv_fieldAddr0 rfl rfl) rfl ?_ | refine Ops.pv (pv_fieldAddr rfl rfl) rfl ?_
        refine Ops.ef rfl (ef_store1 rfl rfl (by first | rfl | assumption) (by first | rfl | assumption)) ?_
        rintro _ _ ⟨rfl, rfl⟩
        refine Ops.nil ?_
        refine Ends.seq ?_
        refine Wp.seq ?_
        refine Wp.region ?_
        refine Ops.pv (pv_move rfl) rfl ?_
        first | refine Ops.pv (pv_nilCheck rfl) rfl ?_ | refine Ops.pv (pv_nilCheck_func rfl rfl) rfl ?_
        first | refine Ops.pv (pv_fieldAddr0 rfl rfl) rfl ?_ | refine Ops.pv (pv_fieldAddr rfl rfl) rfl ?_
        first | refine Ops.pv (pv_load rfl rfl rfl) rfl ?_ | refine Ops.pv (pv_load rfl rfl (by assumption)) rfl ?_
        refine Ops.pv (pv_move rfl) rfl ?_
        refine Ops.pv (pv_assign rfl) rfl ?_
        refine Ops.pv (pv_assign rfl) rfl ?_
        refine Ops.pv (pv_assign rfl) rfl ?_
        refine Ops.nil ?_
        refine Ends.seq ?_
        refine Wp.ret ?_
        refine Ends.then_ret ?_
        subst hz
        have e1 : bound = true := by simp_all
        have e2 : has = true := by assumption
        subst e1 e2
        obtain ⟨m1, m2, m3, m4⟩ := sg_bound (S := (⟨w, [], bdOf id0 true⟩ : Nt)) x (bound := true) rfl ⟨rfl, by simp [bdOf]⟩
        exact Ends.ret (L' := (qb, .cells [.int .u64 0, .slice a 0 c, .int .i64 id0, .bool true].toArray 82) :: K) (res3 rfl rfl rfl rfl) ⟨by rw [m1, m2, m3]; rfl, _, _, by rw [m4]; exact hs, by rw [m4]; rfl⟩
      · refine Wp.skip ?_
        refine Ends.seq ?_
        refine Wp.seq ?_
        refine Wp.region ?_
        refine Ops.pv (pv_move rfl) rfl ?_
        refine Ops.pv (pv_move rfl) rfl ?_
        first | refine Ops.pv (pv_nilCheck rfl) rfl ?_ | refine Ops.pv (pv_nilCheck_func rfl rfl) rfl ?_
        first | refine Ops.pv (pv_fieldAddr0 rfl rfl) rfl ?_ | refine Ops.pv (pv_fieldAddr rfl rfl) rfl ?_
        refine Ops.ef rfl (ef_store1 rfl rfl (by first | rfl | assumption) (by first | rfl | assumption)) ?_
        rintro _ _ ⟨rfl, rfl⟩
        refine Ops.nil ?_
        refine Ends.seq ?_
        refine Wp.seq ?_
        refine Wp.region ?_
        refine Ops.pv (pv_assign rfl) rfl ?_
        refine Ops.pv (pv_assign rfl) rfl ?_
        refine Ops.pv (pv_assign rfl) rfl ?_
        refine Ops.nil ?_
        refine Ends.seq ?_
        refine Wp.ret ?_
        subst hz
        obtain ⟨m1, m2, m3, m4⟩ := sg_none (S := (⟨w, [], bdOf id0 has⟩ : Nt)) x (bound := bound) rfl (by rintro ⟨e1, e2⟩; simp_all [bdOf])
        exact Ends.ret (L' := (qb, .cells [.int .u64 (orI w x), .slice a 0 c, .int .i64 id0, .bool has].toArray 82) :: K) (res3 rfl rfl rfl rfl) ⟨by rw [m1, m2, m3], _, _, by rw [m4]; exact hs, by rw [m4]; rfl⟩
    · refine Ops.skipg ⟨_, _, rfl, rfl, rfl⟩ rfl ?_
      refine Ops.skipg ⟨_, _, rfl, rfl, rfl⟩ rfl ?_
      refine Ops.skipg ⟨_, _, rfl, rfl, rfl⟩ rfl ?_
      refine Ops.skipg ⟨_, _, rfl, rfl, rfl⟩ rfl ?_
      refine Ops.pv (pv_pick_false rfl rfl) rfl ?_
      refine Ops.nil ?_
      refine Ends.seq ?_
      refine Wp.cond_false rfl ?_
      refine Wp.skip ?_
      refine Ends.seq ?_
      refine Wp.seq ?_
      refine Wp.region ?_
      refine Ops.pv (pv_move rfl) rfl ?_
      refine Ops.pv (pv_move rfl) rfl ?_
      first | refine Ops.pv (pv_nilCheck rfl) rfl ?_ | refine Ops.pv (pv_nilCheck_func rfl rfl) rfl ?_
      first | refine Ops.pv (pv_fieldAddr0 rfl rfl) rfl ?_ | refine Ops.pv (pv_fieldAddr rfl rfl) rfl ?_
      refine Ops.ef rfl (ef_store1 rfl rfl (by first | rfl | assumption) (by first | rfl | assumption)) ?_
      rintro _ _ ⟨rfl, rfl⟩
      refine Ops.nil ?_
      refine Ends.seq ?_
      refine Wp.seq ?_
      refine Wp.region ?_
      refine Ops.pv (pv_assign rfl) rfl ?_
      refine Ops.pv (pv_assign rfl) rfl ?_
      refine Ops.pv (pv_assign rfl) rfl ?_
      refine Ops.nil ?_
      refine Ends.seq ?_
      refine Wp.ret ?_
      subst hz
      obtain ⟨m1, m2, m3, m4⟩ := sg_none (S := (⟨w, [], bdOf id0 has⟩ : Nt)) x (bound := bound) rfl (by rintro ⟨e1, e2⟩; simp_all [bdOf])
      exact Ends.ret (L' := (qb, .cells [.int .u64 (orI w x), .slice a 0 c, .int .i64 id0, .bool has].toArray 82) :: K) (res3 rfl rfl rfl rfl) ⟨by rw [m1, m2, m3], _, _, by rw [m4]; exact hs, by rw [m4]; rfl⟩

theorem tr_dnWait (qb : Nat) (w : Int) (v : Value) (K : Hp) (l : List Int) (id0 : Int) (has : Bool) (hs : Slc 3 1 v l.length (intsC l) K) (hl : l.length ≤ 2 ^ 20) (id : Int) (wait : Bool) : Tr Try.prog 56 [.pointer (some ⟨qb, 0, none⟩), .int .i64 id, .bool wait] ((qb, .cells [.int .u64 w, v, .int .i64 id0, .bool has].toArray 82) :: K) (fun u L' => u = .tuple #[.int .u64 (wtW (⟨w, l, bdOf id0 has⟩ : Nt) id), .bool (wtB (⟨w, l, bdOf id0 has⟩ : Nt) id), .int .i64 (wtE (⟨w, l, bdOf id0 has⟩ : Nt) id)] ∧ ∃ v' K', Slc 3 1 v' (wtS (⟨w, l, bdOf id0 has⟩ : Nt) id wait).l.length (intsC (wtS (⟨w, l, bdOf id0 has⟩ : Nt) id wait).l) K' ∧ L' = (qb, .cells [.int .u64 (wtS (⟨w, l, bdOf id0 has⟩ : Nt) id wait).w, v', .int .i64 id0, .bool has].toArray 82) :: K') := by
  obtain ⟨a, c, rfl⟩ := hs.form
  have hv := hs.view
  refine Tr.enter Try.func56 rfl Try.ntmps56 rfl (fun W F => ?_)
  refine Wp.app ?_
  refine Wp.seq ?_
  refine Wp.region ?_
  refine Ops.pv (pv_assign rfl) rfl ?_
  refine Ops.pv (pv_assign rfl) rfl ?_
  refine Ops.pv (pv_assign rfl) rfl ?_
  refine Ops.nil ?_
  refine Ends.seq ?_
  refine Wp.seq ?_
  refine Wp.block ?_
  refine Wp.seq ?_
  refine Wp.region ?_
  refine Ops.pv (pv_move rfl) rfl ?_
  refine Ops.pv (pv_lss rfl rfl) rfl ?_
  refine Ops.pv (pv_move rfl) rfl ?_
  refine Ops.pvcn rfl rfl (fun hg => pv_move rfl) rfl ?_
  refine Ops.pvcn rfl rfl (fun hg => Pv.setE (t := 14) rfl (cv_pos hg) (pv_gtr rfl rfl)) rfl ?_
  refine Ops.pv (pv_pick_or rfl rfl) rfl ?_
  refine Ops.pv (pv_assign rfl) rfl ?_
  refine Ops.nil ?_
  refine Ends.seq ?_
  first | refine Wp.cond_dect rfl (fun h1 => ?_) (fun h1 => ?_) | refine Wp.cond_t rfl (fun h1 => ?_) (fun h1 => ?_)
  · refine Wp.seq ?_
    refine Wp.region ?_
    refine Ops.pv (pv_assign rfl) rfl ?_
    refine Ops.pv (pv_assign rfl) rfl ?_
    refine Ops.pv (pv_assign rfl) rfl ?_
    refine Ops.nil ?_
    refine Ends.seq ?_
    refine Wp.ret ?_
    refine Ends.block_ret ?_
    refine Ends.then_ret ?_
    have he1 := (pushL_range (l := l) (x := id) (by simp [rightM]; omega)).1
    obtain ⟨m1, m2, m3⟩ := wt_err (S := (⟨w, l, bdOf id0 has⟩ : Nt)) (id := id) (wait := wait) (by dsimp only; omega)
    exact Ends.ret (L' := (qb, .cells [.int .u64 w, .slice a l.length c, .int .i64 id0, .bool has].toArray 82) :: K) (res3 rfl rfl rfl rfl) ⟨by rw [m1, m2, wtE, he1], _, _, by rw [m3]; exact hs, by rw [m3]⟩
  · refine Wp.seq ?_
    refine Wp.region ?_
    refine Ops.pv (pv_move rfl) rfl ?_
    refine Ops.pv (pv_move rfl) rfl ?_
    refine Ops.ef rfl (ef_callr (tr_dnat qb w _ K l id0 has hs hl id) rfl rfl) ?_
    rintro _ _ ⟨rfl, rfl⟩
    refine Ops.pv (pv_geq rfl rfl) rfl ?_
    refine Ops.pv (pv_assign rfl) rfl ?_
    refine Ops.nil ?_
    refine Ends.seq ?_
    first | refine Wp.cond_dect rfl (fun h2 => ?_) (fun h2 => ?_) | refine Wp.cond_t rfl (fun h2 => ?_) (fun h2 => ?_)
    · refine Wp.seq ?_
      refine Wp.region ?_
      refine Ops.pv (pv_assign rfl) rfl ?_
      refine Ops.pv (pv_assign rfl) rfl ?_
      refine Ops.pv (pv_assign rfl) rfl ?_
      refine Ops.nil ?_
      refine Ends.seq ?_
      refine Wp.ret ?_
      refine Ends.block_ret ?_
      refine Ends.then_ret ?_
      have he1 := (pushL_twice (l := l) (x := id) (by simp [rightM]; omega) (by omega)).1
      obtain ⟨m1, m2, m3⟩ := wt_err (S := (⟨w, l, bdOf id0 has⟩ : Nt)) (id := id) (wait := wait) (by dsimp only; omega)
      exact Ends.ret (L' := (qb, .cells [.int .u64 w, .slice a l.length c, .int .i64 id0, .bool has].toArray 82) :: K) (res3 rfl rfl rfl rfl) ⟨by rw [m1, m2, wtE, he1], _, _, by rw [m3]; exact hs, by rw [m3]⟩
    · refine Wp.seq ?_
      refine Wp.region ?_
      have hri : rightM id = true := by simp [rightM]; omega
      have hnm : id ∉ l := fun e => by have := (idx_mem _ _).2 e; omega
      have he := push_zero hri hnm
      refine Ops.pv (pv_move rfl) rfl ?_
      first | refine Ops.pv (pv_nilCheck rfl) rfl ?_ | refine Ops.pv (pv_nilCheck_func rfl rfl) rfl ?_
      first | refine Ops.pv (pv_fieldAddr0 rfl rfl) rfl ?_ | refine Ops.pv (pv_fieldAddr rfl rfl) rfl ?_
      first | refine Ops.pv (pv_load rfl rfl rfl) rfl ?_ | refine Ops.pv (pv_load rfl rfl (by assumption)) rfl ?_
      refine Ops.pv (pv_neq rfl rfl) rfl ?_
      refine Ops.pv (pv_assign rfl) rfl ?_
      refine Ops.nil ?_
      refine Ends.seq ?_
      first | refine Wp.cond_dect rfl (fun h3 => ?_) (fun h3 => ?_) | refine Wp.cond_t rfl (fun h3 => ?_) (fun h3 => ?_)
      · refine Wp.seq ?_
        refine Wp.region ?_
        refine Ops.pv (pv_move rfl) rfl ?_
        first | refine Ops.pv (pv_nilCheck rfl) rfl ?_ | refine Ops.pv (pv_nilCheck_func rfl rfl) rfl ?_
        first | refine Ops.pv (pv_fieldAddr0 rfl rfl) rfl ?_ | refine Ops.pv (pv_fieldAddr rfl rfl) rfl ?_
        first | refine Ops.pv (pv_load rfl rfl rfl) rfl ?_ | refine Ops.pv (pv_load rfl rfl (by assumption)) rfl ?_
        refine Ops.pv (pv_assign rfl) rfl ?_
        refine Ops.nil ?_
        refine Ends.seq ?_
        refine Wp.seq ?_
        refine Wp.region ?_
        refine Ops.pv (pv_move rfl) rfl ?_
        first | refine Ops.pv (pv_nilCheck rfl) rfl ?_ | refine Ops.pv (pv_nilCheck_func rfl rfl) rfl ?_
        first | refine Ops.pv (pv_fieldAddr0 rfl rfl) rfl ?_ | refine Ops.pv (pv_fieldAddr rfl rfl) rfl ?_
        refine Ops.ef rfl (ef_store1 rfl rfl (by first | rfl | assumption) (by first | rfl | assumption)) ?_
        rintro _ _ ⟨rfl, rfl⟩
        refine Ops.nil ?_
        refine Ends.seq ?_
        refine Wp.seq ?_
        refine Wp.region ?_
        refine Ops.pv (pv_move rfl) rfl ?_
        refine Ops.pv (pv_assign rfl) rfl ?_
        refine Ops.pv (pv_assign rfl) rfl ?_
        refine Ops.pv (pv_assign rfl) rfl ?_
        refine Ops.nil ?_
        refine Ends.seq ?_
        refine Wp.ret ?_
        refine Ends.block_ret ?_
        refine Ends.then_ret ?_
        obtain ⟨m1, m2, m3⟩ := wt_takes (S := (⟨w, l, bdOf id0 has⟩ : Nt)) (id := id) (wait := wait) he (by rintro ⟨e, _⟩; dsimp only at e; omega)
        exact Ends.ret (L' := (qb, .cells [.int .u64 0, .slice a l.length c, .int .i64 id0, .bool has].toArray 82) :: K) (res3 rfl rfl rfl rfl) ⟨by rw [m1, m2, wtE, he, decide_eq_true (by assumption)], _, _, by rw [m3]; exact hs, by rw [m3]⟩
      · refine Wp.skip ?_
        refine Ends.block_normal ?_
        refine Ends.seq ?_
        refine Wp.seq ?_
        refine Wp.seq ?_
        refine Wp.region ?_
        refine Ops.pv (pv_move rfl) rfl ?_
        refine Ops.nil ?_
        refine Ends.seq ?_
        first | refine Wp.cond_dect rfl (fun h4 => ?_) (fun h4 => ?_) | refine Wp.cond_t rfl (fun h4 => ?_) (fun h4 => ?_)
        · refine Wp.region ?_
          refine Ops.pv (pv_move rfl) rfl ?_
          refine Ops.pv (pv_move rfl) rfl ?_
          first | refine Ops.pv (pv_nilCheck rfl) rfl ?_ | refine Ops.pv (pv_nilCheck_func rfl rfl) rfl ?_
          first | refine Ops.pv (pv_fieldAddr0 rfl rfl) rfl ?_ | refine Ops.pv (pv_fieldAddr rfl rfl) rfl ?_
          first | refine Ops.pv (pv_load rfl rfl rfl) rfl ?_ | refine Ops.pv (pv_load rfl rfl (by assumption)) rfl ?_
          refine Ops.pv (pv_move rfl) rfl ?_
          refine Ops.ef rfl (ef_buildSlice1 (k := 1) rfl rfl rfl rfl rfl) ?_
          rintro _ _ ⟨b1, rfl, rfl⟩
          refine Ops.ef rfl (ef_append (H := K) (xs := [.int .i64 id]) rfl hs rfl ⟨rfl, trivial⟩ rfl rfl rfl (by omega) (by omega) rfl rfl) ?_
          rintro _ _ ⟨v1, H1, hs1, rfl, rfl⟩
          refine Ops.app ?_
          have ho1 := hs1.one
          have ho2 := hs1.cells1
          first | refine Ops.pv (pv_nilCheck rfl) rfl ?_ | refine Ops.pv (pv_nilCheck_func rfl rfl) rfl ?_
          first | refine Ops.pv (pv_fieldAddr0 rfl rfl) rfl ?_ | refine Ops.pv (pv_fieldAddr rfl rfl) rfl ?_
          refine Ops.ef rfl (ef_store1 rfl rfl (by first | rfl | assumption) (by first | rfl | assumption)) ?_
          rintro _ _ ⟨rfl, rfl⟩
          refine Ops.nil ?_
          refine Ends.seq ?_
          refine Wp.seq ?_
          refine Wp.region ?_
          refine Ops.pv (pv_assign rfl) rfl ?_
          refine Ops.pv (pv_assign rfl) rfl ?_
          refine Ops.pv (pv_assign rfl) rfl ?_
          refine Ops.nil ?_
          refine Ends.seq ?_
          refine Wp.ret ?_
          have hw0 : w = 0 := by omega
          obtain ⟨m1, m2, m3⟩ := wt_waits (S := (⟨w, l, bdOf id0 has⟩ : Nt)) (id := id) (wait := wait) he ⟨hw0, by assumption⟩
          exact Ends.ret (L' := (qb, .cells [.int .u64 w, v1, .int .i64 id0, .bool has].toArray 82) :: H1) (res3 rfl rfl rfl rfl) ⟨by rw [m1, m2, wtE, he], _, _, by rw [m3]; dsimp only; rw [List.length_append, intsC_app]; exact hs1, by rw [m3]⟩
        · refine Wp.skip ?_
          refine Ends.seq ?_
          refine Wp.seq ?_
          refine Wp.region ?_
          refine Ops.pv (pv_assign rfl) rfl ?_
          refine Ops.pv (pv_assign rfl) rfl ?_
          refine Ops.pv (pv_assign rfl) rfl ?_
          refine Ops.nil ?_
          refine Ends.seq ?_
          refine Wp.ret ?_
          have hw0 : w = 0 := by omega
          obtain ⟨m1, m2, m3⟩ := wt_takes (S := (⟨w, l, bdOf id0 has⟩ : Nt)) (id := id) (wait := wait) he (by rintro ⟨_, e⟩; simp_all)
          exact Ends.ret (L' := (qb, .cells [.int .u64 w, .slice a l.length c, .int .i64 id0, .bool has].toArray 82) :: K) (res3 rfl rfl rfl rfl) ⟨by rw [m1, m2, wtE, he]; dsimp only; rw [hw0]; rfl, _, _, by rw [m3]; exact hs, by rw [m3, hw0]⟩

theorem tr_dnCancel (qb : Nat) (w : Int) (v : Value) (K : Hp) (l : List Int) (id0 : Int) (has : Bool) (hs : Slc 3 1 v l.length (intsC l) K) (hl : l.length ≤ 2 ^ 20) (x : Int) : Tr Try.prog 58 [.pointer (some ⟨qb, 0, none⟩), .int .i64 x] ((qb, .cells [.int .u64 w, v, .int .i64 id0, .bool has].toArray 82) :: K) (fun u L' => u = .bool (remB l x) ∧ ∃ v' K', Slc 3 1 v' (remL l x).length (intsC (remL l x)) K' ∧ L' = (qb, .cells [.int .u64 w, v', .int .i64 id0, .bool has].toArray 82) :: K') := by
  obtain ⟨a, c, rfl⟩ := hs.form
  have hv := hs.view
  have hlc : l.length ≤ c := by obtain ⟨_, _, _, e, h, _⟩ := hv; cases e; exact h
  refine Tr.enter Try.func58 rfl Try.ntmps58 rfl (fun W F => ?_)
  refine Wp.app ?_
  refine Wp.seq ?_
  refine Wp.region ?_
  refine Ops.pv (pv_assign rfl) rfl ?_
  refine Ops.nil ?_
  refine Ends.seq ?_
  refine Wp.seq ?_
  refine Wp.region ?_
  refine Ops.pv (pv_move rfl) rfl ?_
  refine Ops.pv (pv_move rfl) rfl ?_
  refine Ops.ef rfl (ef_callr (tr_dnat qb w _ K l id0 has hs hl x) rfl rfl) ?_
  rintro _ _ ⟨rfl, rfl⟩
  refine Ops.pv (pv_assign rfl) rfl ?_
  refine Ops.nil ?_
  refine Ends.seq ?_
  refine Wp.seq ?_
  refine Wp.seq ?_
  refine Wp.region ?_
  refine Ops.pv (pv_move rfl) rfl ?_
  refine Ops.pv (pv_lss rfl rfl) rfl ?_
  refine Ops.nil ?_
  refine Ends.seq ?_
  first | refine Wp.cond_dect rfl (fun h1 => ?_) (fun h1 => ?_) | refine Wp.cond_t rfl (fun h1 => ?_) (fun h1 => ?_)
  · refine Wp.seq ?_
    refine Wp.region ?_
    refine Ops.pv (pv_assign rfl) rfl ?_
    refine Ops.nil ?_
    refine Ends.seq ?_
    refine Wp.ret ?_
    refine Ends.then_ret ?_
    exact Ends.ret (L' := (qb, .cells [.int .u64 w, .slice a l.length c, .int .i64 id0, .bool has].toArray 82) :: K) (res1 rfl rfl) ⟨by rw [show remB l x = false from decide_eq_false (by omega)], _, K, by rw [show remL l x = l from if_neg (by omega)]; exact hs, rfl⟩
  · obtain ⟨i, hi⟩ : ∃ i : Nat, idxM l x = i := ⟨(idxM l x).toNat, by omega⟩
    have hil : i < l.length := by have := idx_lt l x; omega
    rw [hi]
    have hA := view_part hv (i := 0) (j := i) (Nat.zero_le _) (by omega)
    have hB := view_part hv (i := i + 1) (j := l.length) (by omega) (Nat.le_refl _)
    have eA : (l.drop 0).take (i - 0) = l.take i := by simp
    have eB : (l.drop (i + 1)).take (l.length - (i + 1)) = l.drop (i + 1) := List.take_of_length_le (by simp)
    have lA := part_len (l := l) (i := 0) (j := i) (Nat.zero_le _) (by omega)
    have lB := part_len (l := l) (i := i + 1) (j := l.length) (by omega) (Nat.le_refl _)
    rw [eA] at hA lA
    rw [eB] at hB lB
    have hrem : remL l x = l.take i ++ l.drop (i + 1) := by unfold remL; rw [if_pos (by omega), hi, Int.toNat_natCast]
    have hrb : remB l x = true := decide_eq_true (by omega)
    refine Wp.skip ?_
    refine Ends.seq ?_
    refine Wp.seq ?_
    refine AnyH.start K 20 rfl ?_
    refine AnyH.take 0 rfl (by kernel_rfl) (by kernel_rfl) (by kernel_rfl) PF.pf rfl (pv_move rfl) rfl ?_
    refine AnyH.take 2 rfl (by kernel_rfl) (by kernel_rfl) (by kernel_rfl) PF.pf rfl (pv_move rfl) rfl ?_
    first | refine AnyH.take 3 rfl (by kernel_rfl) (by kernel_rfl) (by kernel_rfl) PF.pf rfl (pv_nilCheck rfl) rfl ?_ | refine AnyH.take 3 rfl (by kernel_rfl) (by kernel_rfl) (by kernel_rfl) PF.pf rfl (pv_nilCheck_func rfl rfl) rfl ?_
    first | refine AnyH.take 4 rfl (by kernel_rfl) (by kernel_rfl) (by kernel_rfl) PF.pf rfl (pv_fieldAddr0 rfl rfl) rfl ?_ | refine AnyH.take 4 rfl (by kernel_rfl) (by kernel_rfl) (by kernel_rfl) PF.pf rfl (pv_fieldAddr rfl rfl) rfl ?_
    refine AnyH.take 6 rfl (by kernel_rfl) (by kernel_rfl) (by kernel_rfl) PF.pf rfl (pv_move rfl) rfl ?_
    refine AnyH.take 9 rfl (by kernel_rfl) (by kernel_rfl) (by kernel_rfl) PF.pf rfl (pv_move rfl) rfl ?_
    first | refine AnyH.take 10 rfl (by kernel_rfl) (by kernel_rfl) (by kernel_rfl) PF.pf rfl (pv_nilCheck rfl) rfl ?_ | refine AnyH.take 10 rfl (by kernel_rfl) (by kernel_rfl) (by kernel_rfl) PF.pf rfl (pv_nilCheck_func rfl rfl) rfl ?_
    first | refine AnyH.take 11 rfl (by kernel_rfl) (by kernel_rfl) (by kernel_rfl) PF.pf rfl (pv_fieldAddr0 rfl rfl) rfl ?_ | refine AnyH.take 11 rfl (by kernel_rfl) (by kernel_rfl) (by kernel_rfl) PF.pf rfl (pv_fieldAddr rfl rfl) rfl ?_
    refine AnyH.take 13 rfl (by kernel_rfl) (by kernel_rfl) (by kernel_rfl) PF.pf rfl (pv_move rfl) rfl ?_
    refine AnyH.take 14 rfl (by kernel_rfl) (by kernel_rfl) (by kernel_rfl) PF.pf rfl (pv_add rfl rfl (w64n (k := i + 1) (by omega) (by omega))) rfl ?_
    refine AnyH.three 1 5 12 (by kernel_rfl) ?_ ?_ ?_
    · refine Turn.ef rfl rfl (ef_buildSlice0 rfl) ?_ ?_
      · rintro _ _ ⟨b1, rfl, rfl⟩; infer_instance
      rintro _ _ ⟨b1, rfl, rfl⟩
      refine AnyH.two 5 12 (by kernel_rfl) ?_ ?_
      · first | refine Turn.ef rfl rfl (ef_pv (pv_load rfl rfl rfl) rfl) ?_ ?_ | refine Turn.ef rfl rfl (ef_pv (pv_load rfl rfl (by assumption)) rfl) ?_ ?_
        · rintro _ _ ⟨rfl, rfl⟩; infer_instance
        rintro _ _ ⟨rfl, rfl⟩
        refine AnyH.take 7 rfl (by kernel_rfl) (by kernel_rfl) (by kernel_rfl) PF.pf rfl (pv_sliceL (i := 0) (j := i) rfl rfl ⟨_, rfl⟩ (Nat.zero_le _) (by omega) lA.symm) rfl ?_
        refine AnyH.two 8 12 (by kernel_rfl) ?_ ?_
        · refine Turn.ef rfl rfl (ef_appendV (H := [(b1, .cells ([] : List Value).toArray 3)]) rfl (slc_empty 3 b1) rfl (hA.mono (by intro p hp; simp [hp])) (intsC_one _) (by omega) (by omega) rfl rfl) ?_ ?_
          · rintro _ _ ⟨v1, H1, hs1, rfl, rfl⟩; infer_instance
          rintro _ _ ⟨v1, H1, hs1, rfl, rfl⟩
          refine AnyH.app ?_
          skip
          refine AnyH.one 12 (by kernel_rfl) ?_
          first | refine Turn.ef rfl rfl (ef_pv (pv_load rfl rfl rfl) rfl) ?_ ?_ | refine Turn.ef rfl rfl (ef_pv (pv_load rfl rfl (by assumption)) rfl) ?_ ?_
          · rintro _ _ ⟨rfl, rfl⟩; infer_instance
          rintro _ _ ⟨rfl, rfl⟩
          refine AnyH.take 15 rfl (by kernel_rfl) (by kernel_rfl) (by kernel_rfl) PF.pf rfl (pv_sliceL (i := i + 1) (j := l.length) rfl ⟨_, rfl⟩ rfl (by omega) hlc lB.symm) rfl ?_
          refine AnyH.one 16 (by kernel_rfl) ?_
          refine Turn.ef rfl rfl (ef_appendV (H := H1) rfl hs1 rfl (hB.mono (by intro p hp; simp [hp])) (intsC_one _) (by omega) (by omega) rfl rfl) ?_ ?_
          · rintro _ _ ⟨v2, H2, hs2, rfl, rfl⟩; infer_instance
          rintro _ _ ⟨v2, H2, hs2, rfl, rfl⟩
          refine AnyH.app ?_
          have ho1 := hs2.one
          have ho2 := hs2.cells1
          first | refine AnyH.take 17 rfl (by kernel_rfl) (by kernel_rfl) (by kernel_rfl) PF.pf rfl (pv_nilCheck rfl) rfl ?_ | refine AnyH.take 17 rfl (by kernel_rfl) (by kernel_rfl) (by kernel_rfl) PF.pf rfl (pv_nilCheck_func rfl rfl) rfl ?_
          first | refine AnyH.take 18 rfl (by kernel_rfl) (by kernel_rfl) (by kernel_rfl) PF.pf rfl (pv_fieldAddr0 rfl rfl) rfl ?_ | refine AnyH.take 18 rfl (by kernel_rfl) (by kernel_rfl) (by kernel_rfl) PF.pf rfl (pv_fieldAddr rfl rfl) rfl ?_
          refine AnyH.one 19 (by kernel_rfl) ?_
          refine Turn.ef rfl rfl (ef_store1 rfl rfl (by first | rfl | assumption) (by first | rfl | assumption)) ?_ ?_
          · rintro _ _ ⟨rfl, rfl⟩; infer_instance
          rintro _ _ ⟨rfl, rfl⟩
          refine AnyH.done (by kernel_rfl) ?_
          refine Ends.seq ?_
          refine Wp.seq ?_
          refine Wp.region ?_
          refine Ops.pv (pv_assign rfl) rfl ?_
          refine Ops.nil ?_
          refine Ends.seq ?_
          refine Wp.ret ?_
          rw [Nat.zero_add, List.nil_append, ← intsC_app, ← List.length_append, ← hrem] at hs2
          exact Ends.ret (L' := (qb, .cells [.int .u64 w, v2, .int .i64 id0, .bool has].toArray 82) :: H2) (res1 rfl rfl) ⟨by rw [hrb], v2, H2, hs2, rfl⟩
        · first | refine Turn.ef rfl rfl (ef_pv (pv_load rfl rfl rfl) rfl) ?_ ?_ | refine Turn.ef rfl rfl (ef_pv (pv_load rfl rfl (by assumption)) rfl) ?_ ?_
          · rintro _ _ ⟨rfl, rfl⟩; infer_instance
          rintro _ _ ⟨rfl, rfl⟩
          refine AnyH.take 15 rfl (by kernel_rfl) (by kernel_rfl) (by kernel_rfl) PF.pf rfl (pv_sliceL (i := i + 1) (j := l.length) rfl ⟨_, rfl⟩ rfl (by omega) hlc lB.symm) rfl ?_
          refine AnyH.one 8 (by kernel_rfl) ?_
          refine Turn.ef rfl rfl (ef_appendV (H := [(b1, .cells ([] : List Value).toArray 3)]) rfl (slc_empty 3 b1) rfl (hA.mono (by intro p hp; simp [hp])) (intsC_one _) (by omega) (by omega) rfl rfl) ?_ ?_
          · rintro _ _ ⟨v3, H3, hs3, rfl, rfl⟩; infer_instance
          rintro _ _ ⟨v3, H3, hs3, rfl, rfl⟩
          refine AnyH.app ?_
          skip
          refine AnyH.one 16 (by kernel_rfl) ?_
          refine Turn.ef rfl rfl (ef_appendV (H := H3) rfl hs3 rfl (hB.mono (by intro p hp; simp [hp])) (intsC_one _) (by omega) (by omega) rfl rfl) ?_ ?_
          · rintro _ _ ⟨v4, H4, hs4, rfl, rfl⟩; infer_instance
          rintro _ _ ⟨v4, H4, hs4, rfl, rfl⟩
          refine AnyH.app ?_
          have ho1 := hs4.one
          have ho2 := hs4.cells1
          first | refine AnyH.take 17 rfl (by kernel_rfl) (by kernel_rfl) (by kernel_rfl) PF.pf rfl (pv_nilCheck rfl) rfl ?_ | refine AnyH.take 17 rfl (by kernel_rfl) (by kernel_rfl) (by kernel_rfl) PF.pf rfl (pv_nilCheck_func rfl rfl) rfl ?_
          first | refine AnyH.take 18 rfl (by kernel_rfl) (by kernel_rfl) (by kernel_rfl) PF.pf rfl (pv_fieldAddr0 rfl rfl) rfl ?_ | refine AnyH.take 18 rfl (by kernel_rfl) (by kernel_rfl) (by kernel_rfl) PF.pf rfl (pv_fieldAddr rfl rfl) rfl ?_
          refine AnyH.one 19 (by kernel_rfl) ?_
          refine Turn.ef rfl rfl (ef_store1 rfl rfl (by first | rfl | assumption) (by first | rfl | assumption)) ?_ ?_
          · rintro _ _ ⟨rfl, rfl⟩; infer_instance
          rintro _ _ ⟨rfl, rfl⟩
          refine AnyH.done (by kernel_rfl) ?_
          refine Ends.seq ?_
          refine Wp.seq ?_
          refine Wp.region ?_
          refine Ops.pv (pv_assign rfl) rfl ?_
          refine Ops.nil ?_
          refine Ends.seq ?_
          refine Wp.ret ?_
          rw [Nat.zero_add, List.nil_append, ← intsC_app, ← List.length_append, ← hrem] at hs4
          exact Ends.ret (L' := (qb, .cells [.int .u64 w, v4, .int .i64 id0, .bool has].toArray 82) :: H4) (res1 rfl rfl) ⟨by rw [hrb], v4, H4, hs4, rfl⟩
      · first | refine Turn.ef rfl rfl (ef_pv (pv_load rfl rfl rfl) rfl) ?_ ?_ | refine Turn.ef rfl rfl (ef_pv (pv_load rfl rfl (by assumption)) rfl) ?_ ?_
        · rintro _ _ ⟨rfl, rfl⟩; infer_instance
        rintro _ _ ⟨rfl, rfl⟩
        refine AnyH.take 15 rfl (by kernel_rfl) (by kernel_rfl) (by kernel_rfl) PF.pf rfl (pv_sliceL (i := i + 1) (j := l.length) rfl ⟨_, rfl⟩ rfl (by omega) hlc lB.symm) rfl ?_
        refine AnyH.one 5 (by kernel_rfl) ?_
        first | refine Turn.ef rfl rfl (ef_pv (pv_load rfl rfl rfl) rfl) ?_ ?_ | refine Turn.ef rfl rfl (ef_pv (pv_load rfl rfl (by assumption)) rfl) ?_ ?_
        · rintro _ _ ⟨rfl, rfl⟩; infer_instance
        rintro _ _ ⟨rfl, rfl⟩
        refine AnyH.take 7 rfl (by kernel_rfl) (by kernel_rfl) (by kernel_rfl) PF.pf rfl (pv_sliceL (i := 0) (j := i) rfl rfl ⟨_, rfl⟩ (Nat.zero_le _) (by omega) lA.symm) rfl ?_
        refine AnyH.one 8 (by kernel_rfl) ?_
        refine Turn.ef rfl rfl (ef_appendV (H := [(b1, .cells ([] : List Value).toArray 3)]) rfl (slc_empty 3 b1) rfl (hA.mono (by intro p hp; simp [hp])) (intsC_one _) (by omega) (by omega) rfl rfl) ?_ ?_
        · rintro _ _ ⟨v5, H5, hs5, rfl, rfl⟩; infer_instance
        rintro _ _ ⟨v5, H5, hs5, rfl, rfl⟩
        refine AnyH.app ?_
        skip
        refine AnyH.one 16 (by kernel_rfl) ?_
        refine Turn.ef rfl rfl (ef_appendV (H := H5) rfl hs5 rfl (hB.mono (by intro p hp; simp [hp])) (intsC_one _) (by omega) (by omega) rfl rfl) ?_ ?_
        · rintro _ _ ⟨v6, H6, hs6, rfl, rfl⟩; infer_instance
        rintro _ _ ⟨v6, H6, hs6, rfl, rfl⟩
        refine AnyH.app ?_
        have ho1 := hs6.one
        have ho2 := hs6.cells1
        first | refine AnyH.take 17 rfl (by kernel_rfl) (by kernel_rfl) (by kernel_rfl) PF.pf rfl (pv_nilCheck rfl) rfl ?_ | refine AnyH.take 17 rfl (by kernel_rfl) (by kernel_rfl) (by kernel_rfl) PF.pf rfl (pv_nilCheck_func rfl rfl) rfl ?_
        first | refine AnyH.take 18 rfl (by kernel_rfl) (by kernel_rfl) (by kernel_rfl) PF.pf rfl (pv_fieldAddr0 rfl rfl) rfl ?_ | refine AnyH.take 18 rfl (by kernel_rfl) (by kernel_rfl) (by kernel_rfl) PF.pf rfl (pv_fieldAddr rfl rfl) rfl ?_
        refine AnyH.one 19 (by kernel_rfl) ?_
        refine Turn.ef rfl rfl (ef_store1 rfl rfl (by first | rfl | assumption) (by first | rfl | assumption)) ?_ ?_
        · rintro _ _ ⟨rfl, rfl⟩; infer_instance
        rintro _ _ ⟨rfl, rfl⟩
        refine AnyH.done (by kernel_rfl) ?_
        refine Ends.seq ?_
        refine Wp.seq ?_
        refine Wp.region ?_
        refine Ops.pv (pv_assign rfl) rfl ?_
        refine Ops.nil ?_
        refine Ends.seq ?_
        refine Wp.ret ?_
        rw [Nat.zero_add, List.nil_append, ← intsC_app, ← List.length_append, ← hrem] at hs6
        exact Ends.ret (L' := (qb, .cells [.int .u64 w, v6, .int .i64 id0, .bool has].toArray 82) :: H6) (res1 rfl rfl) ⟨by rw [hrb], v6, H6, hs6, rfl⟩
    · first | refine Turn.ef rfl rfl (ef_pv (pv_load rfl rfl rfl) rfl) ?_ ?_ | refine Turn.ef rfl rfl (ef_pv (pv_load rfl rfl (by assumption)) rfl) ?_ ?_
      · rintro _ _ ⟨rfl, rfl⟩; infer_instance
      rintro _ _ ⟨rfl, rfl⟩
      refine AnyH.take 7 rfl (by kernel_rfl) (by kernel_rfl) (by kernel_rfl) PF.pf rfl (pv_sliceL (i := 0) (j := i) rfl rfl ⟨_, rfl⟩ (Nat.zero_le _) (by omega) lA.symm) rfl ?_
      refine AnyH.two 1 12 (by kernel_rfl) ?_ ?_
      · refine Turn.ef rfl rfl (ef_buildSlice0 rfl) ?_ ?_
        · rintro _ _ ⟨b2, rfl, rfl⟩; infer_instance
        rintro _ _ ⟨b2, rfl, rfl⟩
        refine AnyH.two 8 12 (by kernel_rfl) ?_ ?_
        · refine Turn.ef rfl rfl (ef_appendV (H := [(b2, .cells ([] : List Value).toArray 3)]) rfl (slc_empty 3 b2) rfl (hA.mono (by intro p hp; simp [hp])) (intsC_one _) (by omega) (by omega) rfl rfl) ?_ ?_
          · rintro _ _ ⟨v7, H7, hs7, rfl, rfl⟩; infer_instance
          rintro _ _ ⟨v7, H7, hs7, rfl, rfl⟩
          refine AnyH.app ?_
          skip
          refine AnyH.one 12 (by kernel_rfl) ?_
          first | refine Turn.ef rfl rfl (ef_pv (pv_load rfl rfl rfl) rfl) ?_ ?_ | refine Turn.ef rfl rfl (ef_pv (pv_load rfl rfl (by assumption)) rfl) ?_ ?_
          · rintro _ _ ⟨rfl, rfl⟩; infer_instance
          rintro _ _ ⟨rfl, rfl⟩
          refine AnyH.take 15 rfl (by kernel_rfl) (by kernel_rfl) (by kernel_rfl) PF.pf rfl (pv_sliceL (i := i + 1) (j := l.length) rfl ⟨_, rfl⟩ rfl (by omega) hlc lB.symm) rfl ?_
          refine AnyH.one 16 (by kernel_rfl) ?_
          refine Turn.ef rfl rfl (ef_appendV (H := H7) rfl hs7 rfl (hB.mono (by intro p hp; simp [hp])) (intsC_one _) (by omega) (by omega) rfl rfl) ?_ ?_
          · rintro _ _ ⟨v8, H8, hs8, rfl, rfl⟩; infer_instance
          rintro _ _ ⟨v8, H8, hs8, rfl, rfl⟩
          refine AnyH.app ?_
          have ho1 := hs8.one
          have ho2 := hs8.cells1
          first | refine AnyH.take 17 rfl (by kernel_rfl) (by kernel_rfl) (by kernel_rfl) PF.pf rfl (pv_nilCheck rfl) rfl ?_ | refine AnyH.take 17 rfl (by kernel_rfl) (by kernel_rfl) (by kernel_rfl) PF.pf rfl (pv_nilCheck_func rfl rfl) rfl ?_
          first | refine AnyH.take 18 rfl (by kernel_rfl) (by kernel_rfl) (by kernel_rfl) PF.pf rfl (pv_fieldAddr0 rfl rfl) rfl ?_ | refine AnyH.take 18 rfl (by kernel_rfl) (by kernel_rfl) (by kernel_rfl) PF.pf rfl (pv_fieldAddr rfl rfl) rfl ?_
          refine AnyH.one 19 (by kernel_rfl) ?_
          refine Turn.ef rfl rfl (ef_store1 rfl rfl (by first | rfl | assumption) (by first | rfl | assumption)) ?_ ?_
          · rintro _ _ ⟨rfl, rfl⟩; infer_instance
          rintro _ _ ⟨rfl, rfl⟩
          refine AnyH.done (by kernel_rfl) ?_
          refine Ends.seq ?_
          refine Wp.seq ?_
          refine Wp.region ?_
          refine Ops.pv (pv_assign rfl) rfl ?_
          refine Ops.nil ?_
          refine Ends.seq ?_
          refine Wp.ret ?_
          rw [Nat.zero_add, List.nil_append, ← intsC_app, ← List.length_append, ← hrem] at hs8
          exact Ends.ret (L' := (qb, .cells [.int .u64 w, v8, .int .i64 id0, .bool has].toArray 82) :: H8) (res1 rfl rfl) ⟨by rw [hrb], v8, H8, hs8, rfl⟩
        · first | refine Turn.ef rfl rfl (ef_pv (pv_load rfl rfl rfl) rfl) ?_ ?_ | refine Turn.ef rfl rfl (ef_pv (pv_load rfl rfl (by assumption)) rfl) ?_ ?_
          · rintro _ _ ⟨rfl, rfl⟩; infer_instance
          rintro _ _ ⟨rfl, rfl⟩
          refine AnyH.take 15 rfl (by kernel_rfl) (by kernel_rfl) (by kernel_rfl) PF.pf rfl (pv_sliceL (i := i + 1) (j := l.length) rfl ⟨_, rfl⟩ rfl (by omega) hlc lB.symm) rfl ?_
          refine AnyH.one 8 (by kernel_rfl) ?_
          refine Turn.ef rfl rfl (ef_appendV (H := [(b2, .cells ([] : List Value).toArray 3)]) rfl (slc_empty 3 b2) rfl (hA.mono (by intro p hp; simp [hp])) (intsC_one _) (by omega) (by omega) rfl rfl) ?_ ?_
          · rintro _ _ ⟨v9, H9, hs9, rfl, rfl⟩; infer_instance
          rintro _ _ ⟨v9, H9, hs9, rfl, rfl⟩
          refine AnyH.app ?_
          skip
          refine AnyH.one 16 (by kernel_rfl) ?_
          refine Turn.ef rfl rfl (ef_appendV (H := H9) rfl hs9 rfl (hB.mono (by intro p hp; simp [hp])) (intsC_one _) (by omega) (by omega) rfl rfl) ?_ ?_
          · rintro _ _ ⟨v10, H10, hs10, rfl, rfl⟩; infer_instance
          rintro _ _ ⟨v10, H10, hs10, rfl, rfl⟩
          refine AnyH.app ?_
          have ho1 := hs10.one
          have ho2 := hs10.cells1
          first | refine AnyH.take 17 rfl (by kernel_rfl) (by kernel_rfl) (by kernel_rfl) PF.pf rfl (pv_nilCheck rfl) rfl ?_ | refine AnyH.take 17 rfl (by kernel_rfl) (by kernel_rfl) (by kernel_rfl) PF.pf rfl (pv_nilCheck_func rfl rfl) rfl ?_
          first | refine AnyH.take 18 rfl (by kernel_rfl) (by kernel_rfl) (by kernel_rfl) PF.pf rfl (pv_fieldAddr0 rfl rfl) rfl ?_ | refine AnyH.take 18 rfl (by kernel_rfl) (by kernel_rfl) (by kernel_rfl) PF.pf rfl (pv_fieldAddr rfl rfl) rfl ?_
          refine AnyH.one 19 (by kernel_rfl) ?_
          refine Turn.ef rfl rfl (ef_store1 rfl rfl (by first | rfl | assumption) (by first | rfl | assumption)) ?_ ?_
          · rintro _ _ ⟨rfl, rfl⟩; infer_instance
          rintro _ _ ⟨rfl, rfl⟩
          refine AnyH.done (by kernel_rfl) ?_
          refine Ends.seq ?_
          refine Wp.seq ?_
          refine Wp.region ?_
          refine Ops.pv (pv_assign rfl) rfl ?_
          refine Ops.nil ?_
          refine Ends.seq ?_
          refine Wp.ret ?_
          rw [Nat.zero_add, List.nil_append, ← intsC_app, ← List.length_append, ← hrem] at hs10
          exact Ends.ret (L' := (qb, .cells [.int .u64 w, v10, .int .i64 id0, .bool has].toArray 82) :: H10) (res1 rfl rfl) ⟨by rw [hrb], v10, H10, hs10, rfl⟩
      · first | refine Turn.ef rfl rfl (ef_pv (pv_load rfl rfl rfl) rfl) ?_ ?_ | refine Turn.ef rfl rfl (ef_pv (pv_load rfl rfl (by assumption)) rfl) ?_ ?_
        · rintro _ _ ⟨rfl, rfl⟩; infer_instance
        rintro _ _ ⟨rfl, rfl⟩
        refine AnyH.take 15 rfl (by kernel_rfl) (by kernel_rfl) (by kernel_rfl) PF.pf rfl (pv_sliceL (i := i + 1) (j := l.length) rfl ⟨_, rfl⟩ rfl (by omega) hlc lB.symm) rfl ?_
        refine AnyH.one 1 (by kernel_rfl) ?_
        refine Turn.ef rfl rfl (ef_buildSlice0 rfl) ?_ ?_
        · rintro _ _ ⟨b3, rfl, rfl⟩; infer_instance
        rintro _ _ ⟨b3, rfl, rfl⟩
        refine AnyH.one 8 (by kernel_rfl) ?_
        refine Turn.ef rfl rfl (ef_appendV (H := [(b3, .cells ([] : List Value).toArray 3)]) rfl (slc_empty 3 b3) rfl (hA.mono (by intro p hp; simp [hp])) (intsC_one _) (by omega) (by omega) rfl rfl) ?_ ?_
        · rintro _ _ ⟨v11, H11, hs11, rfl, rfl⟩; infer_instance
        rintro _ _ ⟨v11, H11, hs11, rfl, rfl⟩
        refine AnyH.app ?_
        skip
        refine AnyH.one 16 (by kernel_rfl) ?_
        refine Turn.ef rfl rfl (ef_appendV (H := H11) rfl hs11 rfl (hB.mono (by intro p hp; simp [hp])) (intsC_one _) (by omega) (by omega) rfl rfl) ?_ ?_
        · rintro _ _ ⟨v12, H12, hs12, rfl, rfl⟩; infer_instance
        rintro _ _ ⟨v12, H12, hs12, rfl, rfl⟩
        refine AnyH.app ?_
        have ho1 := hs12.one
        have ho2 := hs12.cells1
        first | refine AnyH.take 17 rfl (by kernel_rfl) (by kernel_rfl) (by kernel_rfl) PF.pf rfl (pv_nilCheck rfl) rfl ?_ | refine AnyH.take 17 rfl (by kernel_rfl) (by kernel_rfl) (by kernel_rfl) PF.pf rfl (pv_nilCheck_func rfl rfl) rfl ?_
        first | refine AnyH.take 18 rfl (by kernel_rfl) (by kernel_rfl) (by kernel_rfl) PF.pf rfl (pv_fieldAddr0 rfl rfl) rfl ?_ | refine AnyH.take 18 rfl (by kernel_rfl) (by kernel_rfl) (by kernel_rfl) PF.pf rfl (pv_fieldAddr rfl rfl) rfl ?_
        refine AnyH.one 19 (by kernel_rfl) ?_
        refine Turn.ef rfl rfl (ef_store1 rfl rfl (by first | rfl | assumption) (by first | rfl | assumption)) ?_ ?_
        · rintro _ _ ⟨rfl, rfl⟩; infer_instance
        rintro _ _ ⟨rfl, rfl⟩
        refine AnyH.done (by kernel_rfl) ?_
        refine Ends.seq ?_
        refine Wp.seq ?_
        refine Wp.region ?_
        refine Ops.pv (pv_assign rfl) rfl ?_
        refine Ops.nil ?_
        refine Ends.seq ?_
        refine Wp.ret ?_
        rw [Nat.zero_add, List.nil_append, ← intsC_app, ← List.length_append, ← hrem] at hs12
        exact Ends.ret (L' := (qb, .cells [.int .u64 w, v12, .int .i64 id0, .bool has].toArray 82) :: H12) (res1 rfl rfl) ⟨by rw [hrb], v12, H12, hs12, rfl⟩
    · first | refine Turn.ef rfl rfl (ef_pv (pv_load rfl rfl rfl) rfl) ?_ ?_ | refine Turn.ef rfl rfl (ef_pv (pv_load rfl rfl (by assumption)) rfl) ?_ ?_
      · rintro _ _ ⟨rfl, rfl⟩; infer_instance
      rintro _ _ ⟨rfl, rfl⟩
      refine AnyH.take 15 rfl (by kernel_rfl) (by kernel_rfl) (by kernel_rfl) PF.pf rfl (pv_sliceL (i := i + 1) (j := l.length) rfl ⟨_, rfl⟩ rfl (by omega) hlc lB.symm) rfl ?_
      refine AnyH.two 1 5 (by kernel_rfl) ?_ ?_
      · refine Turn.ef rfl rfl (ef_buildSlice0 rfl) ?_ ?_
        · rintro _ _ ⟨b4, rfl, rfl⟩; infer_instance
        rintro _ _ ⟨b4, rfl, rfl⟩
        refine AnyH.one 5 (by kernel_rfl) ?_
        first | refine Turn.ef rfl rfl (ef_pv (pv_load rfl rfl rfl) rfl) ?_ ?_ | refine Turn.ef rfl rfl (ef_pv (pv_load rfl rfl (by assumption)) rfl) ?_ ?_
        · rintro _ _ ⟨rfl, rfl⟩; infer_instance
        rintro _ _ ⟨rfl, rfl⟩
        refine AnyH.take 7 rfl (by kernel_rfl) (by kernel_rfl) (by kernel_rfl) PF.pf rfl (pv_sliceL (i := 0) (j := i) rfl rfl ⟨_, rfl⟩ (Nat.zero_le _) (by omega) lA.symm) rfl ?_
        refine AnyH.one 8 (by kernel_rfl) ?_
        refine Turn.ef rfl rfl (ef_appendV (H := [(b4, .cells ([] : List Value).toArray 3)]) rfl (slc_empty 3 b4) rfl (hA.mono (by intro p hp; simp [hp])) (intsC_one _) (by omega) (by omega) rfl rfl) ?_ ?_
        · rintro _ _ ⟨v13, H13, hs13, rfl, rfl⟩; infer_instance
        rintro _ _ ⟨v13, H13, hs13, rfl, rfl⟩
        refine AnyH.app ?_
        skip
        refine AnyH.one 16 (by kernel_rfl) ?_
        refine Turn.ef rfl rfl (ef_appendV (H := H13) rfl hs13 rfl (hB.mono (by intro p hp; simp [hp])) (intsC_one _) (by omega) (by omega) rfl rfl) ?_ ?_
        · rintro _ _ ⟨v14, H14, hs14, rfl, rfl⟩; infer_instance
        rintro _ _ ⟨v14, H14, hs14, rfl, rfl⟩
        refine AnyH.app ?_
        have ho1 := hs14.one
        have ho2 := hs14.cells1
        first | refine AnyH.take 17 rfl (by kernel_rfl) (by kernel_rfl) (by kernel_rfl) PF.pf rfl (pv_nilCheck rfl) rfl ?_ | refine AnyH.take 17 rfl (by kernel_rfl) (by kernel_rfl) (by kernel_rfl) PF.pf rfl (pv_nilCheck_func rfl rfl) rfl ?_
        first | refine AnyH.take 18 rfl (by kernel_rfl) (by kernel_rfl) (by kernel_rfl) PF.pf rfl (pv_fieldAddr0 rfl rfl) rfl ?_ | refine AnyH.take 18 rfl (by kernel_rfl) (by kernel_rfl) (by kernel_rfl) PF.pf rfl (pv_fieldAddr rfl rfl) rfl ?_
        refine AnyH.one 19 (by kernel_rfl) ?_
        refine Turn.ef rfl rfl (ef_store1 rfl rfl (by first | rfl | assumption) (by first | rfl | assumption)) ?_ ?_
        · rintro _ _ ⟨rfl, rfl⟩; infer_instance
        rintro _ _ ⟨rfl, rfl⟩
        refine AnyH.done (by kernel_rfl) ?_
        refine Ends.seq ?_
        refine Wp.seq ?_
        refine Wp.region ?_
        refine Ops.pv (pv_assign rfl) rfl ?_
        refine Ops.nil ?_
        refine Ends.seq ?_
        refine Wp.ret ?_
        rw [Nat.zero_add, List.nil_append, ← intsC_app, ← List.length_append, ← hrem] at hs14
        exact Ends.ret (L' := (qb, .cells [.int .u64 w, v14, .int .i64 id0, .bool has].toArray 82) :: H14) (res1 rfl rfl) ⟨by rw [hrb], v14, H14, hs14, rfl⟩
      · first | refine Turn.ef rfl rfl (ef_pv (pv_load rfl rfl rfl) rfl) ?_ ?_ | refine Turn.ef rfl rfl (ef_pv (pv_load rfl rfl (by assumption)) rfl) ?_ ?_
        · rintro _ _ ⟨rfl, rfl⟩; infer_instance
        rintro _ _ ⟨rfl, rfl⟩
        refine AnyH.take 7 rfl (by kernel_rfl) (by kernel_rfl) (by kernel_rfl) PF.pf rfl (pv_sliceL (i := 0) (j := i) rfl rfl ⟨_, rfl⟩ (Nat.zero_le _) (by omega) lA.symm) rfl ?_
        refine AnyH.one 1 (by kernel_rfl) ?_
        refine Turn.ef rfl rfl (ef_buildSlice0 rfl) ?_ ?_
        · rintro _ _ ⟨b5, rfl, rfl⟩; infer_instance
        rintro _ _ ⟨b5, rfl, rfl⟩
        refine AnyH.one 8 (by kernel_rfl) ?_
        refine Turn.ef rfl rfl (ef_appendV (H := [(b5, .cells ([] : List Value).toArray 3)]) rfl (slc_empty 3 b5) rfl (hA.mono (by intro p hp; simp [hp])) (intsC_one _) (by omega) (by omega) rfl rfl) ?_ ?_
        · rintro _ _ ⟨v15, H15, hs15, rfl, rfl⟩; infer_instance
        rintro _ _ ⟨v15, H15, hs15, rfl, rfl⟩
        refine AnyH.app ?_
        skip
        refine AnyH.one 16 (by kernel_rfl) ?_
        refine Turn.ef rfl rfl (ef_appendV (H := H15) rfl hs15 rfl (hB.mono (by intro p hp; simp [hp])) (intsC_one _) (by omega) (by omega) rfl rfl) ?_ ?_
        · rintro _ _ ⟨v16, H16, hs16, rfl, rfl⟩; infer_instance
        rintro _ _ ⟨v16, H16, hs16, rfl, rfl⟩
        refine AnyH.app ?_
        have ho1 := hs16.one
        have ho2 := hs16.cells1
        first | refine AnyH.take 17 rfl (by kernel_rfl) (by kernel_rfl) (by kernel_rfl) PF.pf rfl (pv_nilCheck rfl) rfl ?_ | refine AnyH.take 17 rfl (by kernel_rfl) (by kernel_rfl) (by kernel_rfl) PF.pf rfl (pv_nilCheck_func rfl rfl) rfl ?_
        first | refine AnyH.take 18 rfl (by kernel_rfl) (by kernel_rfl) (by kernel_rfl) PF.pf rfl (pv_fieldAddr0 rfl rfl) rfl ?_ | refine AnyH.take 18 rfl (by kernel_rfl) (by kernel_rfl) (by kernel_rfl) PF.pf rfl (pv_fieldAddr rfl rfl) rfl ?_
        refine AnyH.one 19 (by kernel_rfl) ?_
        refine Turn.ef rfl rfl (ef_store1 rfl rfl (by first | rfl | assumption) (by first | rfl | assumption)) ?_ ?_
        · rintro _ _ ⟨rfl, rfl⟩; infer_instance
        rintro _ _ ⟨rfl, rfl⟩
        refine AnyH.done (by kernel_rfl) ?_
        refine Ends.seq ?_
        refine Wp.seq ?_
        refine Wp.region ?_
        refine Ops.pv (pv_assign rfl) rfl ?_
        refine Ops.nil ?_
        refine Ends.seq ?_
        refine Wp.ret ?_
        rw [Nat.zero_add, List.nil_append, ← intsC_app, ← List.length_append, ← hrem] at hs16
        exact Ends.ret (L' := (qb, .cells [.int .u64 w, v16, .int .i64 id0, .bool has].toArray 82) :: H16) (res1 rfl rfl) ⟨by rw [hrb], v16, H16, hs16, rfl⟩

theorem tr_dnBind (qb : Nat) (w : Int) (v : Value) (K : Hp) (l : List Int) (id0 : Int) (has : Bool) (hs : Slc 3 1 v l.length (intsC l) K) (hl : l.length ≤ 2 ^ 20) (id : Int) : Tr Try.prog 59 [.pointer (some ⟨qb, 0, none⟩), .int .i64 id] ((qb, .cells [.int .u64 w, v, .int .i64 id0, .bool has].toArray 82) :: K) (fun u L' => u = .int .i64 (bdE (⟨w, l, bdOf id0 has⟩ : Nt) id) ∧ ∃ id' has', bdOf id' has' = (bdS (⟨w, l, bdOf id0 has⟩ : Nt) id).b ∧ L' = (qb, .cells [.int .u64 w, v, .int .i64 id', .bool has'].toArray 82) :: K) := by
  obtain ⟨a, c, rfl⟩ := hs.form
  refine Tr.enter Try.func59 rfl Try.ntmps59 rfl (fun W F => ?_)
  refine Wp.app ?_
  refine Wp.seq ?_
  refine Wp.region ?_
  refine Ops.pv (pv_assign rfl) rfl ?_
  refine Ops.nil ?_
  refine Ends.seq ?_
  refine Wp.seq ?_
  refine Wp.block ?_
  refine Wp.seq ?_
  refine Wp.region ?_
  refine Ops.pv (pv_move rfl) rfl ?_
  refine Ops.pv (pv_lss rfl rfl) rfl ?_
  refine Ops.pv (pv_move rfl) rfl ?_
  refine Ops.pvcn rfl rfl (fun hg => pv_move rfl) rfl ?_
  refine Ops.pvcn rfl rfl (fun hg => Pv.setE (t := 9) rfl (cv_pos hg) (pv_gtr rfl rfl)) rfl ?_
  refine Ops.pv (pv_pick_or rfl rfl) rfl ?_
  refine Ops.pv (pv_assign rfl) rfl ?_
  refine Ops.nil ?_
  refine Ends.seq ?_
  first | refine Wp.cond_dect rfl (fun h1 => ?_) (fun h1 => ?_) | refine Wp.cond_t rfl (fun h1 => ?_) (fun h1 => ?_)
  · refine Wp.seq ?_
    refine Wp.region ?_
    refine Ops.pv (pv_assign rfl) rfl ?_
    refine Ops.nil ?_
    refine Ends.seq ?_
    refine Wp.ret ?_
    refine Ends.block_ret ?_
    refine Ends.then_ret ?_
    have he1 := (pushL_range (l := []) (x := id) (by simp [rightM]; omega)).1
    obtain ⟨m1, m2⟩ := bdE_err (S := (⟨w, l, bdOf id0 has⟩ : Nt)) (id := id) (by omega)
    exact Ends.ret (L' := (qb, .cells [.int .u64 w, .slice a l.length c, .int .i64 id0, .bool has].toArray 82) :: K) (res1 rfl rfl) ⟨by rw [m1, he1], id0, has, by rw [m2], rfl⟩
  · refine Wp.seq ?_
    refine Wp.region ?_
    refine Ops.pv (pv_move rfl) rfl ?_
    first | refine Ops.pv (pv_nilCheck rfl) rfl ?_ | refine Ops.pv (pv_nilCheck_func rfl rfl) rfl ?_
    first | refine Ops.pv (pv_fieldAddr0 rfl rfl) rfl ?_ | refine Ops.pv (pv_fieldAddr rfl rfl) rfl ?_
    first | refine Ops.pv (pv_load rfl rfl rfl) rfl ?_ | refine Ops.pv (pv_load rfl rfl (by assumption)) rfl ?_
    refine Ops.pv (pv_assign rfl) rfl ?_
    refine Ops.nil ?_
    refine Ends.seq ?_
    first | refine Wp.cond_dect rfl (fun h2 => ?_) (fun h2 => ?_) | refine Wp.cond_t rfl (fun h2 => ?_) (fun h2 => ?_)
    · refine Wp.seq ?_
      refine Wp.region ?_
      refine Ops.pv (pv_assign rfl) rfl ?_
      refine Ops.nil ?_
      refine Ends.seq ?_
      refine Wp.ret ?_
      refine Ends.block_ret ?_
      refine Ends.then_ret ?_
      have e2 : has = true := by assumption
      subst e2
      obtain ⟨m1, m2⟩ := bdE_twice (S := (⟨w, l, bdOf id0 true⟩ : Nt)) (id := id) (push_zero (by simp [rightM]; omega) List.not_mem_nil) (by simp [bdOf])
      exact Ends.ret (L' := (qb, .cells [.int .u64 w, .slice a l.length c, .int .i64 id0, .bool true].toArray 82) :: K) (res1 rfl rfl) ⟨by rw [m1], id0, true, by rw [m2], rfl⟩
    · refine Wp.skip ?_
      refine Ends.block_normal ?_
      refine Ends.seq ?_
      refine Wp.seq ?_
      refine Wp.region ?_
      refine Ops.pv (pv_move rfl) rfl ?_
      refine Ops.pv (pv_move rfl) rfl ?_
      first | refine Ops.pv (pv_nilCheck rfl) rfl ?_ | refine Ops.pv (pv_nilCheck_func rfl rfl) rfl ?_
      first | refine Ops.pv (pv_fieldAddr0 rfl rfl) rfl ?_ | refine Ops.pv (pv_fieldAddr rfl rfl) rfl ?_
      refine Ops.ef rfl (ef_store1 rfl rfl (by first | rfl | assumption) (by first | rfl | assumption)) ?_
      rintro _ _ ⟨rfl, rfl⟩
      refine Ops.nil ?_
      refine Ends.seq ?_
      refine Wp.seq ?_
      refine Wp.region ?_
      refine Ops.pv (pv_move rfl) rfl ?_
      first | refine Ops.pv (pv_nilCheck rfl) rfl ?_ | refine Ops.pv (pv_nilCheck_func rfl rfl) rfl ?_
      first | refine Ops.pv (pv_fieldAddr0 rfl rfl) rfl ?_ | refine Ops.pv (pv_fieldAddr rfl rfl) rfl ?_
      refine Ops.ef rfl (ef_store1 rfl rfl (by first | rfl | assumption) (by first | rfl | assumption)) ?_
      rintro _ _ ⟨rfl, rfl⟩
      refine Ops.nil ?_
      refine Ends.seq ?_
      refine Wp.seq ?_
      refine Wp.region ?_
      refine Ops.pv (pv_assign rfl) rfl ?_
      refine Ops.nil ?_
      refine Ends.seq ?_
      refine Wp.ret ?_
      have e2 : has = false := by assumption
      subst e2
      obtain ⟨m1, m2⟩ := bdE_ok (S := (⟨w, l, bdOf id0 false⟩ : Nt)) (id := id) (push_zero (by simp [rightM]; omega) List.not_mem_nil) rfl
      exact Ends.ret (L' := (qb, .cells [.int .u64 w, .slice a l.length c, .int .i64 id, .bool true].toArray 82) :: K) (res1 rfl rfl) ⟨by rw [m1], id, true, by rw [m2]; rfl, rfl⟩

theorem tr_dnBound (qb : Nat) (w : Int) (v : Value) (K : Hp) (l : List Int) (id0 : Int) (has : Bool) (hs : Slc 3 1 v l.length (intsC l) K) (hl : l.length ≤ 2 ^ 20) : TrR Try.prog 62 [.pointer (some ⟨qb, 0, none⟩)] ((qb, .cells [.int .u64 w, v, .int .i64 id0, .bool has].toArray 82) :: K) (.tuple #[.int .i64 ((bdOf id0 has).headD 0), .bool (!(bdOf id0 has).isEmpty)]) := by
  obtain ⟨a, c, rfl⟩ := hs.form
  refine Tr.enter Try.func62 rfl Try.ntmps62 rfl (fun W F => ?_)
  refine Wp.app ?_
  refine Wp.seq ?_
  refine Wp.region ?_
  refine Ops.pv (pv_assign rfl) rfl ?_
  refine Ops.pv (pv_assign rfl) rfl ?_
  refine Ops.nil ?_
  refine Ends.seq ?_
  refine Wp.seq ?_
  refine Wp.seq ?_
  refine Wp.region ?_
  refine Ops.pv (pv_move rfl) rfl ?_
  first | refine Ops.pv (pv_nilCheck rfl) rfl ?_ | refine Ops.pv (pv_nilCheck_func rfl rfl) rfl ?_
  first | refine Ops.pv (pv_fieldAddr0 rfl rfl) rfl ?_ | refine Ops.pv (pv_fieldAddr rfl rfl) rfl ?_
  first | refine Ops.pv (pv_load rfl rfl rfl) rfl ?_ | refine Ops.pv (pv_load rfl rfl (by assumption)) rfl ?_
  first | refine Ops.pv (pv_not_dec rfl) rfl ?_ | refine Ops.pv (pv_not rfl) rfl ?_
  refine Ops.nil ?_
  refine Ends.seq ?_
  first | refine Wp.cond_dect rfl (fun h1 => ?_) (fun h1 => ?_) | refine Wp.cond_t rfl (fun h1 => ?_) (fun h1 => ?_)
  · refine Wp.seq ?_
    refine Wp.region ?_
    refine Ops.pv (pv_assign rfl) rfl ?_
    refine Ops.pv (pv_assign rfl) rfl ?_
    refine Ops.nil ?_
    refine Ends.seq ?_
    refine Wp.ret ?_
    refine Ends.then_ret ?_
    have e2 : has = false := by simp_all
    subst e2
    exact Ends.ret (res2 rfl rfl rfl) ⟨rfl, rfl⟩
  · refine Wp.skip ?_
    refine Ends.seq ?_
    refine Wp.seq ?_
    refine Wp.region ?_
    refine Ops.pv (pv_move rfl) rfl ?_
    first | refine Ops.pv (pv_nilCheck rfl) rfl ?_ | refine Ops.pv (pv_nilCheck_func rfl rfl) rfl ?_
    first | refine Ops.pv (pv_fieldAddr0 rfl rfl) rfl ?_ | refine Ops.pv (pv_fieldAddr rfl rfl) rfl ?_
    first | refine Ops.pv (pv_load rfl rfl rfl) rfl ?_ | refine Ops.pv (pv_load rfl rfl (by assumption)) rfl ?_
    refine Ops.pv (pv_assign rfl) rfl ?_
    refine Ops.pv (pv_assign rfl) rfl ?_
    refine Ops.nil ?_
    refine Ends.seq ?_
    refine Wp.ret ?_
    have e2 : has = true := by simp_all
    subst e2
    exact Ends.ret (res2 rfl rfl rfl) ⟨rfl, rfl⟩

theorem tr_dnUnbind (qb : Nat) (w : Int) (v : Value) (K : Hp) (l : List Int) (id0 : Int) (has : Bool) (hs : Slc 3 1 v l.length (intsC l) K) (hl : l.length ≤ 2 ^ 20) : Tr Try.prog 60 [.pointer (some ⟨qb, 0, none⟩)] ((qb, .cells [.int .u64 w, v, .int .i64 id0, .bool has].toArray 82) :: K) (fun u L' => u = .tuple #[.int .i64 ((bdOf id0 has).headD 0), .bool (!(bdOf id0 has).isEmpty)] ∧ L' = (qb, .cells [.int .u64 w, v, .int .i64 id0, .bool false].toArray 82) :: K) := by
  obtain ⟨a, c, rfl⟩ := hs.form
  refine Tr.enter Try.func60 rfl Try.ntmps60 rfl (fun W F => ?_)
  refine Wp.app ?_
  refine Wp.seq ?_
  refine Wp.region ?_
  refine Ops.pv (pv_assign rfl) rfl ?_
  refine Ops.pv (pv_assign rfl) rfl ?_
  refine Ops.nil ?_
  refine Ends.seq ?_
  refine Wp.seq ?_
  refine Wp.region ?_
  refine Ops.pv (pv_move rfl) rfl ?_
  refine Ops.ef rfl (ef_callr (tr_dnBound qb w _ K l id0 has hs hl) rfl rfl) ?_
  rintro _ _ ⟨rfl, rfl⟩
  refine Ops.pv (pv_move rfl) rfl ?_
  refine Ops.pv (pv_extract rfl rfl) rfl ?_
  refine Ops.pv (pv_extract rfl rfl) rfl ?_
  refine Ops.pv (pv_assign rfl) rfl ?_
  refine Ops.pv (pv_assign rfl) rfl ?_
  refine Ops.nil ?_
  refine Ends.seq ?_
  refine Wp.seq ?_
  refine Wp.region ?_
  refine Ops.pv (pv_move rfl) rfl ?_
  first | refine Ops.pv (pv_nilCheck rfl) rfl ?_ | refine Ops.pv (pv_nilCheck_func rfl rfl) rfl ?_
  first | refine Ops.pv (pv_fieldAddr0 rfl rfl) rfl ?_ | refine Ops.pv (pv_fieldAddr rfl rfl) rfl ?_
  refine Ops.ef rfl (ef_store1 rfl rfl (by first | rfl | assumption) (by first | rfl | assumption)) ?_
  rintro _ _ ⟨rfl, rfl⟩
  refine Ops.nil ?_
  refine Ends.seq ?_
  refine Wp.seq ?_
  refine Wp.region ?_
  refine Ops.pv (pv_move rfl) rfl ?_
  refine Ops.pv (pv_move rfl) rfl ?_
  refine Ops.pv (pv_assign rfl) rfl ?_
  refine Ops.pv (pv_assign rfl) rfl ?_
  refine Ops.nil ?_
  refine Ends.seq ?_
  refine Wp.ret ?_
  exact Ends.ret (res2 rfl rfl rfl) ⟨rfl, rfl⟩

end Go.Proofs.Ytpjodkcghiklcaa
