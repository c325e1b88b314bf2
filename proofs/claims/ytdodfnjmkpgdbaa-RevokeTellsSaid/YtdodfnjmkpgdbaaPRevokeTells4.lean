/- RevokeTells. Laid together by pack.py out of the texts in wip. -/
import Derived.Test.YtdodfnjmkpgdbaaPRevokeTells3
set_option linter.unusedVariables false
set_option linter.unusedSimpArgs false
set_option linter.unusedSectionVars false
section
set_option linter.unusedVariables false
set_option linter.unusedSimpArgs false
namespace Go.Proofs.Ytdodfnjmkpgdbaa
open Go.SL
theorem stepT_n {t : TS} {s : SlotM} (h : ¬ fin t.p.l s) : stepT t s = ⟨(mTake t.p s).2.2, t.told, t.n - 1⟩ := by unfold stepT; rw [if_neg (fun k => h k.1), if_neg h]
theorem stepT_f {t : TS} {s : SlotM} (h : fin t.p.l s) (h2 : ¬ (dget t.p.l s).1.kind = 2) : stepT t s = ⟨(mTake t.p s).2.2, t.told ++ [(dget t.p.l s).1], t.n - 1⟩ := by unfold stepT; rw [if_neg (fun k => h2 k.2), if_pos h]
theorem stepT_c {t : TS} {s : SlotM} (h : fin t.p.l s) (h2 : (dget t.p.l s).1.kind = 2) : stepT t s = ⟨(mClear (mTake t.p s).2.2 (dget t.p.l s).1.object).2, t.told ++ [(dget t.p.l s).1], t.n - 1⟩ := by unfold stepT; rw [if_pos ⟨h, h2⟩, if_pos h]
def TkI (n : Nat) (t : TS) (cb : Nat) (v : Value) (T H : Hp) : Prop := CapsH n t.p cb H ∧ Slc 24 6 v t.told.length (cel CapM.cells t.told) T ∧ POk t.p ∧ t.told.length + t.n ≤ 1000
set_option maxHeartbeats 4000000 in
theorem tr_tkStep (n cb tk : Nat) (t : TS) (v : Value) (T H : Hp) (hI : TkI n t cb v T H) (hn : n ≤ 2 ^ 19) (s : SlotM) : TrE Try.prog 87 [tkP tk, slotV s] (tkBlk tk cb t.n v :: (T ++ H)) (fun u L' => u = .tuple #[] ∧ t.n ≠ 0 ∧ ∃ v' T' H', TkI n (stepT t s) cb v' T' H' ∧ L' = tkBlk tk cb (stepT t s).n v' :: (T' ++ H')) (fun c L' => c = spentC ∧ t.n = 0 ∧ L' = tkBlk tk cb t.n v :: (T ++ H)) := by
 obtain ⟨hC, hsl, hok, hb⟩ := hI
 have htf : (mTake t.p s).1 = (dget t.p.l s).1 := take_fst hok.rel
 refine TrE.enter Try.func87 rfl Try.ntmps87 rfl (fun W F => ?_)
 refine Wp.app ?_
 refine Wp.seq ?_
 refine Wp.region ?_
 refine Ops.ef rfl (ef_boxK rfl rfl) ?_
 rintro _ _ ⟨b1, rfl, rfl⟩
 refine Ops.nil ?_
 refine Ends.seq ?_
 refine Wp.seq ?_
 refine Wp.seq ?_
 refine Wp.region ?_
 refine Ops.pv (pv_move rfl) rfl ?_
 refine Ops.pv (pv_nilCheck rfl) rfl ?_
 refine Ops.pv (pv_fieldAddr0 rfl rfl) rfl ?_
 refine Ops.pv (pv_load rfl rfl rfl) rfl ?_
 refine Ops.pv (pv_eql rfl rfl) rfl ?_
 refine Ops.nil ?_
 refine Ends.seq ?_
 refine Wp.cond_dect rfl (fun h1 => ?_) (fun h1 => ?_)
 ·
  refine Wp.region ?_
  refine Ops.pv (pv_build rfl) rfl ?_
  refine Ops.pv (pv_iface rfl rfl) rfl ?_
  exact Ops.panic rfl ⟨tkBlk tk cb t.n v :: (T ++ H), ⟨rfl, by omega, rfl⟩, inferInstance⟩
 refine Wp.skip ?_
 refine Ends.seq ?_
 refine Wp.seq ?_
 refine Wp.region ?_
 refine Ops.pv (pv_move rfl) rfl ?_
 refine Ops.pv (pv_nilCheck rfl) rfl ?_
 refine Ops.pv (pv_fieldAddr0 rfl rfl) rfl ?_
 refine Ops.pv (pv_load rfl rfl rfl) rfl ?_
 refine Ops.pv (pv_sub rfl rfl (w64n (k := t.n - 1) (by omega) (by omega))) rfl ?_
 refine Ops.pv (pv_nilCheck rfl) rfl ?_
 refine Ops.pv (pv_fieldAddr0 rfl rfl) rfl ?_
 refine Ops.ef rfl (ef_store1 rfl rfl (by first | rfl | assumption) (by first | rfl | assumption)) ?_
 rintro _ _ ⟨rfl, rfl⟩
 refine Ops.nil ?_
 refine Ends.seq ?_
 refine Wp.seq ?_
 refine AnyH.start ((b1, .cells [.int .i64 s.1, .int .i64 s.2].toArray 38) :: tkBlk tk cb (t.n - 1) v :: []) 7 rfl ?_
 refine Tk 0 rfl rfl (pv_move rfl) rfl ?_
 refine Tk 1 rfl rfl (pv_nilCheck rfl) rfl ?_
 refine Tk 2 rfl rfl (pv_fieldAddr0 rfl rfl) rfl ?_
 refine Tk 3 rfl rfl (pv_load rfl rfl rfl) rfl ?_
 refine Tk 4 rfl rfl (pv_loadK [_, _] rfl rfl rfl ⟨rfl, rfl, trivial⟩) rfl ?_
 refine AnyH.one 5 (by kernel_rfl) ?_
 refine Turn.ef rfl rfl (ef_callr (tr_rFinal n cb H t.p hC s) rfl rfl) ?_ ?_
 ·
  rintro _ _ ⟨rfl, rfl⟩; infer_instance
 rintro _ _ ⟨rfl, rfl⟩
 refine Tk 6 rfl rfl (pv_assign rfl) rfl ?_
 refine AnyH.done (by kernel_rfl) ?_
 refine Ends.seq ?_
 refine Wp.seq ?_
 refine AnyH.start ((b1, .cells [.int .i64 s.1, .int .i64 s.2].toArray 38) :: tkBlk tk cb (t.n - 1) v :: []) 12 rfl ?_
 refine Tk 0 rfl rfl (pv_move rfl) rfl ?_
 refine Tk 1 rfl rfl (pv_nilCheck rfl) rfl ?_
 refine Tk 2 rfl rfl (pv_fieldAddr0 rfl rfl) rfl ?_
 refine Tk 3 rfl rfl (pv_load rfl rfl rfl) rfl ?_
 refine Tk 4 rfl rfl (pv_loadK [_, _] rfl rfl rfl ⟨rfl, rfl, trivial⟩) rfl ?_
 refine AnyH.two 5 9 (by kernel_rfl) ?_ ?_
 ·
  refine Turn.ef rfl rfl (ef_call (tr_mTake n cb H t.p hC hn s) rfl rfl) ?_ ?_
  ·
   rintro _ _ ⟨_, Q1, ⟨rfl, hC2⟩, rfl, rfl⟩; infer_instance
  rintro _ _ ⟨_, Q1, ⟨rfl, hC2⟩, rfl, rfl⟩
  refine AnyH.app ?_
  rw [htf]
  refine Tk 6 rfl rfl (pv_move rfl) rfl ?_
  refine Tk 7 rfl rfl (pv_extract rfl rfl) rfl ?_
  refine Tk 8 rfl rfl (pv_extract rfl rfl) rfl ?_
  refine AnyH.one 9 (by kernel_rfl) ?_
  refine Turn.ef rfl rfl (ef_allocK tyZ24 rfl) ?_ ?_
  ·
   rintro _ _ ⟨b2, rfl, rfl⟩; infer_instance
  rintro _ _ ⟨b2, rfl, rfl⟩
  refine AnyH.one 10 (by kernel_rfl) ?_
  refine Turn.ef rfl rfl (ef_storeK rfl rfl rfl rfl) ?_ ?_
  ·
   rintro _ _ ⟨rfl, rfl⟩; infer_instance
  rintro _ _ ⟨rfl, rfl⟩
  refine Tk 11 rfl rfl (pv_assign rfl) rfl ?_
  refine AnyH.done (by kernel_rfl) ?_
  refine Ends.seq ?_
  refine Wp.seq ?_
  refine Wp.seq ?_
  refine Wp.region ?_
  refine Ops.pv (pv_move rfl) rfl ?_
  refine Ops.pv (pv_not_dec rfl) rfl ?_
  refine Ops.nil ?_
  refine Ends.seq ?_
  refine Wp.cond_dect rfl (fun h2 => ?_) (fun h2 => ?_)
  ·
   refine Wp.ret ?_
   refine Ends.then_ret ?_
   have hsok := stepT_ok hok s
   have he := stepT_n (t := t) (s := s) (by assumption)
   rw [he] at hsok ⊢
   exact Ends.retE (L' := tkBlk tk cb (t.n - 1) v :: (T ++ Q1)) (res0 rfl) ⟨rfl, by omega, v, T, Q1, ⟨hC2, hsl, hsok, by simp only [List.length_append, List.length_singleton]; omega⟩, rfl⟩
  refine Wp.skip ?_
  refine Ends.seq ?_
  refine Wp.seq ?_
  refine AnyH.start ((b2, .cells (dget t.p.l s).1.cells.toArray 24) :: []) 11 rfl ?_
  refine Tk 0 rfl rfl (pv_move rfl) rfl ?_
  refine Tk 1 rfl rfl (pv_move rfl) rfl ?_
  refine Tk 2 rfl rfl (pv_nilCheck rfl) rfl ?_
  refine Tk 3 rfl rfl (pv_fieldAddr0 rfl rfl) rfl ?_
  refine Tk 5 rfl rfl (pv_loadK [_, _, _, _, _, _] rfl rfl rfl ⟨rfl, rfl, rfl, rfl, rfl, rfl, trivial⟩) rfl ?_
  refine AnyH.two 4 6 (by kernel_rfl) ?_ ?_
  ·
   refine Turn.ef rfl rfl (ef_pv (pv_load rfl rfl rfl) rfl) ?_ ?_
   ·
    rintro _ _ ⟨rfl, rfl⟩; infer_instance
   rintro _ _ ⟨rfl, rfl⟩
   refine AnyH.one 6 (by kernel_rfl) ?_
   refine Turn.ef rfl rfl (ef_buildSlice1 (k := 6) rfl rfl rfl rfl rfl) ?_ ?_
   ·
    rintro _ _ ⟨b3, rfl, rfl⟩; infer_instance
   rintro _ _ ⟨b3, rfl, rfl⟩
   refine AnyH.one 7 (by kernel_rfl) ?_
   refine Turn.ef rfl rfl (ef_append (H := T) (xs := (dget t.p.l s).1.cells) rfl hsl rfl ⟨rfl, rfl, rfl, rfl, rfl, rfl, trivial⟩ rfl rfl rfl (by omega) (by omega) rfl rfl) ?_ ?_
   ·
    rintro _ _ ⟨u1, K1, hu1, rfl, rfl⟩; infer_instance
   rintro _ _ ⟨u1, K1, hu1, rfl, rfl⟩
   refine AnyH.app ?_
   have ho1 := hu1.one
   have ho2 := hu1.cells1
   refine Tk 8 rfl rfl (pv_nilCheck rfl) rfl ?_
   refine Tk 9 rfl rfl (pv_fieldAddr0 rfl rfl) rfl ?_
   refine AnyH.one 10 (by kernel_rfl) ?_
   refine Turn.ef rfl rfl (ef_store1 rfl rfl (by first | rfl | assumption) (by first | rfl | assumption)) ?_ ?_
   ·
    rintro _ _ ⟨rfl, rfl⟩; infer_instance
   rintro _ _ ⟨rfl, rfl⟩
   refine AnyH.done (by kernel_rfl) ?_
   refine Ends.seq ?_
   refine Wp.seq ?_
   refine Wp.region ?_
   refine Ops.pv (pv_fieldAddr0 rfl rfl) rfl ?_
   refine Ops.pv (pv_load rfl rfl rfl) rfl ?_
   refine Ops.pv (pv_eql rfl rfl) rfl ?_
   refine Ops.nil ?_
   refine Ends.seq ?_
   refine Wp.cond_dect rfl (fun h3 => ?_) (fun h3 => ?_)
   ·
    obtain ⟨sb, tb, Ls, Lt, hS, hT, rfl⟩ := hC2
    rw [List.cons_append, List.append_assoc]
    refine AnyH.start (tkBlk tk cb (t.n - 1) u1 :: (b2, .cells (dget t.p.l s).1.cells.toArray 24) :: cBlk cb sb tb :: []) 10 rfl ?_
    refine Tk 0 rfl rfl (pv_move rfl) rfl ?_
    refine Tk 1 rfl rfl (pv_nilCheck rfl) rfl ?_
    refine Tk 2 rfl rfl (pv_fieldAddr0 rfl rfl) rfl ?_
    refine Tk 3 rfl rfl (pv_load rfl rfl rfl) rfl ?_
    refine Tk 4 rfl rfl (pv_nilCheck rfl) rfl ?_
    refine Tk 5 rfl rfl (pv_fieldAddr0 rfl rfl) rfl ?_
    refine Tk 6 rfl rfl (pv_loadK [_] rfl rfl rfl ⟨rfl, trivial⟩) rfl ?_
    refine Tk 7 rfl rfl (pv_fieldAddr0 rfl rfl) rfl ?_
    refine Tk 8 rfl rfl (pv_load rfl rfl rfl) rfl ?_
    refine AnyH.one 9 (by kernel_rfl) ?_
    refine Turn.ef rfl rfl (ef_call (tr_smClear _ sb Ls hS (dget t.p.l s).1.object) rfl rfl) ?_ ?_
    ·
     rintro _ _ ⟨_, R1, ⟨rfl, hS2⟩, rfl, rfl⟩; infer_instance
    rintro _ _ ⟨_, R1, ⟨rfl, hS2⟩, rfl, rfl⟩
    refine AnyH.app ?_
    skip
    refine AnyH.done (by kernel_rfl) ?_
    have hsok := stepT_ok hok s
    have he := stepT_c (t := t) (s := s) (Decidable.not_not.1 (by assumption)) (by assumption)
    rw [he] at hsok ⊢
    exact Ends.finE (L' := tkBlk tk cb (t.n - 1) u1 :: (K1 ++ (cBlk cb sb tb :: (R1 ++ Lt)))) (res0 rfl) ⟨rfl, by omega, u1, K1, (cBlk cb sb tb :: (R1 ++ Lt)), ⟨⟨_, _, _, _, hS2, hT, rfl⟩, by rw [cel_app, cel_one1]; simpa using hu1, hsok, by simp only [List.length_append, List.length_singleton]; omega⟩, rfl⟩
   refine Wp.skip ?_
   have hsok := stepT_ok hok s
   have he := stepT_f (t := t) (s := s) (Decidable.not_not.1 (by assumption)) (by assumption)
   rw [he] at hsok ⊢
   exact Ends.finE (L' := tkBlk tk cb (t.n - 1) u1 :: (K1 ++ Q1)) (res0 rfl) ⟨rfl, by omega, u1, K1, Q1, ⟨hC2, by rw [cel_app, cel_one1]; simpa using hu1, hsok, by simp only [List.length_append, List.length_singleton]; omega⟩, rfl⟩
  refine Turn.ef rfl rfl (ef_buildSlice1 (k := 6) rfl rfl rfl rfl rfl) ?_ ?_
  ·
   rintro _ _ ⟨b4, rfl, rfl⟩; infer_instance
  rintro _ _ ⟨b4, rfl, rfl⟩
  refine AnyH.one 4 (by kernel_rfl) ?_
  refine Turn.ef rfl rfl (ef_pv (pv_load rfl rfl rfl) rfl) ?_ ?_
  ·
   rintro _ _ ⟨rfl, rfl⟩; infer_instance
  rintro _ _ ⟨rfl, rfl⟩
  refine AnyH.one 7 (by kernel_rfl) ?_
  refine Turn.ef rfl rfl (ef_append (H := T) (xs := (dget t.p.l s).1.cells) rfl hsl rfl ⟨rfl, rfl, rfl, rfl, rfl, rfl, trivial⟩ rfl rfl rfl (by omega) (by omega) rfl rfl) ?_ ?_
  ·
   rintro _ _ ⟨u2, K2, hu2, rfl, rfl⟩; infer_instance
  rintro _ _ ⟨u2, K2, hu2, rfl, rfl⟩
  refine AnyH.app ?_
  have ho1 := hu2.one
  have ho2 := hu2.cells1
  refine Tk 8 rfl rfl (pv_nilCheck rfl) rfl ?_
  refine Tk 9 rfl rfl (pv_fieldAddr0 rfl rfl) rfl ?_
  refine AnyH.one 10 (by kernel_rfl) ?_
  refine Turn.ef rfl rfl (ef_store1 rfl rfl (by first | rfl | assumption) (by first | rfl | assumption)) ?_ ?_
  ·
   rintro _ _ ⟨rfl, rfl⟩; infer_instance
  rintro _ _ ⟨rfl, rfl⟩
  refine AnyH.done (by kernel_rfl) ?_
  refine Ends.seq ?_
  refine Wp.seq ?_
  refine Wp.region ?_
  refine Ops.pv (pv_fieldAddr0 rfl rfl) rfl ?_
  refine Ops.pv (pv_load rfl rfl rfl) rfl ?_
  refine Ops.pv (pv_eql rfl rfl) rfl ?_
  refine Ops.nil ?_
  refine Ends.seq ?_
  refine Wp.cond_dect rfl (fun h4 => ?_) (fun h4 => ?_)
  ·
   obtain ⟨sb, tb, Ls, Lt, hS, hT, rfl⟩ := hC2
   rw [List.cons_append, List.append_assoc]
   refine AnyH.start (tkBlk tk cb (t.n - 1) u2 :: (b2, .cells (dget t.p.l s).1.cells.toArray 24) :: cBlk cb sb tb :: []) 10 rfl ?_
   refine Tk 0 rfl rfl (pv_move rfl) rfl ?_
   refine Tk 1 rfl rfl (pv_nilCheck rfl) rfl ?_
   refine Tk 2 rfl rfl (pv_fieldAddr0 rfl rfl) rfl ?_
   refine Tk 3 rfl rfl (pv_load rfl rfl rfl) rfl ?_
   refine Tk 4 rfl rfl (pv_nilCheck rfl) rfl ?_
   refine Tk 5 rfl rfl (pv_fieldAddr0 rfl rfl) rfl ?_
   refine Tk 6 rfl rfl (pv_loadK [_] rfl rfl rfl ⟨rfl, trivial⟩) rfl ?_
   refine Tk 7 rfl rfl (pv_fieldAddr0 rfl rfl) rfl ?_
   refine Tk 8 rfl rfl (pv_load rfl rfl rfl) rfl ?_
   refine AnyH.one 9 (by kernel_rfl) ?_
   refine Turn.ef rfl rfl (ef_call (tr_smClear _ sb Ls hS (dget t.p.l s).1.object) rfl rfl) ?_ ?_
   ·
    rintro _ _ ⟨_, R2, ⟨rfl, hS2⟩, rfl, rfl⟩; infer_instance
   rintro _ _ ⟨_, R2, ⟨rfl, hS2⟩, rfl, rfl⟩
   refine AnyH.app ?_
   skip
   refine AnyH.done (by kernel_rfl) ?_
   have hsok := stepT_ok hok s
   have he := stepT_c (t := t) (s := s) (Decidable.not_not.1 (by assumption)) (by assumption)
   rw [he] at hsok ⊢
   exact Ends.finE (L' := tkBlk tk cb (t.n - 1) u2 :: (K2 ++ (cBlk cb sb tb :: (R2 ++ Lt)))) (res0 rfl) ⟨rfl, by omega, u2, K2, (cBlk cb sb tb :: (R2 ++ Lt)), ⟨⟨_, _, _, _, hS2, hT, rfl⟩, by rw [cel_app, cel_one1]; simpa using hu2, hsok, by simp only [List.length_append, List.length_singleton]; omega⟩, rfl⟩
  refine Wp.skip ?_
  have hsok := stepT_ok hok s
  have he := stepT_f (t := t) (s := s) (Decidable.not_not.1 (by assumption)) (by assumption)
  rw [he] at hsok ⊢
  exact Ends.finE (L' := tkBlk tk cb (t.n - 1) u2 :: (K2 ++ Q1)) (res0 rfl) ⟨rfl, by omega, u2, K2, Q1, ⟨hC2, by rw [cel_app, cel_one1]; simpa using hu2, hsok, by simp only [List.length_append, List.length_singleton]; omega⟩, rfl⟩
 refine Turn.ef rfl rfl (ef_allocK tyZ24 rfl) ?_ ?_
 ·
  rintro _ _ ⟨b5, rfl, rfl⟩; infer_instance
 rintro _ _ ⟨b5, rfl, rfl⟩
 refine AnyH.one 5 (by kernel_rfl) ?_
 refine Turn.ef rfl rfl (ef_call (tr_mTake n cb H t.p hC hn s) rfl rfl) ?_ ?_
 ·
  rintro _ _ ⟨_, Q2, ⟨rfl, hC2⟩, rfl, rfl⟩; infer_instance
 rintro _ _ ⟨_, Q2, ⟨rfl, hC2⟩, rfl, rfl⟩
 refine AnyH.app ?_
 rw [htf]
 refine Tk 6 rfl rfl (pv_move rfl) rfl ?_
 refine Tk 7 rfl rfl (pv_extract rfl rfl) rfl ?_
 refine Tk 8 rfl rfl (pv_extract rfl rfl) rfl ?_
 refine AnyH.one 10 (by kernel_rfl) ?_
 refine Turn.ef rfl rfl (ef_storeK rfl rfl rfl rfl) ?_ ?_
 ·
  rintro _ _ ⟨rfl, rfl⟩; infer_instance
 rintro _ _ ⟨rfl, rfl⟩
 refine Tk 11 rfl rfl (pv_assign rfl) rfl ?_
 refine AnyH.done (by kernel_rfl) ?_
 refine Ends.seq ?_
 refine Wp.seq ?_
 refine Wp.seq ?_
 refine Wp.region ?_
 refine Ops.pv (pv_move rfl) rfl ?_
 refine Ops.pv (pv_not_dec rfl) rfl ?_
 refine Ops.nil ?_
 refine Ends.seq ?_
 refine Wp.cond_dect rfl (fun h5 => ?_) (fun h5 => ?_)
 ·
  refine Wp.ret ?_
  refine Ends.then_ret ?_
  have hsok := stepT_ok hok s
  have he := stepT_n (t := t) (s := s) (by assumption)
  rw [he] at hsok ⊢
  exact Ends.retE (L' := tkBlk tk cb (t.n - 1) v :: (T ++ Q2)) (res0 rfl) ⟨rfl, by omega, v, T, Q2, ⟨hC2, hsl, hsok, by simp only [List.length_append, List.length_singleton]; omega⟩, rfl⟩
 refine Wp.skip ?_
 refine Ends.seq ?_
 refine Wp.seq ?_
 refine AnyH.start ((b5, .cells (dget t.p.l s).1.cells.toArray 24) :: []) 11 rfl ?_
 refine Tk 0 rfl rfl (pv_move rfl) rfl ?_
 refine Tk 1 rfl rfl (pv_move rfl) rfl ?_
 refine Tk 2 rfl rfl (pv_nilCheck rfl) rfl ?_
 refine Tk 3 rfl rfl (pv_fieldAddr0 rfl rfl) rfl ?_
 refine Tk 5 rfl rfl (pv_loadK [_, _, _, _, _, _] rfl rfl rfl ⟨rfl, rfl, rfl, rfl, rfl, rfl, trivial⟩) rfl ?_
 refine AnyH.two 4 6 (by kernel_rfl) ?_ ?_
 ·
  refine Turn.ef rfl rfl (ef_pv (pv_load rfl rfl rfl) rfl) ?_ ?_
  ·
   rintro _ _ ⟨rfl, rfl⟩; infer_instance
  rintro _ _ ⟨rfl, rfl⟩
  refine AnyH.one 6 (by kernel_rfl) ?_
  refine Turn.ef rfl rfl (ef_buildSlice1 (k := 6) rfl rfl rfl rfl rfl) ?_ ?_
  ·
   rintro _ _ ⟨b6, rfl, rfl⟩; infer_instance
  rintro _ _ ⟨b6, rfl, rfl⟩
  refine AnyH.one 7 (by kernel_rfl) ?_
  refine Turn.ef rfl rfl (ef_append (H := T) (xs := (dget t.p.l s).1.cells) rfl hsl rfl ⟨rfl, rfl, rfl, rfl, rfl, rfl, trivial⟩ rfl rfl rfl (by omega) (by omega) rfl rfl) ?_ ?_
  ·
   rintro _ _ ⟨u3, K3, hu3, rfl, rfl⟩; infer_instance
  rintro _ _ ⟨u3, K3, hu3, rfl, rfl⟩
  refine AnyH.app ?_
  have ho1 := hu3.one
  have ho2 := hu3.cells1
  refine Tk 8 rfl rfl (pv_nilCheck rfl) rfl ?_
  refine Tk 9 rfl rfl (pv_fieldAddr0 rfl rfl) rfl ?_
  refine AnyH.one 10 (by kernel_rfl) ?_
  refine Turn.ef rfl rfl (ef_store1 rfl rfl (by first | rfl | assumption) (by first | rfl | assumption)) ?_ ?_
  ·
   rintro _ _ ⟨rfl, rfl⟩; infer_instance
  rintro _ _ ⟨rfl, rfl⟩
  refine AnyH.done (by kernel_rfl) ?_
  refine Ends.seq ?_
  refine Wp.seq ?_
  refine Wp.region ?_
  refine Ops.pv (pv_fieldAddr0 rfl rfl) rfl ?_
  refine Ops.pv (pv_load rfl rfl rfl) rfl ?_
  refine Ops.pv (pv_eql rfl rfl) rfl ?_
  refine Ops.nil ?_
  refine Ends.seq ?_
  refine Wp.cond_dect rfl (fun h6 => ?_) (fun h6 => ?_)
  ·
   obtain ⟨sb, tb, Ls, Lt, hS, hT, rfl⟩ := hC2
   rw [List.cons_append, List.append_assoc]
   refine AnyH.start (tkBlk tk cb (t.n - 1) u3 :: (b5, .cells (dget t.p.l s).1.cells.toArray 24) :: cBlk cb sb tb :: []) 10 rfl ?_
   refine Tk 0 rfl rfl (pv_move rfl) rfl ?_
   refine Tk 1 rfl rfl (pv_nilCheck rfl) rfl ?_
   refine Tk 2 rfl rfl (pv_fieldAddr0 rfl rfl) rfl ?_
   refine Tk 3 rfl rfl (pv_load rfl rfl rfl) rfl ?_
   refine Tk 4 rfl rfl (pv_nilCheck rfl) rfl ?_
   refine Tk 5 rfl rfl (pv_fieldAddr0 rfl rfl) rfl ?_
   refine Tk 6 rfl rfl (pv_loadK [_] rfl rfl rfl ⟨rfl, trivial⟩) rfl ?_
   refine Tk 7 rfl rfl (pv_fieldAddr0 rfl rfl) rfl ?_
   refine Tk 8 rfl rfl (pv_load rfl rfl rfl) rfl ?_
   refine AnyH.one 9 (by kernel_rfl) ?_
   refine Turn.ef rfl rfl (ef_call (tr_smClear _ sb Ls hS (dget t.p.l s).1.object) rfl rfl) ?_ ?_
   ·
    rintro _ _ ⟨_, R3, ⟨rfl, hS2⟩, rfl, rfl⟩; infer_instance
   rintro _ _ ⟨_, R3, ⟨rfl, hS2⟩, rfl, rfl⟩
   refine AnyH.app ?_
   skip
   refine AnyH.done (by kernel_rfl) ?_
   have hsok := stepT_ok hok s
   have he := stepT_c (t := t) (s := s) (Decidable.not_not.1 (by assumption)) (by assumption)
   rw [he] at hsok ⊢
   exact Ends.finE (L' := tkBlk tk cb (t.n - 1) u3 :: (K3 ++ (cBlk cb sb tb :: (R3 ++ Lt)))) (res0 rfl) ⟨rfl, by omega, u3, K3, (cBlk cb sb tb :: (R3 ++ Lt)), ⟨⟨_, _, _, _, hS2, hT, rfl⟩, by rw [cel_app, cel_one1]; simpa using hu3, hsok, by simp only [List.length_append, List.length_singleton]; omega⟩, rfl⟩
  refine Wp.skip ?_
  have hsok := stepT_ok hok s
  have he := stepT_f (t := t) (s := s) (Decidable.not_not.1 (by assumption)) (by assumption)
  rw [he] at hsok ⊢
  exact Ends.finE (L' := tkBlk tk cb (t.n - 1) u3 :: (K3 ++ Q2)) (res0 rfl) ⟨rfl, by omega, u3, K3, Q2, ⟨hC2, by rw [cel_app, cel_one1]; simpa using hu3, hsok, by simp only [List.length_append, List.length_singleton]; omega⟩, rfl⟩
 refine Turn.ef rfl rfl (ef_buildSlice1 (k := 6) rfl rfl rfl rfl rfl) ?_ ?_
 ·
  rintro _ _ ⟨b7, rfl, rfl⟩; infer_instance
 rintro _ _ ⟨b7, rfl, rfl⟩
 refine AnyH.one 4 (by kernel_rfl) ?_
 refine Turn.ef rfl rfl (ef_pv (pv_load rfl rfl rfl) rfl) ?_ ?_
 ·
  rintro _ _ ⟨rfl, rfl⟩; infer_instance
 rintro _ _ ⟨rfl, rfl⟩
 refine AnyH.one 7 (by kernel_rfl) ?_
 refine Turn.ef rfl rfl (ef_append (H := T) (xs := (dget t.p.l s).1.cells) rfl hsl rfl ⟨rfl, rfl, rfl, rfl, rfl, rfl, trivial⟩ rfl rfl rfl (by omega) (by omega) rfl rfl) ?_ ?_
 ·
  rintro _ _ ⟨u4, K4, hu4, rfl, rfl⟩; infer_instance
 rintro _ _ ⟨u4, K4, hu4, rfl, rfl⟩
 refine AnyH.app ?_
 have ho1 := hu4.one
 have ho2 := hu4.cells1
 refine Tk 8 rfl rfl (pv_nilCheck rfl) rfl ?_
 refine Tk 9 rfl rfl (pv_fieldAddr0 rfl rfl) rfl ?_
 refine AnyH.one 10 (by kernel_rfl) ?_
 refine Turn.ef rfl rfl (ef_store1 rfl rfl (by first | rfl | assumption) (by first | rfl | assumption)) ?_ ?_
 ·
  rintro _ _ ⟨rfl, rfl⟩; infer_instance
 rintro _ _ ⟨rfl, rfl⟩
 refine AnyH.done (by kernel_rfl) ?_
 refine Ends.seq ?_
 refine Wp.seq ?_
 refine Wp.region ?_
 refine Ops.pv (pv_fieldAddr0 rfl rfl) rfl ?_
 refine Ops.pv (pv_load rfl rfl rfl) rfl ?_
 refine Ops.pv (pv_eql rfl rfl) rfl ?_
 refine Ops.nil ?_
 refine Ends.seq ?_
 refine Wp.cond_dect rfl (fun h7 => ?_) (fun h7 => ?_)
 ·
  obtain ⟨sb, tb, Ls, Lt, hS, hT, rfl⟩ := hC2
  rw [List.cons_append, List.append_assoc]
  refine AnyH.start (tkBlk tk cb (t.n - 1) u4 :: (b5, .cells (dget t.p.l s).1.cells.toArray 24) :: cBlk cb sb tb :: []) 10 rfl ?_
  refine Tk 0 rfl rfl (pv_move rfl) rfl ?_
  refine Tk 1 rfl rfl (pv_nilCheck rfl) rfl ?_
  refine Tk 2 rfl rfl (pv_fieldAddr0 rfl rfl) rfl ?_
  refine Tk 3 rfl rfl (pv_load rfl rfl rfl) rfl ?_
  refine Tk 4 rfl rfl (pv_nilCheck rfl) rfl ?_
  refine Tk 5 rfl rfl (pv_fieldAddr0 rfl rfl) rfl ?_
  refine Tk 6 rfl rfl (pv_loadK [_] rfl rfl rfl ⟨rfl, trivial⟩) rfl ?_
  refine Tk 7 rfl rfl (pv_fieldAddr0 rfl rfl) rfl ?_
  refine Tk 8 rfl rfl (pv_load rfl rfl rfl) rfl ?_
  refine AnyH.one 9 (by kernel_rfl) ?_
  refine Turn.ef rfl rfl (ef_call (tr_smClear _ sb Ls hS (dget t.p.l s).1.object) rfl rfl) ?_ ?_
  ·
   rintro _ _ ⟨_, R4, ⟨rfl, hS2⟩, rfl, rfl⟩; infer_instance
  rintro _ _ ⟨_, R4, ⟨rfl, hS2⟩, rfl, rfl⟩
  refine AnyH.app ?_
  skip
  refine AnyH.done (by kernel_rfl) ?_
  have hsok := stepT_ok hok s
  have he := stepT_c (t := t) (s := s) (Decidable.not_not.1 (by assumption)) (by assumption)
  rw [he] at hsok ⊢
  exact Ends.finE (L' := tkBlk tk cb (t.n - 1) u4 :: (K4 ++ (cBlk cb sb tb :: (R4 ++ Lt)))) (res0 rfl) ⟨rfl, by omega, u4, K4, (cBlk cb sb tb :: (R4 ++ Lt)), ⟨⟨_, _, _, _, hS2, hT, rfl⟩, by rw [cel_app, cel_one1]; simpa using hu4, hsok, by simp only [List.length_append, List.length_singleton]; omega⟩, rfl⟩
 refine Wp.skip ?_
 have hsok := stepT_ok hok s
 have he := stepT_f (t := t) (s := s) (Decidable.not_not.1 (by assumption)) (by assumption)
 rw [he] at hsok ⊢
 exact Ends.finE (L' := tkBlk tk cb (t.n - 1) u4 :: (K4 ++ Q2)) (res0 rfl) ⟨rfl, by omega, u4, K4, Q2, ⟨hC2, by rw [cel_app, cel_one1]; simpa using hu4, hsok, by simp only [List.length_append, List.length_singleton]; omega⟩, rfl⟩
def AwayP (n cb tk : Nat) (t : TS) (way : List SlotM) (s : SlotM) (G : Hp) (b : Bool) : Hp → Prop := fun L' => ∃ t' v' T' H', Away t way s b t' ∧ TkI n t' cb v' T' H' ∧ L' = tkBlk tk cb t'.n v' :: (T' ++ (H' ++ G))
def AwayC (mu : Nat) : Prop := ∀ (G : Hp) (n cb tk : Nat) (t : TS) (v : Value) (T H : Hp) (hI : TkI n t cb v T H) (hn : n ≤ 2 ^ 19) (a : Option Addr) (c : Nat) (l : List SlotM) (hv : View G 2 (.slice a l.length c) l.length (slotsCells l)) (s : SlotM) (hl : l.length + freeW t.p.l (l ++ [s]) ≤ 2 ^ 39), freeW t.p.l (l ++ [s]) < mu →
  TrE Try.prog 66 [tkP tk, slotV s, .slice a l.length c] (tkBlk tk cb t.n v :: (T ++ (H ++ G))) (fun u L' => u = .tuple #[] ∧ AwayP n cb tk t (l ++ [s]) s G true L') (fun c L' => c = spentC ∧ AwayP n cb tk t (l ++ [s]) s G false L')
set_option maxHeartbeats 8000000 in
theorem aw_step (mu : Nat) (ih : AwayC mu) (G : Hp) (n cb tk : Nat) (t : TS) (v : Value) (T H : Hp) (hI : TkI n t cb v T H) (hn : n ≤ 2 ^ 19) (a : Option Addr) (c : Nat) (l : List SlotM) (hv : View G 2 (.slice a l.length c) l.length (slotsCells l)) (sl : SlotM) (hl : l.length + freeW t.p.l (l ++ [sl]) ≤ 2 ^ 39) (hmu : freeW t.p.l (l ++ [sl]) ≤ mu) : TrE Try.prog 66 [tkP tk, slotV sl, .slice a l.length c] (tkBlk tk cb t.n v :: (T ++ (H ++ G))) (fun u L' => u = .tuple #[] ∧ AwayP n cb tk t (l ++ [sl]) sl G true L') (fun c L' => c = spentC ∧ AwayP n cb tk t (l ++ [sl]) sl G false L') := by
 refine TrE.enter Try.func66 rfl Try.ntmps66 rfl (fun W F => ?_)
 refine Wp.app ?_
 refine Wp.seq ?_
 refine Wp.region ?_
 refine Ops.ef rfl (ef_boxK rfl rfl) ?_
 rintro _ _ ⟨b1, rfl, rfl⟩
 refine Ops.nil ?_
 refine Ends.seq ?_
 refine Wp.cutK (σ := Option Addr × Nat × Hp) [(0, _), (4, _)] (fun s => [(6, .slice s.1 (l ++ [sl]).length s.2.1)]) (fun s => (b1, .cells [.int .i64 sl.1, .int .i64 sl.2].toArray 38) :: tkBlk tk cb t.n v :: (T ++ (H ++ (s.2.2 ++ (G ++ F))))) (fun s => Slc 38 2 (.slice s.1 (l ++ [sl]).length s.2.1) (l ++ [sl]).length (slotsCells (l ++ [sl])) s.2.2) ⟨rfl, rfl, trivial⟩ (fun _ KK hC0 => ?_) ?_
 ·
  dsimp only [List.cons_append, List.nil_append] at hC0
  refine AnyH.start ((b1, .cells [.int .i64 sl.1, .int .i64 sl.2].toArray 38) :: []) 6 rfl ?_
  refine Tk 0 rfl rfl (pv_move rfl) rfl ?_
  refine Tk 2 rfl rfl (pv_loadK [_, _] rfl rfl rfl ⟨rfl, rfl, trivial⟩) rfl ?_
  refine AnyH.two 1 3 (by kernel_rfl) ?_ ?_
  ·
   refine Turn.ef rfl rfl (ef_call (tr_slClone G a c l hv (by omega)) rfl rfl) ?_ ?_
   ·
    rintro _ _ ⟨_, _, ⟨C1, hc1, rfl⟩, rfl, rfl⟩; infer_instance
   rintro _ _ ⟨_, _, ⟨C1, hc1, rfl⟩, rfl, rfl⟩
   refine AnyH.app ?_
   refine AnyH.one 3 (by kernel_rfl) ?_
   refine Turn.ef rfl rfl (ef_buildSlice1 (k := 2) rfl rfl rfl rfl rfl) ?_ ?_
   ·
    rintro _ _ ⟨b2, rfl, rfl⟩; infer_instance
   rintro _ _ ⟨b2, rfl, rfl⟩
   refine AnyH.one 4 (by kernel_rfl) ?_
   refine Turn.ef rfl rfl (ef_append (H := C1) (xs := slotCells sl) rfl hc1 rfl ⟨rfl, rfl, trivial⟩ rfl rfl rfl (by omega) (by omega) rfl rfl) ?_ ?_
   ·
    rintro _ _ ⟨u1, K1, hu1, rfl, rfl⟩; infer_instance
   rintro _ _ ⟨u1, K1, hu1, rfl, rfl⟩
   refine AnyH.app ?_
   have hW : Slc 38 2 u1 (l ++ [sl]).length (slotsCells (l ++ [sl])) K1 := by rw [slotsCells_app, List.length_append]; simpa [slotsCells] using hu1
   obtain ⟨pw, qw, rfl⟩ := hW.form
   refine Tk 5 rfl rfl (pv_assign rfl) rfl ?_
   refine AnyH.done (by kernel_rfl) ?_
   refine Ends.goes ?_
   refine Goes.back (hC0 (pw, qw, K1) hW) ⟨rfl, rfl, rfl, trivial⟩
  refine Turn.ef rfl rfl (ef_buildSlice1 (k := 2) rfl rfl rfl rfl rfl) ?_ ?_
  ·
   rintro _ _ ⟨b3, rfl, rfl⟩; infer_instance
  rintro _ _ ⟨b3, rfl, rfl⟩
  refine AnyH.one 1 (by kernel_rfl) ?_
  refine Turn.ef rfl rfl (ef_call (tr_slClone G a c l hv (by omega)) rfl rfl) ?_ ?_
  ·
   rintro _ _ ⟨_, _, ⟨C2, hc2, rfl⟩, rfl, rfl⟩; infer_instance
  rintro _ _ ⟨_, _, ⟨C2, hc2, rfl⟩, rfl, rfl⟩
  refine AnyH.app ?_
  refine AnyH.one 4 (by kernel_rfl) ?_
  refine Turn.ef rfl rfl (ef_append (H := C2) (xs := slotCells sl) rfl hc2 rfl ⟨rfl, rfl, trivial⟩ rfl rfl rfl (by omega) (by omega) rfl rfl) ?_ ?_
  ·
   rintro _ _ ⟨u2, K2, hu2, rfl, rfl⟩; infer_instance
  rintro _ _ ⟨u2, K2, hu2, rfl, rfl⟩
  refine AnyH.app ?_
  have hW : Slc 38 2 u2 (l ++ [sl]).length (slotsCells (l ++ [sl])) K2 := by rw [slotsCells_app, List.length_append]; simpa [slotsCells] using hu2
  obtain ⟨pw, qw, rfl⟩ := hW.form
  refine Tk 5 rfl rfl (pv_assign rfl) rfl ?_
  refine AnyH.done (by kernel_rfl) ?_
  refine Ends.goes ?_
  refine Goes.back (hC0 (pw, qw, K2) hW) ⟨rfl, rfl, rfl, trivial⟩
 rintro ⟨pw, qw, K1⟩ hW
 dsimp only [List.cons_append, List.nil_append] at ⊢
 dsimp only at hW ⊢
 have hvw := hW.view
 refine Wp.seq ?_
 refine Wp.block ?_
 refine Wp.loopK (σ := TS × Value × Hp × Hp) [(0, _), (4, _), (6, _)] (fun s => []) (fun s => (b1, .cells [.int .i64 sl.1, .int .i64 sl.2].toArray 38) :: tkBlk tk cb s.1.n s.2.1 :: (s.2.2.1 ++ (s.2.2.2 ++ (K1 ++ (G ++ F))))) (fun s => TkI n s.1 cb s.2.1 s.2.2.1 s.2.2.2 ∧ (∀ b t', Away s.1 (l ++ [sl]) sl b t' → Away t (l ++ [sl]) sl b t') ∧ freeW s.1.p.l (l ++ [sl]) ≤ freeW t.p.l (l ++ [sl])) (fun s => s.1.n) (t, v, T, H) ⟨hI, fun _ _ h => h, Nat.le_refl _⟩ ⟨rfl, rfl, rfl, trivial⟩ trivial (by intro w ho; (try dsimp only [List.nil_append, List.cons_append]); exact Drop.own ho) ?_
 rintro ⟨ti, vi, Ti, Hi⟩ KK ⟨hIi, hacc, hfr⟩ hK
 dsimp only [List.cons_append, List.nil_append] at hK ⊢
 dsimp only at hIi hacc hfr ⊢
 refine Wp.seq ?_
 refine Wp.seq ?_
 refine AnyH.start ((b1, .cells [.int .i64 sl.1, .int .i64 sl.2].toArray 38) :: tkBlk tk cb ti.n vi :: []) 13 rfl ?_
 refine Tk 0 rfl rfl (pv_move rfl) rfl ?_
 refine Tk 1 rfl rfl (pv_loadK [_, _] rfl rfl rfl ⟨rfl, rfl, trivial⟩) rfl ?_
 refine AnyH.one 2 (by kernel_rfl) ?_
 refine Turn.ef rfl rfl (ef_callr (tr_tkGet n cb tk ti.n vi Hi ti.p hIi.1 sl) rfl rfl) ?_ ?_
 ·
  rintro _ _ ⟨rfl, rfl⟩; infer_instance
 rintro _ _ ⟨rfl, rfl⟩
 refine Tk 3 rfl rfl (pv_field rfl rfl rfl) rfl ?_
 refine Tk 4 rfl rfl (pv_eql rfl rfl) rfl ?_
 refine Tk 5 rfl rfl (pv_move rfl) rfl ?_
 refine AnyH.split (t := 19) rfl (fun h1 => ?_) (fun h1 => ?_)
 ·
  refine Tk 6 rfl ⟨_, _, rfl, rfl, rfl⟩ (pv_move rfl) rfl ?_
  refine Tk 7 rfl ⟨_, _, rfl, rfl, rfl⟩ (pv_nilCheck rfl) rfl ?_
  refine Tk 8 rfl ⟨_, _, rfl, rfl, rfl⟩ (pv_fieldAddr0 rfl rfl) rfl ?_
  refine Tk 9 rfl ⟨_, _, rfl, rfl, rfl⟩ (pv_load rfl rfl rfl) rfl ?_
  refine Tk 10 rfl ⟨_, _, rfl, rfl, rfl⟩ (pv_loadK [_, _] rfl rfl rfl ⟨rfl, rfl, trivial⟩) rfl ?_
  refine AnyH.one 11 (by kernel_rfl) ?_
  refine Turn.ef rfl ⟨_, _, rfl, rfl, rfl⟩ (ef_callr (tr_rFinal n cb Hi ti.p hIi.1 sl) rfl rfl) ?_ ?_
  ·
   rintro _ _ ⟨rfl, rfl⟩; infer_instance
  rintro _ _ ⟨rfl, rfl⟩
  refine Tk 12 rfl rfl (pv_pick_true rfl rfl) rfl ?_
  refine AnyH.done (by kernel_rfl) ?_
  refine Ends.seq ?_
  refine Wp.cond_dect rfl (fun h2 => ?_) (fun h2 => ?_)
  ·
   have hkf : (dget ti.p.l sl).1.kind = 2 ∧ fin ti.p.l sl := by first | assumption | exact ⟨by assumption, by assumption⟩
   have hie : innerM ti.p.l (l ++ [sl]) sl = firstIn ti.p.l (l ++ [sl]) (dget ti.p.l sl).1.object := by unfold innerM; rw [if_pos hkf]
   refine Wp.skip ?_
   refine Ends.seq ?_
   refine Wp.block ?_
   refine Wp.seq ?_
   refine Wp.region ?_
   refine Ops.pv (pv_move rfl) rfl ?_
   refine Ops.pv (pv_move rfl) rfl ?_
   refine Ops.pv (pv_loadK [_, _] rfl rfl rfl ⟨rfl, rfl, trivial⟩) rfl ?_
   refine Ops.ef rfl (ef_callr (tr_tkGet n cb tk ti.n vi Hi ti.p hIi.1 sl) rfl rfl) ?_
   rintro _ _ ⟨rfl, rfl⟩
   refine Ops.pv (pv_field rfl rfl rfl) rfl ?_
   refine Ops.pv (pv_move rfl) rfl ?_
   refine Ops.ef rfl (ef_callr (tr_tkInner K1 n cb tk ti.n vi Hi ti.p hIi.1 hIi.2.2.1 (dget ti.p.l sl).1.object pw qw (l ++ [sl]) hvw (by rw [List.length_append, List.length_singleton]; omega)) rfl rfl) ?_
   rintro _ _ ⟨rfl, rfl⟩
   refine Ops.pv (pv_move rfl) rfl ?_
   refine Ops.pv (pv_extract rfl rfl) rfl ?_
   refine Ops.pv (pv_extract rfl rfl) rfl ?_
   refine Ops.ef rfl (ef_allocK tyZ38 rfl) ?_
   rintro _ _ ⟨b4, rfl, rfl⟩
   refine Ops.ef rfl (ef_storeK rfl rfl rfl rfl) ?_
   rintro _ _ ⟨rfl, rfl⟩
   refine Ops.pv (pv_assign rfl) rfl ?_
   refine Ops.nil ?_
   refine Ends.seq ?_
   refine Wp.seq ?_
   refine Wp.seq ?_
   refine Wp.region ?_
   refine Ops.pv (pv_move rfl) rfl ?_
   refine Ops.pv (pv_not rfl) rfl ?_
   refine Ops.nil ?_
   refine Ends.seq ?_
   refine Wp.cond_t rfl (fun h3 => ?_) (fun h3 => ?_)
   ·
    have hin : innerM ti.p.l (l ++ [sl]) sl = none := by rw [hie]; (rcases hq : firstIn ti.p.l (l ++ [sl]) (dget ti.p.l sl).1.object with _ | x <;> simp_all)
    refine Wp.exit ?_
    refine Ends.then_exit ?_
    refine Ends.block_miss rfl ?_
    refine Ends.then_exit ?_
    refine Ends.block_hit ?_
    refine Ends.seq ?_
    refine Wp.region ?_
    refine Ops.pv (pv_move rfl) rfl ?_
    refine Ops.pv (pv_loadK [_, _] rfl rfl rfl ⟨rfl, rfl, trivial⟩) rfl ?_
    refine Ops.efx rfl (efx_call (tr_tkStep n cb tk ti vi Ti Hi hIi hn sl) rfl rfl) ?_ ?_
    ·
     rintro _ _ ⟨_, ⟨rfl, hz, rfl⟩, rfl⟩
     exact ⟨tkBlk tk cb ti.n vi :: (Ti ++ (Hi ++ G)), ⟨rfl, ti, vi, Ti, Hi, hacc _ _ (Away.spent hin hz), hIi, rfl⟩, by (try simp only [List.cons_append, List.append_assoc]); infer_instance⟩
    rintro _ _ ⟨_, _, ⟨rfl, hn0, v2, T2, H2, hI2, rfl⟩, rfl, rfl⟩
    refine Ops.app ?_
    refine Ops.nil ?_
    exact Ends.finE (L' := tkBlk tk cb (stepT ti sl).n v2 :: (T2 ++ (H2 ++ G))) (res0 rfl) ⟨rfl, _, _, _, _, hacc _ _ (Away.step hin hn0), hI2, rfl⟩
   rcases hx : firstIn ti.p.l (l ++ [sl]) (dget ti.p.l sl).1.object with _ | x
   ·
    simp_all
   have hin := hie.trans hx
   have hlt := freeW_lt hIi.2.2.1.rel (innerM_some hin).2.1 (innerM_some hin).2.2.1
   try rw [hx]
   refine Wp.skip ?_
   refine Ends.seq ?_
   refine Wp.region ?_
   refine Ops.pv (pv_move rfl) rfl ?_
   refine Ops.pv (pv_loadK [_, _] rfl rfl rfl ⟨rfl, rfl, trivial⟩) rfl ?_
   refine Ops.pv (pv_move rfl) rfl ?_
   refine Ops.efx rfl (efx_call (ih K1 n cb tk ti vi Ti Hi hIi hn pw qw (l ++ [sl]) hvw x (by rw [List.length_append, List.length_singleton]; omega) (by omega)) rfl rfl) ?_ ?_
   ·
    rintro _ _ ⟨_, ⟨rfl, t2, v2, T2, H2, hA, hI2, rfl⟩, rfl⟩
    exact ⟨tkBlk tk cb t2.n v2 :: (T2 ++ (H2 ++ G)), ⟨rfl, t2, v2, T2, H2, hacc _ _ (Away.fall hin hA), hI2, rfl⟩, by (try simp only [List.cons_append, List.append_assoc]); infer_instance⟩
   rintro _ _ ⟨_, _, ⟨rfl, t2, v2, T2, H2, hA, hI2, rfl⟩, rfl, rfl⟩
   refine Ops.app ?_
   refine Ops.nil ?_
   refine Ends.block_normal ?_
   refine Ends.goes ?_
   refine Goes.back (hK (t2, v2, T2, H2) ⟨hI2, fun b t' h => hacc _ _ (Away.next hin hA h), Nat.le_trans (hA.free hIi.2.2.1 _) hfr⟩ (hA.le.2 rfl)) ⟨rfl, rfl, rfl, trivial⟩
  have hin : innerM ti.p.l (l ++ [sl]) sl = none := by unfold innerM; rw [if_neg (fun hh => by first | exact absurd hh (by assumption) | exact absurd hh.1 (by assumption) | exact absurd hh.2 (by assumption))]
  refine Wp.exit ?_
  refine Ends.then_exit ?_
  refine Ends.then_exit ?_
  refine Ends.block_hit ?_
  refine Ends.seq ?_
  refine Wp.region ?_
  refine Ops.pv (pv_move rfl) rfl ?_
  refine Ops.pv (pv_loadK [_, _] rfl rfl rfl ⟨rfl, rfl, trivial⟩) rfl ?_
  refine Ops.efx rfl (efx_call (tr_tkStep n cb tk ti vi Ti Hi hIi hn sl) rfl rfl) ?_ ?_
  ·
   rintro _ _ ⟨_, ⟨rfl, hz, rfl⟩, rfl⟩
   exact ⟨tkBlk tk cb ti.n vi :: (Ti ++ (Hi ++ G)), ⟨rfl, ti, vi, Ti, Hi, hacc _ _ (Away.spent hin hz), hIi, rfl⟩, by (try simp only [List.cons_append, List.append_assoc]); infer_instance⟩
  rintro _ _ ⟨_, _, ⟨rfl, hn0, v2, T2, H2, hI2, rfl⟩, rfl, rfl⟩
  refine Ops.app ?_
  refine Ops.nil ?_
  exact Ends.finE (L' := tkBlk tk cb (stepT ti sl).n v2 :: (T2 ++ (H2 ++ G))) (res0 rfl) ⟨rfl, _, _, _, _, hacc _ _ (Away.step hin hn0), hI2, rfl⟩
 have hin : innerM ti.p.l (l ++ [sl]) sl = none := by unfold innerM; rw [if_neg (fun hh => by first | exact absurd hh (by assumption) | exact absurd hh.1 (by assumption) | exact absurd hh.2 (by assumption))]
 refine Ts 6 rfl ⟨_, _, rfl, rfl, rfl⟩ rfl ?_
 refine Ts 7 rfl ⟨_, _, rfl, rfl, rfl⟩ rfl ?_
 refine Ts 8 rfl ⟨_, _, rfl, rfl, rfl⟩ rfl ?_
 refine Ts 9 rfl ⟨_, _, rfl, rfl, rfl⟩ rfl ?_
 refine Ts 10 rfl ⟨_, _, rfl, rfl, rfl⟩ rfl ?_
 refine Ts 11 rfl ⟨_, _, rfl, rfl, rfl⟩ rfl ?_
 refine Tk 12 rfl rfl (pv_pick_false rfl rfl) rfl ?_
 refine AnyH.done (by kernel_rfl) ?_
 refine Ends.seq ?_
 refine Wp.cond_false rfl ?_
 refine Wp.exit ?_
 refine Ends.then_exit ?_
 refine Ends.then_exit ?_
 refine Ends.block_hit ?_
 refine Ends.seq ?_
 refine Wp.region ?_
 refine Ops.pv (pv_move rfl) rfl ?_
 refine Ops.pv (pv_loadK [_, _] rfl rfl rfl ⟨rfl, rfl, trivial⟩) rfl ?_
 refine Ops.efx rfl (efx_call (tr_tkStep n cb tk ti vi Ti Hi hIi hn sl) rfl rfl) ?_ ?_
 ·
  rintro _ _ ⟨_, ⟨rfl, hz, rfl⟩, rfl⟩
  exact ⟨tkBlk tk cb ti.n vi :: (Ti ++ (Hi ++ G)), ⟨rfl, ti, vi, Ti, Hi, hacc _ _ (Away.spent hin hz), hIi, rfl⟩, by (try simp only [List.cons_append, List.append_assoc]); infer_instance⟩
 rintro _ _ ⟨_, _, ⟨rfl, hn0, v2, T2, H2, hI2, rfl⟩, rfl, rfl⟩
 refine Ops.app ?_
 refine Ops.nil ?_
 exact Ends.finE (L' := tkBlk tk cb (stepT ti sl).n v2 :: (T2 ++ (H2 ++ G))) (res0 rfl) ⟨rfl, _, _, _, _, hacc _ _ (Away.step hin hn0), hI2, rfl⟩
theorem tr_tkAway : ∀ mu, AwayC mu
  | 0 => fun G n cb tk t v T H hI hn a c l hv s hl hm => absurd hm (Nat.not_lt_zero _)
  | mu + 1 => fun G n cb tk t v T H hI hn a c l hv s hl hm => aw_step mu (tr_tkAway mu) G n cb tk t v T H hI hn a c l hv s hl (by omega)
end Go.Proofs.Ytdodfnjmkpgdbaa
end
section
set_option linter.unusedVariables false
set_option linter.unusedSimpArgs false
set_option linter.unusedSectionVars false
namespace Go.Proofs.Ytdodfnjmkpgdbaa
open Go.SL
abbrev spV : Value := .iface 122 (.agg #[])
abbrev blk2 (b c : Nat) (x y : Value) : Hp := [(b, .cells [x].toArray 4), (c, .cells [y].toArray 28)]
theorem catch_rest {W : World} {L : Hp} {b c : Nat} {x y : Value} {c0 : Frame} {cs : List Frame} {u : FrameMode} (R : Ending → FrameMode → World → Prop) (hR : ∀ w, Own W w (blk2 b c (.bool false) (.int .i64 11) ++ L) → R (.returned (.tuple #[])) u w) (c1 c2 : Code) (hb : Try.f84.body = some (c1.seq c2)) :
    Wp Try.prog W (fun e a w => bodyPostS Try.prog Try.f84 c0 cs R e a ({ c0 with mode := u } :: cs) w) 11 [] c2 ((5, spV) :: argsEnv 0 [.pointer (some ⟨b, 0, none⟩), .pointer (some ⟨c, 0, none⟩)]) (blk2 b c x y ++ L) := by
  cases hb
  refine Wp.block ?_
  refine Wp.seq ?_
  refine Wp.region ?_
  refine Ops.pv (pv_eql_iface rfl rfl) rfl ?_
  refine Ops.nil ?_
  refine Ends.seq ?_
  refine Wp.cond_false rfl ?_
  refine Wp.seq ?_
  refine Wp.region ?_
  refine Ops.pv (pv_tassert rfl rfl) rfl ?_
  refine Ops.pv (pv_extract rfl rfl) rfl ?_
  refine Ops.pv (pv_extract rfl rfl) rfl ?_
  refine Ops.nil ?_
  refine Ends.seq ?_
  refine Wp.cond_true rfl ?_
  refine Wp.seq ?_
  refine Wp.region ?_
  refine Ops.ef rfl (ef_allocK tyZ122 rfl) ?_
  rintro _ _ ⟨b1, rfl, rfl⟩
  refine Ops.ef rfl (ef_storeK rfl rfl rfl rfl) ?_
  rintro _ _ ⟨rfl, rfl⟩
  refine Ops.nil ?_
  refine Ends.seq ?_
  refine Wp.region ?_
  refine Ops.ef rfl (ef_store1 rfl rfl rfl rfl) ?_
  rintro _ _ ⟨rfl, rfl⟩
  refine Ops.ef rfl (ef_store1 rfl rfl rfl rfl) ?_
  rintro _ _ ⟨rfl, rfl⟩
  refine Ops.nil ?_
  refine Ends.block_normal ?_
  exact Ends.finS rfl fun w ho => hR w (Drop.own ho)
theorem catch_idle {W : World} {L : Hp} {c0 : Frame} {cs : List Frame} {u : FrameMode} {p q : Value} (R : Ending → FrameMode → World → Prop) (hR : ∀ w, Own W w L → R (.returned (.tuple #[])) u w) (c1 c2 : Code) (hb : Try.f84.body = some (c1.seq c2)) :
    Wp Try.prog W (fun e a w => bodyPostS Try.prog Try.f84 c0 cs R e a ({ c0 with mode := u } :: cs) w) 11 [] c2 ((5, .nilIface) :: argsEnv 0 [p, q]) L := by
  cases hb
  refine Wp.block ?_
  refine Wp.seq ?_
  refine Wp.region ?_
  refine Ops.pv (pv_eql_nilif rfl rfl) rfl ?_
  refine Ops.nil ?_
  refine Ends.seq ?_
  refine Wp.cond_true rfl ?_
  refine Wp.region ?_
  refine Ops.pv (pv_assign rfl) rfl ?_
  refine Ops.nil ?_
  refine Ends.block_normal ?_
  exact Ends.finS rfl fun w ho => hR w ho
theorem wp_of {P : Program} {W : World} {Q : Exit → Act → World → Prop} {n : Nat} {D : List Deferred} {c : Code} {E : Env} {L : Hp} {a : Act} {w : World} (h : Wp P W Q n D c E L) (hs : Sees n D E a) (ho : Own W w L) : c.wp P Q a w := by
 unfold Wp at h; exact h a w hs ho
theorem catch_p {W w : World} {L : Hp} {b c : Nat} {x y : Value} (ho : Own W w (blk2 b c x y ++ L)) : CallsD Try.prog 84 [Value.pointer (some ⟨b, 0, none⟩), .pointer (some ⟨c, 0, none⟩)].toArray (.panicking spentC) w (fun e u' w' => e = .returned (.tuple #[]) ∧ settle u' = .returning ∧ Own W w' (blk2 b c (.bool false) (.int .i64 11) ++ L)) := by
 refine callsD_of_wpS Try.func84 rfl fun c0 cs hu => ?_
 refine wpS_recover hu (wpS_of_wp ?_)
 exact wp_of (catch_rest _ (fun w hw => ⟨rfl, rfl, hw⟩) _ _ rfl) ((sees_start rfl).put rfl) ho
theorem catch_i {W w : World} {L : Hp} {p q : Value} (ho : Own W w L) : CallsD Try.prog 84 [p, q].toArray .returning w (fun e u' w' => e = .returned (.tuple #[]) ∧ settle u' = .returning ∧ Own W w' L) := by
 refine callsD_of_wpS Try.func84 rfl fun c0 cs hu => ?_
 refine wpS_recover0 hu (wpS_of_wp ?_)
 cases c0
 cases hu
 exact wp_of (catch_idle (u := .returning) (p := p) (q := q) _ (fun w hw => ⟨rfl, rfl, hw⟩) _ _ rfl) ((sees_start rfl).put rfl) ho
theorem tr_run (f : Nat) (cap : List Value) (tk : Value) (L : Hp) (R X : Hp → Prop) [GoFn Try.prog f] (ht : TrE Try.prog f cap L (fun u L' => u = .tuple #[] ∧ R L') (fun c L' => c = spentC ∧ X L')) :
    Tr Try.prog 64 [tk, .func (.func f) #[] cap.toArray] L (fun u L' => (u = .tuple #[.bool true, .int .i64 0] ∧ R L') ∨ (u = .tuple #[.bool false, .int .i64 11] ∧ X L')) := by
  refine Tr.enterD Try.func64 rfl Try.ntmps64 rfl (fun W F => ?_)
  refine Wp.app ?_
  refine Wp.seq ?_
  refine Wp.region ?_
  refine Ops.ef rfl (ef_alloc1 tyZ4 rfl rfl) ?_
  rintro _ _ ⟨b1, rfl, rfl⟩
  refine Ops.ef rfl (ef_alloc1 tyZ28 rfl rfl) ?_
  rintro _ _ ⟨b2, rfl, rfl⟩
  refine Ops.nil ?_
  refine Ends.seq ?_
  refine Wp.seq ?_
  refine Wp.region ?_
  refine Ops.pv (pv_makeFunc rfl rfl) rfl ?_
  refine Ops.defer rfl ?_
  refine Ops.nil ?_
  refine Ends.seq ?_
  refine Wp.seq ?_
  refine Wp.region ?_
  refine Ops.pv (pv_move rfl) rfl ?_
  refine Ops.efxq rfl (efx_callf (args := []) rfl rfl ht rfl) ?_ ?_
  · rintro _ a w _ hs ⟨L1, ⟨rfl, hX⟩, rfl⟩ ho
    exact leaves_one (L' := L1) hs (by simp) (catch_p (b := b1) (c := b2) (L := L1 ++ F) (x := .bool false) (y := .int .i64 0) (Drop.own ho : Own W w ((b1, .cells [.bool false].toArray 4) :: (b2, .cells [.int .i64 0].toArray 28) :: (L1 ++ F)))) (res_list (rs := [.cell 4 4, .cell 5 28]) rfl ⟨_, _, rfl, rv_cell rfl rfl rfl, ⟨_, _, rfl, rv_cell rfl rfl rfl, rfl⟩⟩ rfl) (.inr ⟨rfl, hX⟩)
  rintro _ _ ⟨_, L1, ⟨rfl, hR⟩, rfl, rfl⟩
  refine Ops.nil ?_
  refine Ends.seq ?_
  refine Wp.seq ?_
  refine Wp.region ?_
  refine Ops.ef rfl (ef_store1 rfl rfl rfl rfl) ?_
  rintro _ _ ⟨rfl, rfl⟩
  refine Ops.ef rfl (ef_store1 rfl rfl rfl rfl) ?_
  rintro _ _ ⟨rfl, rfl⟩
  refine Ops.nil ?_
  refine Ends.seq ?_
  refine Wp.ret ?_
  refine Ends.retD fun a w hs ho => ?_
  exact leaves_one (L' := L1) hs (by simp) (catch_i ho) (res_list (rs := [.cell 4 4, .cell 5 28]) rfl ⟨_, _, rfl, rv_cell rfl rfl rfl, ⟨_, _, rfl, rv_cell rfl rfl rfl, rfl⟩⟩ rfl) (.inl ⟨rfl, hR⟩)
end Go.Proofs.Ytdodfnjmkpgdbaa
end
section
set_option linter.unusedVariables false
set_option linter.unusedSimpArgs false
set_option linter.unusedSectionVars false
namespace Go.Proofs.Ytdodfnjmkpgdbaa
open Go.SL
theorem dfull_1024 {l : List DN} (h : HasS l) : (dfull l).length ≤ 1024 := by
 obtain ⟨S, hR⟩ := h
 rw [← rel_full hR]; exact full_len S
theorem rvErr_range {l : List DN} {s : SlotM} {k : Int} (h : rvErr l s k = 0) : 1 ≤ k ∧ k ≤ 1000 := by
 unfold rvErr at h
 split at h
 ·
  cases h
 omega
theorem kin_le {n : Nat} {p : PS} {cb : Nat} {H : Hp} (h : CapsH n p cb H) (hn : n ≤ 2 ^ 19) (s : SlotM) : (ftKin p.F s).length ≤ 2 ^ 40 := by
 obtain ⟨_, _, _, _, _, hT, _⟩ := h
 exact hT.kin_len s (by omega)
inductive RevW : TS → SlotM → Bool → TS → Prop
  | empty {t : TS} {s : SlotM} : (dget t.p.l s).1.kind = 0 → RevW t s true t
  | alone {t : TS} {s : SlotM} : (dget t.p.l s).1.kind ≠ 0 → ftKin t.p.F s = [] → RevW t s true t
  | fall {t t' : TS} {s x : SlotM} : (dget t.p.l s).1.kind ≠ 0 → (ftKin t.p.F s)[(ftKin t.p.F s).length - 1]? = some x → Away t [x] x false t' → RevW t s false t'
  | next {t t1 t' : TS} {s x : SlotM} {b : Bool} : (dget t.p.l s).1.kind ≠ 0 → (ftKin t.p.F s)[(ftKin t.p.F s).length - 1]? = some x → Away t [x] x true t1 → RevW t1 s b t' → RevW t s b t'
theorem tr_away1 (n cb tk : Nat) (t : TS) (v : Value) (T H : Hp) (hI : TkI n t cb v T H) (hn : n ≤ 2 ^ 19) (s : SlotM) :
    TrE Try.prog 66 [tkP tk, slotV s, .slice none 0 0] (tkBlk tk cb t.n v :: (T ++ H)) (fun u L' => u = .tuple #[] ∧ ∃ t' v' T' H', Away t [s] s true t' ∧ TkI n t' cb v' T' H' ∧ L' = tkBlk tk cb t'.n v' :: (T' ++ H')) (fun c L' => c = spentC ∧ ∃ t' v' T' H', Away t [s] s false t' ∧ TkI n t' cb v' T' H' ∧ L' = tkBlk tk cb t'.n v' :: (T' ++ H')) := by
  have h1 := freeW_le t.p.l [s]
  have h2 := dfull_1024 hI.2.2.1.rel
  have := tr_tkAway (freeW t.p.l [s] + 1) [] n cb tk t v T H hI hn none 0 [] (Slc.nil 38 2).view s (by simp only [List.length_nil, List.nil_append]; omega) (Nat.lt_succ_self _)
  simp only [AwayP, List.append_nil, List.nil_append] at this
  exact this
theorem tr_run2 (f : Nat) (cap : List Value) (tk : Value) (L : Hp) (RX : Bool → Hp → Prop) [GoFn Try.prog f] (ht : TrE Try.prog f cap L (fun u L' => u = .tuple #[] ∧ RX true L') (fun c L' => c = spentC ∧ RX false L')) :
    Tr Try.prog 64 [tk, .func (.func f) #[] cap.toArray] L (fun u L' => ∃ b : Bool, u = .tuple #[.bool b, .int .i64 (if b = true then 0 else 11)] ∧ RX b L') :=
  (tr_run f cap tk L (RX true) (RX false) ht).mono fun u L' h => by
    rcases h with ⟨rfl, h⟩ | ⟨rfl, h⟩
    · exact ⟨true, rfl, h⟩
    · exact ⟨false, rfl, h⟩
def DelX (n cb tk bt ba : Nat) (t : TS) (sl : SlotM) : Bool → Hp → Prop := fun b L' => ∃ t' v' T' H', Away t [sl] sl b t' ∧ TkI n t' cb v' T' H' ∧ L' = (bt, .cells [.pointer (some ⟨tk, 0, none⟩)].toArray 96) :: (ba, .cells [.int .i64 sl.1, .int .i64 sl.2].toArray 38) :: tkBlk tk cb t'.n v' :: (T' ++ H')
def RevX (n cb tk bt ba bc : Nat) (t : TS) (sl : SlotM) : Bool → Hp → Prop := fun b L' => ∃ t' v' T' H', RevW t sl b t' ∧ TkI n t' cb v' T' H' ∧ L' = (bt, .cells [.pointer (some ⟨tk, 0, none⟩)].toArray 96) :: (ba, .cells [.int .i64 sl.1, .int .i64 sl.2].toArray 38) :: (bc, .cells [.pointer (some ⟨cb, 0, none⟩)].toArray 26) :: tkBlk tk cb t'.n v' :: (T' ++ H')
theorem tr_del1 (n cb tk bt ba : Nat) (t : TS) (v : Value) (T H : Hp) (hI : TkI n t cb v T H) (hn : n ≤ 2 ^ 19) (sl : SlotM) : TrE Try.prog 65 [.pointer (some ⟨bt, 0, none⟩), .pointer (some ⟨ba, 0, none⟩)] ((bt, .cells [.pointer (some ⟨tk, 0, none⟩)].toArray 96) :: (ba, .cells [.int .i64 sl.1, .int .i64 sl.2].toArray 38) :: tkBlk tk cb t.n v :: (T ++ H)) (fun u L' => u = .tuple #[] ∧ DelX n cb tk bt ba t sl true L') (fun c L' => c = spentC ∧ DelX n cb tk bt ba t sl false L') := by
 refine TrE.enter Try.func65 rfl Try.ntmps65 rfl (fun W F => ?_)
 refine Wp.app ?_
 refine Wp.region ?_
 refine Ops.pv (pv_load rfl rfl rfl) rfl ?_
 refine Ops.pv (pv_loadK [_, _] rfl rfl rfl ⟨rfl, rfl, trivial⟩) rfl ?_
 refine Ops.efx rfl (efx_call (tr_away1 n cb tk t v T H hI hn sl) rfl rfl) ?_ ?_
 ·
  rintro _ _ ⟨_, ⟨rfl, t2, v2, T2, H2, hA, hI2, rfl⟩, rfl⟩
  exact ⟨(bt, .cells [.pointer (some ⟨tk, 0, none⟩)].toArray 96) :: (ba, .cells [.int .i64 sl.1, .int .i64 sl.2].toArray 38) :: tkBlk tk cb t2.n v2 :: (T2 ++ H2), ⟨rfl, t2, v2, T2, H2, hA, hI2, rfl⟩, by (try simp only [List.cons_append, List.append_assoc]); infer_instance⟩
 rintro _ _ ⟨_, _, ⟨rfl, t2, v2, T2, H2, hA, hI2, rfl⟩, rfl, rfl⟩
 refine Ops.app ?_
 refine Ops.nil ?_
 exact Ends.finE (L' := (bt, .cells [.pointer (some ⟨tk, 0, none⟩)].toArray 96) :: (ba, .cells [.int .i64 sl.1, .int .i64 sl.2].toArray 38) :: tkBlk tk cb t2.n v2 :: (T2 ++ H2)) (res0 rfl) ⟨rfl, t2, v2, T2, H2, hA, hI2, rfl⟩
set_option maxHeartbeats 4000000 in
theorem tr_rev1 (n cb tk bt ba bc : Nat) (t : TS) (v : Value) (T H : Hp) (hI : TkI n t cb v T H) (hn : n ≤ 2 ^ 19) (sl : SlotM) : TrE Try.prog 67 [.pointer (some ⟨bt, 0, none⟩), .pointer (some ⟨ba, 0, none⟩), .pointer (some ⟨bc, 0, none⟩)] ((bt, .cells [.pointer (some ⟨tk, 0, none⟩)].toArray 96) :: (ba, .cells [.int .i64 sl.1, .int .i64 sl.2].toArray 38) :: (bc, .cells [.pointer (some ⟨cb, 0, none⟩)].toArray 26) :: tkBlk tk cb t.n v :: (T ++ H)) (fun u L' => u = .tuple #[] ∧ RevX n cb tk bt ba bc t sl true L') (fun c L' => c = spentC ∧ RevX n cb tk bt ba bc t sl false L') := by
 refine TrE.enter Try.func67 rfl Try.ntmps67 rfl (fun W F => ?_)
 refine Wp.app ?_
 refine Wp.block ?_
 refine Wp.loopK (σ := TS × Value × Hp × Hp) [(0, _), (1, _), (2, _)] (fun s => []) (fun s => (bt, .cells [.pointer (some ⟨tk, 0, none⟩)].toArray 96) :: (ba, .cells [.int .i64 sl.1, .int .i64 sl.2].toArray 38) :: (bc, .cells [.pointer (some ⟨cb, 0, none⟩)].toArray 26) :: tkBlk tk cb s.1.n s.2.1 :: (s.2.2.1 ++ (s.2.2.2 ++ F))) (fun s => TkI n s.1 cb s.2.1 s.2.2.1 s.2.2.2 ∧ (∀ b t', RevW s.1 sl b t' → RevW t sl b t')) (fun s => s.1.n) (t, v, T, H) ⟨hI, fun _ _ h => h⟩ ⟨rfl, rfl, rfl, trivial⟩ trivial (by intro w ho; (try dsimp only [List.nil_append, List.cons_append]); exact Drop.own ho) ?_
 rintro ⟨ti, vi, Ti, Hi⟩ KK ⟨hIi, hacc⟩ hK
 dsimp only [List.cons_append, List.nil_append] at hK ⊢
 dsimp only at hIi hacc ⊢
 refine Wp.seq ?_
 refine Wp.seq ?_
 refine Wp.region ?_
 refine Ops.pv (pv_load rfl rfl rfl) rfl ?_
 refine Ops.pv (pv_loadK [_, _] rfl rfl rfl ⟨rfl, rfl, trivial⟩) rfl ?_
 refine Ops.ef rfl (ef_callr (tr_tkGet n cb tk ti.n vi Hi ti.p hIi.1 sl) rfl rfl) ?_
 rintro _ _ ⟨rfl, rfl⟩
 refine Ops.pv (pv_field rfl rfl rfl) rfl ?_
 refine Ops.pv (pv_neq rfl rfl) rfl ?_
 refine Ops.nil ?_
 refine Ends.seq ?_
 refine Wp.cond_dect rfl (fun h1 => ?_) (fun h1 => ?_)
 ·
  have hk0 : (dget ti.p.l sl).1.kind ≠ 0 := by assumption
  refine Wp.skip ?_
  refine Ends.seq ?_
  refine Wp.block ?_
  refine Wp.seq ?_
  refine Wp.region ?_
  refine Ops.pv (pv_load rfl rfl rfl) rfl ?_
  refine Ops.pv (pv_loadK [_, _] rfl rfl rfl ⟨rfl, rfl, trivial⟩) rfl ?_
  refine Ops.ef rfl (ef_call (tr_mKin n cb Hi ti.p hIi.1 (by omega) sl) rfl rfl) ?_
  rintro _ _ ⟨_, _, ⟨C1, hc1, rfl⟩, rfl, rfl⟩
  refine Ops.app ?_
  obtain ⟨pp1, qq1, rfl⟩ := hc1.form
  refine Ops.pv (pv_assign rfl) rfl ?_
  refine Ops.nil ?_
  refine Ends.seq ?_
  refine Wp.seq ?_
  refine Wp.seq ?_
  refine Wp.region ?_
  refine Ops.pv (pv_move rfl) rfl ?_
  refine Ops.pv (pv_len_slice (T := 41) rfl rfl) rfl ?_
  refine Ops.pv (pv_eql rfl rfl) rfl ?_
  refine Ops.nil ?_
  refine Ends.seq ?_
  refine Wp.cond_dect rfl (fun h2 => ?_) (fun h2 => ?_)
  ·
   refine Wp.ret ?_
   refine Ends.then_ret ?_
   refine Ends.block_ret ?_
   refine Ends.then_ret ?_
   refine Ends.block_ret ?_
   exact Ends.retE (L' := (bt, .cells [.pointer (some ⟨tk, 0, none⟩)].toArray 96) :: (ba, .cells [.int .i64 sl.1, .int .i64 sl.2].toArray 38) :: (bc, .cells [.pointer (some ⟨cb, 0, none⟩)].toArray 26) :: tkBlk tk cb ti.n vi :: (Ti ++ Hi)) (res0 rfl) ⟨rfl, ti, vi, Ti, Hi, hacc _ _ (RevW.alone hk0 (List.eq_nil_of_length_eq_zero (by omega))), hIi, rfl⟩
  have hl0 : (ftKin ti.p.F sl).length ≠ 0 := by omega
  have hkl := kin_le hIi.1 hn sl
  obtain ⟨x, hx⟩ : ∃ x, (ftKin ti.p.F sl)[(ftKin ti.p.F sl).length - 1]? = some x := ⟨_, List.getElem?_eq_getElem (by omega)⟩
  obtain ⟨bf, of, cap, cc, T0, f0, hv1, hbv, hr⟩ := hc1.view.open (by omega)
  cases hv1
  have hre := hr.sub (i := ((ftKin ti.p.F sl).length - 1) * 2) (l := 2)
  rw [slots_reads hx] at hre
  refine Wp.skip ?_
  refine Ends.seq ?_
  refine AnyH.start ((bt, .cells [.pointer (some ⟨tk, 0, none⟩)].toArray 96) :: C1) 8 rfl ?_
  refine Tk 0 rfl rfl (pv_load rfl rfl rfl) rfl ?_
  refine Tk 1 rfl rfl (pv_move rfl) rfl ?_
  refine Tk 2 rfl rfl (pv_move rfl) rfl ?_
  refine Tk 3 rfl rfl (pv_len_slice (T := 41) rfl rfl) rfl ?_
  refine Tk 4 rfl rfl (pv_sub rfl rfl (w64n (k := (ftKin ti.p.F sl).length - 1) (by omega) (by omega))) rfl ?_
  refine Tk 5 rfl rfl (pv_indexAddr (i := (ftKin ti.p.F sl).length - 1) rfl rfl rfl (by omega)) rfl ?_
  refine Tk 6 rfl rfl (pv_loadK [.int .i64 x.1, .int .i64 x.2] rfl rfl rfl hre) rfl ?_
  refine AnyH.one 7 (by kernel_rfl) ?_
  refine Turn.efx rfl rfl (efx_call (tr_away1 n cb tk ti vi Ti Hi hIi hn x) rfl rfl) ?_ ?_ ?_
  ·
   rintro _ _ ⟨_, ⟨rfl, t2, v2, T2, H2, hA, hI2, rfl⟩, rfl⟩
   exact ⟨(bt, .cells [.pointer (some ⟨tk, 0, none⟩)].toArray 96) :: (ba, .cells [.int .i64 sl.1, .int .i64 sl.2].toArray 38) :: (bc, .cells [.pointer (some ⟨cb, 0, none⟩)].toArray 26) :: tkBlk tk cb t2.n v2 :: (T2 ++ H2), ⟨rfl, t2, v2, T2, H2, hacc _ _ (RevW.fall hk0 hx hA), hI2, rfl⟩, by (try simp only [List.cons_append, List.append_assoc]); infer_instance⟩
  ·
   rintro _ _ ⟨_, _, ⟨rfl, t2, v2, T2, H2, hA, hI2, rfl⟩, rfl, rfl⟩; infer_instance
  rintro _ _ ⟨_, _, ⟨rfl, t2, v2, T2, H2, hA, hI2, rfl⟩, rfl, rfl⟩
  refine AnyH.app ?_
  refine AnyH.done (by kernel_rfl) ?_
  refine Ends.block_normal ?_
  refine Ends.goes ?_
  refine Goes.back (hK (t2, v2, T2, H2) ⟨hI2, fun b t' h => hacc _ _ (RevW.next hk0 hx hA h)⟩ (hA.le.2 rfl)) ⟨rfl, rfl, rfl, trivial⟩
 refine Wp.exit ?_
 refine Ends.then_exit ?_
 refine Ends.then_exit ?_
 refine Ends.block_hit ?_
 exact Ends.finE (L' := (bt, .cells [.pointer (some ⟨tk, 0, none⟩)].toArray 96) :: (ba, .cells [.int .i64 sl.1, .int .i64 sl.2].toArray 38) :: (bc, .cells [.pointer (some ⟨cb, 0, none⟩)].toArray 26) :: tkBlk tk cb ti.n vi :: (Ti ++ Hi)) (res0 rfl) ⟨rfl, ti, vi, Ti, Hi, hacc _ _ (RevW.empty (Decidable.not_not.1 (by assumption))), hIi, rfl⟩
set_option maxHeartbeats 4000000 in
theorem tr_rDelete (n cb : Nat) (H : Hp) (p : PS) (hC : CapsH n p cb H) (hok : POk p) (hn : n ≤ 2 ^ 19) (sl : SlotM) (k : Int) : Tr Try.prog 33 [cpP cb, slotV sl, .int .i64 k] (H) (fun u L' => (rvErr p.l sl k ≠ 0 ∧ u = .tuple #[.slice none 0 0, .bool false, .int .i64 (rvErr p.l sl k)] ∧ L' = H) ∨ (rvErr p.l sl k = 0 ∧ ∃ b t' v' T' H', Away ⟨p, [], k.toNat⟩ [sl] sl b t' ∧ TkI n t' cb v' T' H' ∧ u = .tuple #[v', .bool b, .int .i64 (if b = true then 0 else 11)] ∧ L' = T' ++ H')) := by
 refine Tr.enter Try.func33 rfl Try.ntmps33 rfl (fun W F => ?_)
 refine Wp.app ?_
 refine Wp.seq ?_
 refine Wp.region ?_
 refine Ops.ef rfl (ef_boxK rfl rfl) ?_
 rintro _ _ ⟨b1, rfl, rfl⟩
 refine Ops.pv (pv_assign rfl) rfl ?_
 refine Ops.pv (pv_assign rfl) rfl ?_
 refine Ops.pv (pv_assign rfl) rfl ?_
 refine Ops.nil ?_
 refine Ends.seq ?_
 refine Wp.seq ?_
 refine Wp.seq ?_
 refine Wp.region ?_
 refine Ops.pv (pv_move rfl) rfl ?_
 refine Ops.pv (pv_loadK [_, _] rfl rfl rfl ⟨rfl, rfl, trivial⟩) rfl ?_
 refine Ops.pv (pv_move rfl) rfl ?_
 refine Ops.ef rfl (ef_callr (tr_rCheck n cb H p hC sl k) rfl rfl) ?_
 rintro _ _ ⟨rfl, rfl⟩
 refine Ops.pv (pv_assign rfl) rfl ?_
 refine Ops.nil ?_
 refine Ends.seq ?_
 refine Wp.seq ?_
 refine Wp.region ?_
 refine Ops.pv (pv_move rfl) rfl ?_
 refine Ops.pv (pv_neq rfl rfl) rfl ?_
 refine Ops.nil ?_
 refine Ends.seq ?_
 refine Wp.cond_dect rfl (fun h1 => ?_) (fun h1 => ?_)
 ·
  refine Wp.seq ?_
  refine Wp.region ?_
  refine Ops.pv (pv_move rfl) rfl ?_
  refine Ops.pv (pv_assign rfl) rfl ?_
  refine Ops.pv (pv_assign rfl) rfl ?_
  refine Ops.pv (pv_assign rfl) rfl ?_
  refine Ops.nil ?_
  refine Ends.seq ?_
  refine Wp.ret ?_
  refine Ends.then_ret ?_
  exact Ends.ret (L' := H) (res3 rfl rfl rfl rfl) (.inl ⟨by assumption, rfl, rfl⟩)
 have hr0 : rvErr p.l sl k = 0 := Decidable.not_not.1 (by assumption)
 have hk := rvErr_range hr0
 obtain ⟨kn, rfl⟩ : ∃ j : Nat, k = j := ⟨k.toNat, by omega⟩
 have hI0 : TkI n (⟨p, [], kn⟩ : TS) cb (.slice none 0 0) [] H := ⟨hC, Slc.nil _ _, hok, by simp only [List.length_nil]; omega⟩
 refine Wp.skip ?_
 refine Ends.seq ?_
 refine Wp.seq ?_
 refine Wp.region ?_
 refine Ops.pv (pv_move rfl) rfl ?_
 refine Ops.pv (pv_move rfl) rfl ?_
 refine Ops.pv (pv_build rfl) rfl ?_
 refine Ops.ef rfl (ef_boxK rfl rfl) ?_
 rintro _ _ ⟨b2, rfl, rfl⟩
 refine Ops.ef rfl (ef_alloc1 tyZ96 rfl rfl) ?_
 rintro _ _ ⟨b3, rfl, rfl⟩
 refine Ops.ef rfl (ef_store1 rfl rfl (by first | rfl | assumption) (by first | rfl | assumption)) ?_
 rintro _ _ ⟨rfl, rfl⟩
 refine Ops.nil ?_
 refine Ends.seq ?_
 refine Wp.seq ?_
 refine Wp.region ?_
 refine Ops.pv (pv_load rfl rfl rfl) rfl ?_
 refine Ops.pv (pv_makeFunc rfl rfl) rfl ?_
 refine Ops.ef rfl (ef_call (tr_run2 65 [.pointer (some ⟨b3, 0, none⟩), .pointer (some ⟨b1, 0, none⟩)] (tkP b2) _ (DelX n cb b2 b3 b1 ⟨p, [], kn⟩ sl) (tr_del1 n cb b2 b3 b1 ⟨p, [], kn⟩ (.slice none 0 0) [] H hI0 hn sl)) rfl rfl) ?_
 rintro _ _ ⟨_, _, ⟨b, rfl, t2, v2, T2, H2, hA, hI2, rfl⟩, rfl, rfl⟩
 refine Ops.app ?_
 refine Ops.pv (pv_move rfl) rfl ?_
 refine Ops.pv (pv_extract rfl rfl) rfl ?_
 refine Ops.pv (pv_extract rfl rfl) rfl ?_
 refine Ops.pv (pv_assign rfl) rfl ?_
 refine Ops.pv (pv_assign rfl) rfl ?_
 refine Ops.nil ?_
 refine Ends.seq ?_
 refine Wp.seq ?_
 refine Wp.region ?_
 refine Ops.pv (pv_load rfl rfl rfl) rfl ?_
 refine Ops.pv (pv_nilCheck rfl) rfl ?_
 refine Ops.pv (pv_fieldAddr0 rfl rfl) rfl ?_
 refine Ops.pv (pv_load rfl rfl rfl) rfl ?_
 refine Ops.pv (pv_move rfl) rfl ?_
 refine Ops.pv (pv_move rfl) rfl ?_
 refine Ops.pv (pv_assign rfl) rfl ?_
 refine Ops.pv (pv_assign rfl) rfl ?_
 refine Ops.pv (pv_assign rfl) rfl ?_
 refine Ops.nil ?_
 refine Ends.seq ?_
 refine Wp.ret ?_
 have ho1 := hI2.2.1.one
 have ho2 := hI2.2.1.cells1
 exact Ends.ret (L' := T2 ++ H2) (res3 rfl rfl rfl rfl) (.inr ⟨hr0, b, t2, v2, T2, H2, hA, hI2, rfl, rfl⟩)
set_option maxHeartbeats 4000000 in
theorem tr_rRevoke (n cb : Nat) (H : Hp) (p : PS) (hC : CapsH n p cb H) (hok : POk p) (hn : n ≤ 2 ^ 19) (sl : SlotM) (k : Int) : Tr Try.prog 37 [cpP cb, slotV sl, .int .i64 k] (H) (fun u L' => (rvErr p.l sl k ≠ 0 ∧ u = .tuple #[.slice none 0 0, .bool false, .int .i64 (rvErr p.l sl k)] ∧ L' = H) ∨ (rvErr p.l sl k = 0 ∧ ∃ b t' v' T' H', RevW ⟨p, [], k.toNat⟩ sl b t' ∧ TkI n t' cb v' T' H' ∧ u = .tuple #[v', .bool b, .int .i64 (if b = true then 0 else 11)] ∧ L' = T' ++ H')) := by
 refine Tr.enter Try.func37 rfl Try.ntmps37 rfl (fun W F => ?_)
 refine Wp.app ?_
 refine Wp.seq ?_
 refine Wp.region ?_
 refine Ops.ef rfl (ef_box1 rfl rfl rfl) ?_
 rintro _ _ ⟨b1, rfl, rfl⟩
 refine Ops.ef rfl (ef_boxK rfl rfl) ?_
 rintro _ _ ⟨b2, rfl, rfl⟩
 refine Ops.pv (pv_assign rfl) rfl ?_
 refine Ops.pv (pv_assign rfl) rfl ?_
 refine Ops.pv (pv_assign rfl) rfl ?_
 refine Ops.nil ?_
 refine Ends.seq ?_
 refine Wp.seq ?_
 refine Wp.seq ?_
 refine Wp.region ?_
 refine Ops.pv (pv_load rfl rfl rfl) rfl ?_
 refine Ops.pv (pv_loadK [_, _] rfl rfl rfl ⟨rfl, rfl, trivial⟩) rfl ?_
 refine Ops.pv (pv_move rfl) rfl ?_
 refine Ops.ef rfl (ef_callr (tr_rCheck n cb H p hC sl k) rfl rfl) ?_
 rintro _ _ ⟨rfl, rfl⟩
 refine Ops.pv (pv_assign rfl) rfl ?_
 refine Ops.nil ?_
 refine Ends.seq ?_
 refine Wp.seq ?_
 refine Wp.region ?_
 refine Ops.pv (pv_move rfl) rfl ?_
 refine Ops.pv (pv_neq rfl rfl) rfl ?_
 refine Ops.nil ?_
 refine Ends.seq ?_
 refine Wp.cond_dect rfl (fun h1 => ?_) (fun h1 => ?_)
 ·
  refine Wp.seq ?_
  refine Wp.region ?_
  refine Ops.pv (pv_move rfl) rfl ?_
  refine Ops.pv (pv_assign rfl) rfl ?_
  refine Ops.pv (pv_assign rfl) rfl ?_
  refine Ops.pv (pv_assign rfl) rfl ?_
  refine Ops.nil ?_
  refine Ends.seq ?_
  refine Wp.ret ?_
  refine Ends.then_ret ?_
  exact Ends.ret (L' := H) (res3 rfl rfl rfl rfl) (.inl ⟨by assumption, rfl, rfl⟩)
 have hr0 : rvErr p.l sl k = 0 := Decidable.not_not.1 (by assumption)
 have hk := rvErr_range hr0
 obtain ⟨kn, rfl⟩ : ∃ j : Nat, k = j := ⟨k.toNat, by omega⟩
 have hI0 : TkI n (⟨p, [], kn⟩ : TS) cb (.slice none 0 0) [] H := ⟨hC, Slc.nil _ _, hok, by simp only [List.length_nil]; omega⟩
 refine Wp.skip ?_
 refine Ends.seq ?_
 refine Wp.seq ?_
 refine Wp.region ?_
 refine Ops.pv (pv_load rfl rfl rfl) rfl ?_
 refine Ops.pv (pv_move rfl) rfl ?_
 refine Ops.pv (pv_build rfl) rfl ?_
 refine Ops.ef rfl (ef_boxK rfl rfl) ?_
 rintro _ _ ⟨b3, rfl, rfl⟩
 refine Ops.ef rfl (ef_alloc1 tyZ96 rfl rfl) ?_
 rintro _ _ ⟨b4, rfl, rfl⟩
 refine Ops.ef rfl (ef_store1 rfl rfl (by first | rfl | assumption) (by first | rfl | assumption)) ?_
 rintro _ _ ⟨rfl, rfl⟩
 refine Ops.nil ?_
 refine Ends.seq ?_
 refine Wp.seq ?_
 refine Wp.region ?_
 refine Ops.pv (pv_load rfl rfl rfl) rfl ?_
 refine Ops.pv (pv_makeFunc rfl rfl) rfl ?_
 refine Ops.ef rfl (ef_call (tr_run2 67 [.pointer (some ⟨b4, 0, none⟩), .pointer (some ⟨b2, 0, none⟩), .pointer (some ⟨b1, 0, none⟩)] (tkP b3) _ (RevX n cb b3 b4 b2 b1 ⟨p, [], kn⟩ sl) (tr_rev1 n cb b3 b4 b2 b1 ⟨p, [], kn⟩ (.slice none 0 0) [] H hI0 hn sl)) rfl rfl) ?_
 rintro _ _ ⟨_, _, ⟨b, rfl, t2, v2, T2, H2, hA, hI2, rfl⟩, rfl, rfl⟩
 refine Ops.app ?_
 refine Ops.pv (pv_move rfl) rfl ?_
 refine Ops.pv (pv_extract rfl rfl) rfl ?_
 refine Ops.pv (pv_extract rfl rfl) rfl ?_
 refine Ops.pv (pv_assign rfl) rfl ?_
 refine Ops.pv (pv_assign rfl) rfl ?_
 refine Ops.nil ?_
 refine Ends.seq ?_
 refine Wp.seq ?_
 refine Wp.region ?_
 refine Ops.pv (pv_load rfl rfl rfl) rfl ?_
 refine Ops.pv (pv_nilCheck rfl) rfl ?_
 refine Ops.pv (pv_fieldAddr0 rfl rfl) rfl ?_
 refine Ops.pv (pv_load rfl rfl rfl) rfl ?_
 refine Ops.pv (pv_move rfl) rfl ?_
 refine Ops.pv (pv_move rfl) rfl ?_
 refine Ops.pv (pv_assign rfl) rfl ?_
 refine Ops.pv (pv_assign rfl) rfl ?_
 refine Ops.pv (pv_assign rfl) rfl ?_
 refine Ops.nil ?_
 refine Ends.seq ?_
 refine Wp.ret ?_
 have ho1 := hI2.2.1.one
 have ho2 := hI2.2.1.cells1
 exact Ends.ret (L' := T2 ++ H2) (res3 rfl rfl rfl rfl) (.inr ⟨hr0, b, t2, v2, T2, H2, hA, hI2, rfl, rfl⟩)
end Go.Proofs.Ytdodfnjmkpgdbaa
end
section
set_option linter.unusedVariables false
set_option linter.unusedSimpArgs false
set_option linter.unusedSectionVars false
namespace Go.Proofs.Ytdodfnjmkpgdbaa
open Go.SL
theorem count_two {α : Type} {l : List α} (hn : l.Nodup) {q : α → Bool} {a b : α} (ha : a ∈ l) (hb : b ∈ l) (hab : a ≠ b) (qa : q a = true) (qb : q b = true) : 2 ≤ l.countP q := by
 induction l with
 | nil => cases ha
 | cons c l ih =>
  rw [List.nodup_cons] at hn
  rw [List.countP_cons]
  rcases List.mem_cons.1 ha with rfl | ha1
  ·
   have hb' : b ∈ l := (List.mem_cons.1 hb).resolve_left (fun e => hab e.symm)
   have : 0 < l.countP q := List.countP_pos_iff.2 ⟨b, hb', qb⟩
   rw [if_pos qa]; omega
  ·
   rcases List.mem_cons.1 hb with rfl | hb1
   ·
    have : 0 < l.countP q := List.countP_pos_iff.2 ⟨a, ha1, qa⟩
    rw [if_pos qb]; omega
   ·
    have := ih hn.2 ha1 hb1; omega
theorem not_fin {p : PS} (h : POk p) {s x : SlotM} (hs : (dget p.l s).1.kind ≠ 0) (hsx : x ≠ s) (hk : (dget p.l x).1.kind = (dget p.l s).1.kind) (ho : (dget p.l x).1.object = (dget p.l s).1.object) : ¬ fin p.l x := fun hf => by
 have h2 := hf.2
 unfold dcount at h2
 have := count_two (dfull_nodup h.rel) (q := fun z => decide ((dget p.l z).1.kind = (dget p.l x).1.kind) && decide ((dget p.l z).1.object = (dget p.l x).1.object)) ((mem_dfull h.rel).2 (hk ▸ hs)) ((mem_dfull h.rel).2 hs) hsx (by simp) (by simp [hk, ho])
 omega
theorem kin_nodup {p : PS} (h : POk p) (s : SlotM) : (ftKin p.F s).Nodup := Fo.nd_sub h.nd
theorem kin_not {p : PS} (h : POk p) (s : SlotM) : s ∉ ftKin p.F s := Fo.sub_self h.nd
theorem kin_nf {p : PS} (h : WOk p) {s x : SlotM} (hx : x ∈ ftKin p.F s) : ¬ fin p.l x := by
 have hw := h.weak s x hx
 have hs : (dget p.l s).1.kind ≠ 0 := (h.ok.on s).1 (kin_in hx).1
 exact not_fin h.ok hs (fun e => kin_not h.ok s (e ▸ hx)) hw.2.2.1 hw.2.2.2.1
theorem away_nf {t t' : TS} {way : List SlotM} {x : SlotM} {b : Bool} (h : Away t way x b t') (hf : ¬ fin t.p.l x) : if t.n = 0 then b = false ∧ t' = t else b = true ∧ t' = ⟨(mTake t.p x).2.2, t.told, t.n - 1⟩ := by
 have hin : innerM t.p.l way x = none := by unfold innerM; rw [if_neg (fun k => hf k.2)]
 cases h with
 | spent _ h0 => rw [if_pos h0]; exact ⟨rfl, rfl⟩
 | step _ h0 => rw [if_neg h0]; exact ⟨rfl, stepT_n hf⟩
 | fall h2 _ => rw [hin] at h2; cases h2
 | next h2 _ _ => rw [hin] at h2; cases h2
def revS (p : PS) (s : SlotM) : Nat → PS
  | 0 => p
  | m + 1 => match (ftKin p.F s)[(ftKin p.F s).length - 1]? with
    | none => p
    | some x => revS (mTake p x).2.2 s m
theorem last_split {α : Type} {l : List α} {x : α} (h : l[l.length - 1]? = some x) : l = l.take (l.length - 1) ++ [x] ∧ 0 < l.length := by
 have h0 : 0 < l.length := by
  rcases Nat.eq_zero_or_pos l.length with e | e
  ·
   rw [List.eq_nil_of_length_eq_zero e] at h; simp at h
  ·
   exact e
 refine ⟨?_, h0⟩
 have h1 := List.take_add_one (l := l) (i := l.length - 1)
 rw [h, show l.length - 1 + 1 = l.length by omega, List.take_length] at h1
 exact h1
theorem kin_last {p : PS} (h : POk p) {s x : SlotM} (hx : (ftKin p.F s)[(ftKin p.F s).length - 1]? = some x) : ftKin (mTake p x).2.2.F s = (ftKin p.F s).take ((ftKin p.F s).length - 1) := by
 have hm := List.mem_of_getElem? hx
 obtain ⟨hs, h0⟩ := last_split hx
 have hk : (dget p.l x).1.kind ≠ 0 := (h.on x).1 (kin_in hm).2
 rw [take_F h hk]
 show (Fo.sub s (p.F.drop x)).all = _
 rw [Fo.kin_drop h.nd (by rintro rfl; exact kin_not h _ hm)]
 show (ftKin p.F s).filter _ = _
 have hn := kin_nodup h s
 rw [hs] at hn
 have hd := List.nodup_append.1 hn
 have e1 : (ftKin p.F s).filter (fun z => decide (z ≠ x)) = ((ftKin p.F s).take ((ftKin p.F s).length - 1) ++ [x]).filter (fun z => decide (z ≠ x)) := by rw [← hs]
 rw [e1, List.filter_append]
 have e2 : [x].filter (fun z => decide (z ≠ x)) = [] := by simp
 have e3 : ((ftKin p.F s).take ((ftKin p.F s).length - 1)).filter (fun z => decide (z ≠ x)) = (ftKin p.F s).take ((ftKin p.F s).length - 1) :=
  List.filter_eq_self.2 fun z hz => decide_eq_true fun e => hd.2.2 z hz x (List.mem_singleton.2 rfl) e
 rw [e2, e3, List.append_nil]
theorem revS_ok {s : SlotM} : ∀ (m : Nat) {p : PS}, WOk p → WOk (revS p s m)
  | 0, _, h => h
  | m + 1, p, h => by
    unfold revS
    split
    · exact h
    · exact revS_ok m (h.take _)
theorem revS_kin {s : SlotM} : ∀ (m : Nat) {p : PS}, WOk p → ftKin (revS p s m).F s = (ftKin p.F s).take ((ftKin p.F s).length - m)
  | 0, p, h => by unfold revS; rw [Nat.sub_zero, List.take_length]
  | m + 1, p, h => by
    unfold revS
    split
    · rename_i hx
      have : ftKin p.F s = [] := by
        rcases Nat.eq_zero_or_pos (ftKin p.F s).length with e | e
        · exact List.eq_nil_of_length_eq_zero e
        · rw [List.getElem?_eq_getElem (by omega)] at hx; cases hx
      rw [this]; simp
    · rename_i x hx
      rw [revS_kin m (h.take x), kin_last h.ok hx, List.take_take, List.length_take]
      congr 1; omega
theorem revS_get {s : SlotM} : ∀ (m : Nat) {p : PS}, WOk p → ∀ z, dget (revS p s m).l z = if z ∈ (ftKin p.F s).drop ((ftKin p.F s).length - m) then (CapM.zero, 0) else dget p.l z
  | 0, p, h, z => by unfold revS; rw [Nat.sub_zero, List.drop_length]; simp
  | m + 1, p, h, z => by
    unfold revS
    split
    · rename_i hx
      have : ftKin p.F s = [] := by
        rcases Nat.eq_zero_or_pos (ftKin p.F s).length with e | e
        · exact List.eq_nil_of_length_eq_zero e
        · rw [List.getElem?_eq_getElem (by omega)] at hx; cases hx
      rw [this]; simp
    · rename_i x hx
      have hm := List.mem_of_getElem? hx
      have hk : (dget p.l x).1.kind ≠ 0 := (h.ok.on x).1 (kin_in hm).2
      obtain ⟨hsp, h0⟩ := last_split hx
      rw [revS_get m (h.take x), kin_last h.ok hx, List.length_take, take_F h.ok hk]
      show (if _ then _ else dget (dtake p.l x).2.2 z) = _
      rw [take_get h.ok.rel hk]
      have hdr : (ftKin p.F s).drop ((ftKin p.F s).length - (m + 1)) = ((ftKin p.F s).take ((ftKin p.F s).length - 1)).drop (min ((ftKin p.F s).length - 1) (ftKin p.F s).length - m) ++ [x] := by
        conv => lhs; arg 2; rw [hsp]
        rw [List.drop_append_of_le_length (by rw [List.length_take]; omega)]
        congr 2; omega
      rw [hdr]
      by_cases hz : z = x
      · subst hz; simp
      · simp [hz]
theorem revS_add {s : SlotM} : ∀ (m k : Nat) {p : PS}, revS (revS p s m) s k = revS p s (m + k)
  | 0, k, p => by rw [Nat.zero_add]; rfl
  | m + 1, k, p => by
    rw [show m + 1 + k = (m + k) + 1 by omega]
    cases hx : (ftKin p.F s)[(ftKin p.F s).length - 1]? with
    | none =>
      have e : ∀ j, revS p s j = p := fun j => by cases j with | zero => rfl | succ j => unfold revS; rw [hx]
      rw [e, e, e]
    | some x =>
      have e : ∀ j, revS p s (j + 1) = revS (mTake p x).2.2 s j := fun j => by conv => lhs; unfold revS; rw [hx]
      rw [e, e, revS_add m k]
theorem rev_eq {t t' : TS} {s : SlotM} {b : Bool} (h : RevW t s b t') (hw : WOk t.p) (hk : (dget t.p.l s).1.kind ≠ 0) :
    b = decide ((ftKin t.p.F s).length ≤ t.n) ∧ t' = ⟨revS t.p s (min t.n (ftKin t.p.F s).length), t.told, t.n - (ftKin t.p.F s).length⟩ := by
  induction h with
  | empty h0 => exact absurd h0 hk
  | @alone t s _ hn =>
    rw [hn]
    refine ⟨by simp, ?_⟩
    simp [revS]
  | @fall t t' s x _ hx ha =>
    have hm := List.mem_of_getElem? hx
    obtain ⟨hsp, h0⟩ := last_split hx
    have := away_nf ha (kin_nf hw hm)
    split at this
    · rename_i hz
      obtain ⟨_, rfl⟩ := this
      refine ⟨by rw [decide_eq_false (by omega)], ?_⟩
      rw [hz, Nat.zero_min, Nat.zero_sub]
      obtain ⟨p, told, n⟩ := t'
      dsimp only at hz; subst hz; rfl
    · exact absurd this.1 (by simp)
  | @next t t1 t' s x b _ hx ha _ ih =>
    have hm := List.mem_of_getElem? hx
    obtain ⟨hsp, h0⟩ := last_split hx
    have := away_nf ha (kin_nf hw hm)
    split at this
    · exact absurd this.1 (by simp)
    · rename_i hz
      obtain ⟨_, rfl⟩ := this
      have hkx : (dget t.p.l x).1.kind ≠ 0 := (hw.ok.on x).1 (kin_in hm).2
      have hks : (dget (mTake t.p x).2.2.l s).1.kind ≠ 0 := by
        rw [take_F hw.ok hkx]
        show (dget (dtake t.p.l x).2.2 s).1.kind ≠ 0
        rw [take_get hw.ok.rel hkx, if_neg (by rintro rfl; exact kin_not hw.ok _ hm)]; exact hk
      obtain ⟨i1, i2⟩ := ih (hw.take x) hks
      dsimp only at i1 i2
      rw [kin_last hw.ok hx, List.length_take] at i1 i2
      refine ⟨by rw [i1, decide_eq_decide]; omega, ?_⟩
      rw [i2]
      congr 1
      · rw [show min t.n (ftKin t.p.F s).length = min (t.n - 1) (min ((ftKin t.p.F s).length - 1) (ftKin t.p.F s).length) + 1 by omega]
        conv => rhs; unfold revS; rw [hx]
      · omega
end Go.Proofs.Ytdodfnjmkpgdbaa
end
section
set_option linter.unusedVariables false
set_option linter.unusedSimpArgs false
namespace Go.Proofs.Ytdodfnjmkpgdbaa
open Go.SL
theorem wfI {n : Int} (h : (Lit.int .i64 n).wf = true) : i64R n := by
 have h1 : IntKind.i64.min = -9223372036854775808 := by decide
 have h2 : IntKind.i64.max = 9223372036854775807 := by decide
 simp [Lit.wf, h1, h2] at h
 unfold i64R; omega
theorem wfU {n : Int} (h : (Lit.int .u64 n).wf = true) : u64R n := by
 have h1 : IntKind.u64.min = 0 := by decide
 have h2 : IntKind.u64.max = 18446744073709551615 := by decide
 simp [Lit.wf, h1, h2] at h
 unfold u64R; omega
structure OpC.Rg (o : OpC) : Prop where
  c : o.c.Rg
  rights : i64R o.rights
  badge : u64R o.badge
  guard : u64R o.guard
end Go.Proofs.Ytdodfnjmkpgdbaa
end
section
set_option linter.unusedVariables false
set_option linter.unusedSimpArgs false
set_option linter.unusedSectionVars false
namespace Go.Proofs.Ytdodfnjmkpgdbaa
open Go.SL
instance encCap : Enc CapM.cells 6 := ⟨fun _ => rfl, fun _ => rfl⟩
theorem caps_neq {l1 l2 : List CapM} {i : Nat} {a b : CapM} (h1 : l1[i]? = some a) (h2 : l2[i]? = some b) (h : a ≠ b) : ¬ l1 = l2 := fun e => by
 subst e; rw [h1] at h2; cases h2; exact h rfl
theorem list_same {α : Type} {l1 l2 : List α} (hl : l1.length = l2.length) (h : ∀ j, j < l1.length → l1[j]? = l2[j]?) : l1 = l2 := by
 refine List.ext_getElem? fun j => ?_
 by_cases hj : j < l1.length
 ·
  exact h j hj
 rw [List.getElem?_eq_none (by omega), List.getElem?_eq_none (by omega)]
theorem rvErr_0 {l : List DN} {s : SlotM} {k : Int} (hk : (dget l s).1.kind ≠ 0) (h1 : 1 ≤ k) (h2 : k ≤ 1000) : rvErr l s k = 0 := by
 unfold rvErr; rw [if_neg (by omega), if_neg (fun h => hk h.2), dget_le hk]
theorem tr_rRevokeW (n cb : Nat) (H : Hp) (p : PS) (hC : CapsH n p cb H) (hw : WOk p) (hn : n ≤ 2 ^ 19) (sl : SlotM) (hk : (dget p.l sl).1.kind ≠ 0) (k : Nat) (h1 : 1 ≤ k) (h2 : k ≤ 1000) :
    Tr Try.prog 37 [cpP cb, slotV sl, .int .i64 k] H (fun u L' => ∃ v' T' H', Slc 24 6 v' 0 [] T' ∧ CapsH n (revS p sl (min k (ftKin p.F sl).length)) cb H' ∧ u = .tuple #[v', .bool (decide ((ftKin p.F sl).length ≤ k)), .int .i64 (if (ftKin p.F sl).length ≤ k then 0 else 11)] ∧ L' = T' ++ H') :=
  (tr_rRevoke n cb H p hC hw.ok hn sl k).mono fun u L' h => by
    rcases h with ⟨h0, _⟩ | ⟨_, b, t', v', T', H', hR, hI, rfl, rfl⟩
    · exact absurd (rvErr_0 hk (by omega) (by omega)) h0
    · obtain ⟨rfl, rfl⟩ := rev_eq hR hw hk
      refine ⟨v', T', H', hI.2.1, hI.1, ?_, rfl⟩
      simp only [Int.toNat_natCast, decide_eq_true_eq]
theorem tr_rslot (k : Int) : TrR Try.prog 35 [.int .i64 k] ([]) (slotV (0, k)) := by
 refine Tr.enter Try.func35 rfl Try.ntmps35 rfl (fun W F => ?_)
 refine Wp.app ?_
 refine Wp.seq ?_
 refine Wp.region ?_
 refine Ops.ef rfl (ef_allocK tyZ38 rfl) ?_
 rintro _ _ ⟨b1, rfl, rfl⟩
 refine Ops.nil ?_
 refine Ends.seq ?_
 refine Wp.seq ?_
 refine Wp.region ?_
 refine Ops.pv (pv_move rfl) rfl ?_
 refine Ops.pv (pv_build rfl) rfl ?_
 refine Ops.ef rfl (ef_storeK rfl rfl rfl rfl) ?_
 rintro _ _ ⟨rfl, rfl⟩
 refine Ops.nil ?_
 refine Ends.seq ?_
 refine Wp.ret ?_
 exact Ends.ret (res_one rfl (rv_cellK [_, _] rfl rfl rfl ⟨rfl, rfl, trivial⟩)) ⟨rfl, rfl⟩
set_option maxHeartbeats 2000000 in
theorem tr_sameCaps (G : Hp) (a1 a2 : Option Addr) (c1 c2 : Nat) (l1 l2 : List CapM) (hv1 : View G 6 (.slice a1 l1.length c1) l1.length (cel CapM.cells l1)) (hv2 : View G 6 (.slice a2 l2.length c2) l2.length (cel CapM.cells l2)) (hl : l1.length ≤ 2 ^ 40) : TrR Try.prog 40 [.slice a1 l1.length c1, .slice a2 l2.length c2] (G) (.bool (decide (l1 = l2))) := by
 refine Tr.enter Try.func40 rfl Try.ntmps40 rfl (fun W F => ?_)
 refine Wp.app ?_
 refine Wp.seq ?_
 refine Wp.region ?_
 refine Ops.pv (pv_assign rfl) rfl ?_
 refine Ops.nil ?_
 refine Ends.seq ?_
 refine Wp.seq ?_
 refine Wp.seq ?_
 refine Wp.region ?_
 refine Ops.pv (pv_move rfl) rfl ?_
 refine Ops.pv (pv_len_slice (T := 63) rfl rfl) rfl ?_
 refine Ops.pv (pv_move rfl) rfl ?_
 refine Ops.pv (pv_len_slice (T := 63) rfl rfl) rfl ?_
 refine Ops.pv (pv_neq rfl rfl) rfl ?_
 refine Ops.nil ?_
 refine Ends.seq ?_
 refine Wp.cond_dect rfl (fun h1 => ?_) (fun h1 => ?_)
 ·
  refine Wp.seq ?_
  refine Wp.region ?_
  refine Ops.pv (pv_assign rfl) rfl ?_
  refine Ops.nil ?_
  refine Ends.seq ?_
  refine Wp.ret ?_
  refine Ends.then_ret ?_
  exact Ends.ret (res1 rfl rfl) ⟨by rw [decide_eq_false (fun e => by subst e; omega)], rfl⟩
 refine Wp.skip ?_
 refine Ends.seq ?_
 refine Wp.seq ?_
 refine Wp.seq ?_
 refine Wp.region ?_
 refine Ops.pv (pv_assign rfl) rfl ?_
 refine Ops.nil ?_
 refine Ends.seq ?_
 refine Wp.block ?_
 refine Wp.loopK (σ := Nat) [(0, _), (1, _)] (fun s => [(5, .int .i64 s)]) (fun s => G ++ F) (fun s => s ≤ l1.length ∧ ∀ j, j < s → l1[j]? = l2[j]?) (fun s => l1.length - s) 0 ⟨Nat.zero_le _, fun j hj => absurd hj (Nat.not_lt_zero j)⟩ ⟨rfl, rfl, trivial⟩ ⟨rfl, trivial⟩ (by intro w ho; (try dsimp only [List.nil_append, List.cons_append]); exact Drop.own ho) ?_
 rintro i KK ⟨hi, hn⟩ hK
 dsimp only [List.cons_append, List.nil_append] at hK ⊢
 refine Wp.seq ?_
 refine Wp.seq ?_
 refine Wp.region ?_
 refine Ops.pv (pv_move rfl) rfl ?_
 refine Ops.pv (pv_move rfl) rfl ?_
 refine Ops.pv (pv_len_slice (T := 63) rfl rfl) rfl ?_
 refine Ops.pv (pv_lss rfl rfl) rfl ?_
 refine Ops.nil ?_
 refine Ends.seq ?_
 refine Wp.cond_dect rfl (fun h2 => ?_) (fun h2 => ?_)
 ·
  obtain ⟨b6, o6, cap6, cc6, T6, f6, hw6, hbv6, hr6⟩ := hv1.open (by omega)
  cases hw6
  obtain ⟨s1, hs1⟩ : ∃ s, l1[i]? = some s := ⟨_, List.getElem?_eq_getElem (by omega)⟩
  have hre1 := cel_reads hr6 hs1
  obtain ⟨b7, o7, cap7, cc7, T7, f7, hw7, hbv7, hr7⟩ := hv2.open (by omega)
  cases hw7
  obtain ⟨s2, hs2⟩ : ∃ s, l2[i]? = some s := ⟨_, List.getElem?_eq_getElem (by omega)⟩
  have hre2 := cel_reads hr7 hs2
  refine Wp.skip ?_
  refine Ends.seq ?_
  refine Wp.seq ?_
  refine Wp.block ?_
  refine Wp.seq ?_
  refine AnyH.start G 9 rfl ?_
  refine Tk 0 rfl rfl (pv_move rfl) rfl ?_
  refine Tk 1 rfl rfl (pv_move rfl) rfl ?_
  refine Tk 2 rfl rfl (pv_indexAddr (i := i) rfl rfl rfl (by omega)) rfl ?_
  refine Tk 3 rfl rfl (pv_loadK [.int .i64 s1.kind, .int .i64 s1.object, .int .i64 s1.rights, .int .u64 s1.badge, .int .u64 s1.guard, .int .i64 s1.bits] rfl rfl rfl hre1) rfl ?_
  refine Tk 4 rfl rfl (pv_move rfl) rfl ?_
  refine Tk 5 rfl rfl (pv_move rfl) rfl ?_
  refine Tk 6 rfl rfl (pv_indexAddr (i := i) rfl rfl rfl (by omega)) rfl ?_
  refine Tk 7 rfl rfl (pv_loadK [.int .i64 s2.kind, .int .i64 s2.object, .int .i64 s2.rights, .int .u64 s2.badge, .int .u64 s2.guard, .int .i64 s2.bits] rfl rfl rfl hre2) rfl ?_
  refine Tk 8 rfl rfl (pv_neq_cap (a := s1) (b := s2) rfl rfl) rfl ?_
  refine AnyH.done (by kernel_rfl) ?_
  refine Ends.seq ?_
  refine Wp.cond_dect rfl (fun h3 => ?_) (fun h3 => ?_)
  ·
   refine Wp.seq ?_
   refine Wp.region ?_
   refine Ops.pv (pv_assign rfl) rfl ?_
   refine Ops.nil ?_
   refine Ends.seq ?_
   refine Wp.ret ?_
   refine Ends.block_ret ?_
   refine Ends.then_ret ?_
   refine Ends.then_ret ?_
   refine Ends.block_ret ?_
   refine Ends.then_ret ?_
   exact Ends.ret (res1 rfl rfl) ⟨by rw [decide_eq_false (caps_neq hs1 hs2 (by assumption))], rfl⟩
  refine Wp.skip ?_
  refine Ends.block_normal ?_
  refine Ends.seq ?_
  refine Wp.region ?_
  refine Ops.pv (pv_move rfl) rfl ?_
  refine Ops.pv (pv_add rfl rfl (w64 (by omega) (by omega))) rfl ?_
  refine Ops.pv (pv_assign rfl) rfl ?_
  refine Ops.nil ?_
  refine Ends.goes ?_
  refine Goes.back (hK (i + 1) ⟨by omega, fun j hj => ?_⟩ (by omega)) ⟨rfl, rfl, rfl, trivial⟩
  rcases Nat.lt_succ_iff_lt_or_eq.1 hj with hj | rfl
  ·
   exact hn j hj
  rw [hs1, hs2, show s1 = s2 by simp_all]
 refine Wp.exit ?_
 refine Ends.then_exit ?_
 refine Ends.then_exit ?_
 refine Ends.block_hit ?_
 refine Ends.seq ?_
 refine Wp.seq ?_
 refine Wp.region ?_
 refine Ops.pv (pv_assign rfl) rfl ?_
 refine Ops.nil ?_
 refine Ends.seq ?_
 refine Wp.ret ?_
 exact Ends.ret (res1 rfl rfl) ⟨by rw [decide_eq_true (list_same (by omega) (fun j hj => hn j (by omega)))], rfl⟩
end Go.Proofs.Ytdodfnjmkpgdbaa
end
section
set_option linter.unusedVariables false
set_option linter.unusedSimpArgs false
set_option linter.unusedSectionVars false
namespace Go.Proofs.Ytdodfnjmkpgdbaa
open Go.SL
theorem wok_new : WOk PS.new := by
 have hz : ∀ s, (dget PS.new.l s).1 = CapM.zero := fun s => by simp [PS.new, dget, dcap?, dfind]
 refine ⟨⟨hasS_nil, List.nodup_nil, fun s => ?_⟩, fun s => ?_, fun t x hx => ?_⟩
 ·
  show s ∈ ([] : List SlotM) ↔ _
  rw [hz]; simp [CapM.zero]
 ·
  rw [hz]; exact zero_rg
 cases (kin_in hx).1
def rc : CapM := ⟨6, 9, 3, 0, 0, 0⟩
theorem rc_rg : rc.Rg := ⟨by unfold i64R rc; decide, by unfold u64R rc; decide, by unfold u64R rc; decide⟩
def ra1 : PS := (mNode PS.new 0 3).2
def ra2 : PS := (mPlant ra1 (0, 0) rc).2
def ra3 : PS := (mCopy ra2 (0, 0) (0, 1) 3).2
def ra4 : PS := (mCopy ra3 (0, 1) (0, 2) 1).2
def ra5 : PS := revS ra4 (0, 0) 1
def ra6 : PS := revS ra5 (0, 0) 1
def ra7 : PS := (mTake ra6 (0, 0)).2.2
theorem raw4 : WOk ra4 := (((wok_new.node 0 3).plant (0, 0) rc_rg).copy (0, 0) (0, 1) (by unfold i64R; decide)).copy (0, 1) (0, 2) (by unfold i64R; decide)
theorem raw5 : WOk ra5 := revS_ok 1 raw4
theorem raw6 : WOk ra6 := revS_ok 1 raw5
theorem rk4 : (dget ra4.l (0, 0)).1.kind = 6 := by kernel_rfl
theorem rk5 : (dget ra5.l (0, 0)).1.kind = 6 := by kernel_rfl
theorem rl4 : (ftKin ra4.F (0, 0)).length = 2 := by kernel_rfl
theorem rl5 : (ftKin ra5.F (0, 0)).length = 1 := by kernel_rfl
theorem rf4 : decide (fin ra4.l (0, 0)) = false := by kernel_rfl
theorem rf6 : decide (fin ra6.l (0, 0)) = true := by kernel_rfl
theorem rg6 : (dget ra6.l (0, 0)).1 = rc := by kernel_rfl
theorem rfl7 : dfull ra7.l = [] := by kernel_rfl
theorem rad1 : (dadd PS.new.l 0 3).1 = 0 := by kernel_rfl
theorem tr_rev4 {n cb : Nat} {H : Hp} (hC : CapsH n ra4 cb H) (hn : n ≤ 2 ^ 19) : Tr Try.prog 37 [cpP cb, slotV (0, 0), .int .i64 1] H (fun u L' => ∃ v' T' H', Slc 24 6 v' 0 [] T' ∧ CapsH n ra5 cb H' ∧ u = .tuple #[v', .bool false, .int .i64 11] ∧ L' = T' ++ H') :=
  (tr_rRevokeW n cb H ra4 hC raw4 hn (0, 0) (by rw [rk4]; decide) 1 (by decide) (by decide)).mono fun u L' ⟨v', T', H', h1, h2, h3, h4⟩ => ⟨v', T', H', h1, by rw [rl4] at h2; exact h2, by rw [rl4] at h3; exact h3, h4⟩
theorem tr_rev5 {n cb : Nat} {H : Hp} (hC : CapsH n ra5 cb H) (hn : n ≤ 2 ^ 19) : Tr Try.prog 37 [cpP cb, slotV (0, 0), .int .i64 1] H (fun u L' => ∃ v' T' H', Slc 24 6 v' 0 [] T' ∧ CapsH n ra6 cb H' ∧ u = .tuple #[v', .bool true, .int .i64 0] ∧ L' = T' ++ H') :=
  (tr_rRevokeW n cb H ra5 hC raw5 hn (0, 0) (by rw [rk5]; decide) 1 (by decide) (by decide)).mono fun u L' ⟨v', T', H', h1, h2, h3, h4⟩ => ⟨v', T', H', h1, by rw [rl5] at h2; exact h2, by rw [rl5] at h3; exact h3, h4⟩
theorem tr_del6 {n cb : Nat} {H : Hp} (hC : CapsH n ra6 cb H) (hn : n ≤ 2 ^ 19) : Tr Try.prog 33 [cpP cb, slotV (0, 0), .int .i64 9] H (fun u L' => ∃ v' T' H', Slc 24 6 v' [rc].length (cel CapM.cells [rc]) T' ∧ CapsH n ra7 cb H' ∧ u = .tuple #[v', .bool true, .int .i64 0] ∧ L' = T' ++ H') :=
  (tr_rDelete n cb H ra6 hC raw6.ok hn (0, 0) 9).mono fun u L' h => by
    have hk : (dget ra6.l (0, 0)).1.kind = 6 := by rw [rg6]; rfl
    rcases h with ⟨h0, _⟩ | ⟨_, b, t', v', T', H', hA, hI, rfl, rfl⟩
    · exact absurd (rvErr_0 (by rw [hk]; decide) (by decide) (by decide)) h0
    · have hin : innerM ra6.l [(0, 0)] (0, 0) = none := by unfold innerM; rw [if_neg (fun h => by rw [hk] at h; exact absurd h.1 (by decide))]
      cases hA with
      | spent _ h0 => exact absurd h0 (by decide)
      | step _ h0 =>
        have he := stepT_f (t := ⟨ra6, [], (9 : Int).toNat⟩) (s := (0, 0)) (of_decide_eq_true rf6) (by show ¬ (dget ra6.l (0, 0)).1.kind = 2; rw [hk]; decide)
        rw [he] at hI
        obtain ⟨h1, h2, _, _⟩ := hI
        simp only [rg6, List.nil_append] at h2
        exact ⟨v', T', H', h2, h1, rfl, rfl⟩
      | fall h2 _ => rw [hin] at h2; cases h2
      | next h2 _ _ => rw [hin] at h2; cases h2
set_option maxHeartbeats 4000000 in
theorem tr_rworks  : TrR Try.prog 32 [] ([]) (.bool true) := by
 refine Tr.enter Try.func32 rfl Try.ntmps32 rfl (fun W F => ?_)
 refine Wp.app ?_
 refine Wp.seq ?_
 refine Wp.region ?_
 refine Ops.pv (pv_assign rfl) rfl ?_
 refine Ops.nil ?_
 refine Ends.seq ?_
 refine Wp.seq ?_
 refine Wp.region ?_
 refine Ops.ef rfl (ef_call (tr_mNew) rfl rfl) ?_
 rintro _ _ ⟨_, _, ⟨cb1, rfl, ⟨sb0, tb0, Ls0, Lt0, hS0, hT0, rfl⟩⟩, rfl, rfl⟩
 refine Ops.app ?_
 refine Ops.pv (pv_assign rfl) rfl ?_
 refine Ops.nil ?_
 refine Ends.seq ?_
 refine Wp.seq ?_
 refine Wp.seq ?_
 refine Wp.region ?_
 refine Ops.pv (pv_move rfl) rfl ?_
 refine Ops.pv (pv_eql_nil rfl rfl) rfl ?_
 refine Ops.pv (pv_move rfl) rfl ?_
 refine Ops.pvg ⟨_, _, rfl, rfl, rfl⟩ (pv_move rfl) rfl ?_
 refine Ops.pvg ⟨_, _, rfl, rfl, rfl⟩ (pv_nilCheck rfl) rfl ?_
 refine Ops.pvg ⟨_, _, rfl, rfl, rfl⟩ (pv_fieldAddr0 rfl rfl) rfl ?_
 refine Ops.pvg ⟨_, _, rfl, rfl, rfl⟩ (pv_loadK [_] rfl rfl rfl ⟨rfl, trivial⟩) rfl ?_
 refine Ops.efg ⟨_, _, rfl, rfl, rfl⟩ (ef_call (tr_smNode _ sb0 Ls0 hS0 0 3) rfl rfl) ?_
 rintro _ _ ⟨_, Q1, ⟨rfl, hS2⟩, rfl, rfl⟩
 refine Ops.app ?_
 skip
 refine Ops.pvg ⟨_, _, rfl, rfl, rfl⟩ ((pv_neq rfl rfl).fls (fun h => h rad1)) rfl ?_
 refine Ops.pv (pv_pick_false rfl rfl) rfl ?_
 refine Ops.nil ?_
 refine Ends.seq ?_
 refine Wp.cond_false rfl ?_
 refine Wp.skip ?_
 refine Ends.seq ?_
 refine Wp.seq ?_
 refine Wp.region ?_
 refine Ops.pv (pv_build rfl) rfl ?_
 refine Ops.ef rfl (ef_allocK tyZ24 rfl) ?_
 rintro _ _ ⟨b1, rfl, rfl⟩
 refine Ops.ef rfl (ef_storeK rfl rfl rfl rfl) ?_
 rintro _ _ ⟨rfl, rfl⟩
 refine Ops.nil ?_
 refine Ends.seq ?_
 refine Wp.seq ?_
 refine AnyH.start ((b1, .cells [.int .i64 6, .int .i64 9, .int .i64 3, .int .u64 0, .int .u64 0, .int .i64 0].toArray 24) :: []) 4 rfl ?_
 refine Tk 0 rfl rfl (pv_move rfl) rfl ?_
 refine Tk 2 rfl rfl (pv_loadK [_, _, _, _, _, _] rfl rfl rfl ⟨rfl, rfl, rfl, rfl, rfl, rfl, trivial⟩) rfl ?_
 refine AnyH.one 1 (by kernel_rfl) ?_
 refine Turn.ef rfl rfl (ef_callr (tr_rslot _) rfl rfl) ?_ ?_
 ·
  rintro _ _ ⟨rfl, rfl⟩; infer_instance
 rintro _ _ ⟨rfl, rfl⟩
 refine AnyH.one 3 (by kernel_rfl) ?_
 refine Turn.ef rfl rfl (ef_call (tr_mPlant _ cb1 _ ra1 ⟨_, _, _, _, hS2, hT0, rfl⟩ (0, 0) rc) rfl rfl) ?_ ?_
 ·
  rintro _ _ ⟨_, _, ⟨rfl, ⟨sb2, tb2, Ls2, Lt2, hS2, hT2, rfl⟩⟩, rfl, rfl⟩; infer_instance
 rintro _ _ ⟨_, _, ⟨rfl, ⟨sb2, tb2, Ls2, Lt2, hS2, hT2, rfl⟩⟩, rfl, rfl⟩
 refine AnyH.app ?_
 refine AnyH.done (by kernel_rfl) ?_
 refine Ends.seq ?_
 refine Wp.seq ?_
 refine Wp.region ?_
 refine Ops.pv (pv_move rfl) rfl ?_
 refine Ops.ef rfl (ef_callr (tr_rslot _) rfl rfl) ?_
 rintro _ _ ⟨rfl, rfl⟩
 refine Ops.ef rfl (ef_callr (tr_rslot _) rfl rfl) ?_
 rintro _ _ ⟨rfl, rfl⟩
 refine Ops.ef rfl (ef_call (tr_mCopy _ cb1 _ ra2 ⟨_, _, _, _, hS2, hT2, rfl⟩ (by decide) (0, 0) (0, 1) 3) rfl rfl) ?_
 rintro _ _ ⟨_, _, ⟨rfl, ⟨sb2, tb2, Ls2, Lt2, hS2, hT2, rfl⟩⟩, rfl, rfl⟩
 refine Ops.app ?_
 refine Ops.nil ?_
 refine Ends.seq ?_
 refine Wp.seq ?_
 refine Wp.region ?_
 refine Ops.pv (pv_move rfl) rfl ?_
 refine Ops.ef rfl (ef_callr (tr_rslot _) rfl rfl) ?_
 rintro _ _ ⟨rfl, rfl⟩
 refine Ops.ef rfl (ef_callr (tr_rslot _) rfl rfl) ?_
 rintro _ _ ⟨rfl, rfl⟩
 refine Ops.ef rfl (ef_call (tr_mCopy _ cb1 _ ra3 ⟨_, _, _, _, hS2, hT2, rfl⟩ (by decide) (0, 1) (0, 2) 1) rfl rfl) ?_
 rintro _ _ ⟨_, _, ⟨rfl, ⟨sb2, tb2, Ls2, Lt2, hS2, hT2, rfl⟩⟩, rfl, rfl⟩
 refine Ops.app ?_
 refine Ops.nil ?_
 refine Ends.seq ?_
 refine Wp.seq ?_
 refine Wp.seq ?_
 refine Wp.region ?_
 refine Ops.pv (pv_move rfl) rfl ?_
 refine Ops.ef rfl (ef_callr (tr_rslot _) rfl rfl) ?_
 rintro _ _ ⟨rfl, rfl⟩
 refine Ops.ef rfl (ef_callr ((tr_rFinal _ cb1 _ ra4 ⟨_, _, _, _, hS2, hT2, rfl⟩ (0, 0)).eq (by rw [rf4])) rfl rfl) ?_
 rintro _ _ ⟨rfl, rfl⟩
 refine Ops.nil ?_
 refine Ends.seq ?_
 refine Wp.cond_false rfl ?_
 refine Wp.skip ?_
 refine Ends.seq ?_
 refine Wp.seq ?_
 refine Wp.region ?_
 refine Ops.pv (pv_move rfl) rfl ?_
 refine Ops.ef rfl (ef_callr (tr_rslot _) rfl rfl) ?_
 rintro _ _ ⟨rfl, rfl⟩
 refine Ops.ef rfl (ef_call (tr_rev4 ⟨_, _, _, _, hS2, hT2, rfl⟩ (by decide)) rfl rfl) ?_
 rintro _ _ ⟨_, _, ⟨v5, T5, H5, hs5, hC5, rfl, rfl⟩, rfl, rfl⟩
 refine Ops.app ?_
 refine Ops.pv (pv_move rfl) rfl ?_
 refine Ops.pv (pv_extract rfl rfl) rfl ?_
 refine Ops.pv (pv_extract rfl rfl) rfl ?_
 refine Ops.pv (pv_extract rfl rfl) rfl ?_
 refine Ops.pv (pv_assign rfl) rfl ?_
 refine Ops.pv (pv_assign rfl) rfl ?_
 refine Ops.pv (pv_assign rfl) rfl ?_
 refine Ops.nil ?_
 refine Ends.seq ?_
 refine Wp.seq ?_
 refine Wp.region ?_
 refine Ops.pv (pv_move rfl) rfl ?_
 refine Ops.ef rfl (ef_callr (tr_rslot _) rfl rfl) ?_
 rintro _ _ ⟨rfl, rfl⟩
 refine Ops.ef rfl (ef_call (tr_rev5 hC5 (by decide)) rfl rfl) ?_
 rintro _ _ ⟨_, _, ⟨v6, T6, H6, hs6, hC6, rfl, rfl⟩, rfl, rfl⟩
 refine Ops.app ?_
 refine Ops.pv (pv_move rfl) rfl ?_
 refine Ops.pv (pv_extract rfl rfl) rfl ?_
 refine Ops.pv (pv_extract rfl rfl) rfl ?_
 refine Ops.pv (pv_extract rfl rfl) rfl ?_
 refine Ops.pv (pv_assign rfl) rfl ?_
 refine Ops.pv (pv_assign rfl) rfl ?_
 refine Ops.pv (pv_assign rfl) rfl ?_
 refine Ops.nil ?_
 refine Ends.seq ?_
 refine Wp.seq ?_
 refine Wp.seq ?_
 refine Wp.region ?_
 refine Ops.pv (pv_move rfl) rfl ?_
 refine Ops.pv (pv_move rfl) rfl ?_
 refine Ops.pvg ⟨_, _, rfl, rfl, rfl⟩ (pv_move rfl) rfl ?_
 refine Ops.pvg ⟨_, _, rfl, rfl, rfl⟩ ((pv_neq rfl rfl).fls (by first | exact fun h => h rfl | decide | omega | assumption)) rfl ?_
 refine Ops.pv (pv_pick_false rfl rfl) rfl ?_
 refine Ops.pv (pv_move rfl) rfl ?_
 refine Ops.pvg ⟨_, _, rfl, rfl, rfl⟩ (pv_move rfl) rfl ?_
 refine Ops.pvg ⟨_, _, rfl, rfl, rfl⟩ (pv_not rfl) rfl ?_
 refine Ops.pv (pv_pick_false rfl rfl) rfl ?_
 refine Ops.pv (pv_move rfl) rfl ?_
 refine Ops.pvg ⟨_, _, rfl, rfl, rfl⟩ (pv_move rfl) rfl ?_
 refine Ops.pvg ⟨_, _, rfl, rfl, rfl⟩ ((pv_neq rfl rfl).fls (by first | exact fun h => h rfl | decide | omega | assumption)) rfl ?_
 refine Ops.pv (pv_pick_false rfl rfl) rfl ?_
 refine Ops.pv (pv_move rfl) rfl ?_
 refine Ops.pvg ⟨_, _, rfl, rfl, rfl⟩ (pv_move rfl) rfl ?_
 refine Ops.efg ⟨_, _, rfl, rfl, rfl⟩ (ef_callr (tr_rslot _) rfl rfl) ?_
 rintro _ _ ⟨rfl, rfl⟩
 refine Ops.efg ⟨_, _, rfl, rfl, rfl⟩ (ef_callr ((tr_rFinal _ cb1 _ ra6 hC6 (0, 0)).eq (by rw [rf6])) rfl rfl) ?_
 rintro _ _ ⟨rfl, rfl⟩
 refine Ops.pvg ⟨_, _, rfl, rfl, rfl⟩ (pv_not rfl) rfl ?_
 refine Ops.pv (pv_pick_false rfl rfl) rfl ?_
 refine Ops.nil ?_
 refine Ends.seq ?_
 refine Wp.cond_false rfl ?_
 refine Wp.skip ?_
 refine Ends.seq ?_
 refine Wp.seq ?_
 refine Wp.region ?_
 refine Ops.pv (pv_move rfl) rfl ?_
 refine Ops.ef rfl (ef_callr (tr_rslot _) rfl rfl) ?_
 rintro _ _ ⟨rfl, rfl⟩
 refine Ops.ef rfl (ef_call (tr_del6 hC6 (by decide)) rfl rfl) ?_
 rintro _ _ ⟨_, _, ⟨v7, T7, H7, hs7, ⟨sb7, tb7, Ls7, Lt7, hS7, hT7, rfl⟩, rfl, rfl⟩, rfl, rfl⟩
 refine Ops.app ?_
 obtain ⟨p7, q7, rfl⟩ := hs7.form
 refine Ops.pv (pv_move rfl) rfl ?_
 refine Ops.pv (pv_extract rfl rfl) rfl ?_
 refine Ops.pv (pv_extract rfl rfl) rfl ?_
 refine Ops.pv (pv_extract rfl rfl) rfl ?_
 refine Ops.pv (pv_assign rfl) rfl ?_
 refine Ops.pv (pv_assign rfl) rfl ?_
 refine Ops.pv (pv_assign rfl) rfl ?_
 refine Ops.nil ?_
 refine Ends.seq ?_
 refine Wp.seq ?_
 refine Wp.region ?_
 refine Ops.pv (pv_move rfl) rfl ?_
 refine Ops.pv (pv_loadK [_, _, _, _, _, _] rfl rfl rfl ⟨rfl, rfl, rfl, rfl, rfl, rfl, trivial⟩) rfl ?_
 refine Ops.ef rfl (ef_buildSlice1 (k := 6) rfl rfl rfl rfl rfl) ?_
 rintro _ _ ⟨b2, rfl, rfl⟩
 refine Ops.ef rfl (ef_callr ((tr_sameCaps (T7 ++ (b2, .cells [.int .i64 6, .int .i64 9, .int .i64 3, .int .u64 0, .int .u64 0, .int .i64 0].toArray 24) :: []) _ _ _ _ [rc] [rc] (hs7.view.mono (by intro p hp; simp [hp])) ((view_lit (n := 1) rfl).mono (by intro p hp; rw [List.mem_singleton] at hp; subst hp; exact List.mem_append_right _ (List.mem_singleton.2 rfl))) (by decide)).eq (r' := .bool true) (by rw [decide_eq_true rfl])) rfl rfl) ?_
 rintro _ _ ⟨rfl, rfl⟩
 refine Ops.pv (pv_move rfl) rfl ?_
 refine Ops.pvg ⟨_, _, rfl, rfl, rfl⟩ (pv_move rfl) rfl ?_
 refine Ops.pv (pv_pick_true rfl rfl) rfl ?_
 refine Ops.pv (pv_move rfl) rfl ?_
 refine Ops.pvg ⟨_, _, rfl, rfl, rfl⟩ (pv_move rfl) rfl ?_
 refine Ops.pvg ⟨_, _, rfl, rfl, rfl⟩ ((pv_eql rfl rfl).tru (by first | rfl | decide | omega | assumption | (simp; done) | (simp; omega))) rfl ?_
 refine Ops.pv (pv_pick_true rfl rfl) rfl ?_
 refine Ops.pv (pv_move rfl) rfl ?_
 refine Ops.pvg ⟨_, _, rfl, rfl, rfl⟩ (pv_move rfl) rfl ?_
 refine Ops.pvg ⟨_, _, rfl, rfl, rfl⟩ (pv_nilCheck rfl) rfl ?_
 refine Ops.pvg ⟨_, _, rfl, rfl, rfl⟩ (pv_fieldAddr0 rfl rfl) rfl ?_
 refine Ops.pvg ⟨_, _, rfl, rfl, rfl⟩ (pv_fieldAddr0 rfl rfl) rfl ?_
 refine Ops.pvg ⟨_, _, rfl, rfl, rfl⟩ (pv_load rfl rfl rfl) rfl ?_
 refine Ops.efg ⟨_, _, rfl, rfl, rfl⟩ (ef_call (sf_full hS7) rfl rfl) ?_
 rintro _ _ ⟨_, _, ⟨C1, hc1, rfl⟩, rfl, rfl⟩
 refine Ops.app ?_
 rw [rfl7] at hc1
 obtain ⟨pp1, qq1, rfl⟩ := hc1.form
 refine Ops.pvg ⟨_, _, rfl, rfl, rfl⟩ (pv_len_slice (T := 41) rfl rfl) rfl ?_
 refine Ops.pvg ⟨_, _, rfl, rfl, rfl⟩ ((pv_eql rfl rfl).tru (by first | rfl | decide | omega | assumption | (simp; done) | (simp; omega))) rfl ?_
 refine Ops.pv (pv_pick_true rfl rfl) rfl ?_
 refine Ops.pv (pv_assign rfl) rfl ?_
 refine Ops.nil ?_
 refine Ends.seq ?_
 refine Wp.ret ?_
 exact Ends.ret (res1 rfl rfl) ⟨rfl, rfl⟩
end Go.Proofs.Ytdodfnjmkpgdbaa
end
section
set_option linter.unusedVariables false
set_option linter.unusedSimpArgs false
set_option linter.unusedSectionVars false
namespace Go.Proofs.Ytdodfnjmkpgdbaa
open Go.SL
structure OpR where
  o : OpC
  steps : Int
def OpR.cells (x : OpR) : List Value := x.o.cells ++ [.int .i64 x.steps]
def nodesP : Nat → PS
  | 0 => PS.new
  | i + 1 => (mNode (nodesP i) i 3).2
theorem nodesP_wok : ∀ i, WOk (nodesP i)
  | 0 => wok_new
  | i + 1 => (nodesP_wok i).node i 3
def actR (p : PS) (x : OpC) : PS :=
  if x.kind = 2 then (mPlant p x.a x.c).2 else if x.kind = 4 then (mCopy p x.a x.b x.rights).2 else if x.kind = 5 then (mMint p x.a x.b x.rights x.badge x.guard x.bits).2 else if x.kind = 6 then (mMove p x.a x.b).2 else p
def madeTo (l : List OpR) : Nat → PS
  | 0 => nodesP 3
  | i + 1 => match l[i]? with
    | none => madeTo l i
    | some x => actR (madeTo l i) x.o
def madeP (l : List OpR) : PS := madeTo l (min l.length 50)
theorem actR_wok {p : PS} (h : WOk p) {x : OpC} (hx : x.Rg) : WOk (actR p x) := by
 unfold actR
 split
 ·
  exact h.plant _ hx.c
 split
 ·
  exact h.copy _ _ hx.rights
 split
 ·
  exact h.mint _ _ hx.rights hx.badge hx.guard
 split
 ·
  exact h.move _ _
 exact h
theorem madeTo_wok {l : List OpR} (hr : ∀ x, x ∈ l → OpC.Rg x.o) : ∀ i, WOk (madeTo l i)
  | 0 => nodesP_wok 3
  | i + 1 => by
    unfold madeTo
    split
    · exact madeTo_wok hr i
    · rename_i x hx; exact actR_wok (madeTo_wok hr i) (hr x (List.mem_of_getElem? hx))
set_option maxHeartbeats 8000000 in
theorem tr_rmade (G : Hp) (a : Option Addr) (c : Nat) (l : List OpR) (ha : ArgS G 19 a (l.map OpR.cells)) (hl : l.length ≤ maxLen) : Tr Try.prog 39 [.slice a l.length c] (G) (fun v L' => ∃ cb H, v = cpP cb ∧ CapsH 50 (madeP l) cb H ∧ L' = H ++ G) := by
 refine Tr.enter Try.func39 rfl Try.ntmps39 rfl (fun W F => ?_)
 refine Wp.app ?_
 refine Wp.seq ?_
 refine Wp.region ?_
 refine Ops.pv (pv_assign rfl) rfl ?_
 refine Ops.nil ?_
 refine Ends.seq ?_
 refine Wp.seq ?_
 refine Wp.region ?_
 refine Ops.ef rfl (ef_call (tr_mNew) rfl rfl) ?_
 rintro _ _ ⟨_, _, ⟨cb1, rfl, sb0, tb0, Ls0, Lt0, hS0, hT0, rfl⟩, rfl, rfl⟩
 refine Ops.app ?_
 refine Ops.pv (pv_assign rfl) rfl ?_
 refine Ops.nil ?_
 refine Ends.seq ?_
 refine Wp.seq ?_
 refine Wp.seq ?_
 refine Wp.region ?_
 refine Ops.pv (pv_assign rfl) rfl ?_
 refine Ops.nil ?_
 refine Ends.seq ?_
 refine Wp.block ?_
 refine Wp.loopK (σ := Nat × Hp) [(0, _), (3, _)] (fun s => [(4, .int .i64 s.1)]) (fun s => cBlk cb1 sb0 tb0 :: (s.2 ++ (Lt0 ++ (G ++ F)))) (fun s => s.1 ≤ 3 ∧ StF (nodesP s.1).l sb0 s.2) (fun s => 3 - s.1) (0, Ls0) ⟨Nat.zero_le _, hS0⟩ ⟨rfl, rfl, trivial⟩ ⟨rfl, trivial⟩ (by intro w ho; (try dsimp only [List.nil_append, List.cons_append]); exact Drop.own ho) ?_
 rintro ⟨j, Ln⟩ KK ⟨hj, hSn⟩ hK
 dsimp only [List.cons_append, List.nil_append] at hK ⊢
 dsimp only at hj hSn ⊢
 refine Wp.seq ?_
 refine Wp.seq ?_
 refine Wp.region ?_
 refine Ops.pv (pv_move rfl) rfl ?_
 refine Ops.pv (pv_lss rfl rfl) rfl ?_
 refine Ops.nil ?_
 refine Ends.seq ?_
 refine Wp.cond_dect rfl (fun h1 => ?_) (fun h1 => ?_)
 ·
  refine Wp.skip ?_
  refine Ends.seq ?_
  refine Wp.seq ?_
  refine Wp.block ?_
  refine Wp.region ?_
  refine Ops.pv (pv_move rfl) rfl ?_
  refine Ops.pv (pv_nilCheck rfl) rfl ?_
  refine Ops.pv (pv_fieldAddr0 rfl rfl) rfl ?_
  refine Ops.pv (pv_loadK [_] rfl rfl rfl ⟨rfl, trivial⟩) rfl ?_
  refine Ops.pv (pv_move rfl) rfl ?_
  refine Ops.ef rfl (ef_call (tr_smNode _ sb0 Ln hSn (j : Int) 3) rfl rfl) ?_
  rintro _ _ ⟨_, Q1, ⟨rfl, hS2⟩, rfl, rfl⟩
  refine Ops.app ?_
  skip
  refine Ops.nil ?_
  refine Ends.block_normal ?_
  refine Ends.seq ?_
  refine Wp.region ?_
  refine Ops.pv (pv_move rfl) rfl ?_
  refine Ops.pv (pv_add rfl rfl (w64n (k := j + 1) (by omega) (by omega))) rfl ?_
  refine Ops.pv (pv_assign rfl) rfl ?_
  refine Ops.nil ?_
  refine Ends.goes ?_
  refine Goes.back (hK (j + 1, Q1) ⟨by dsimp only; omega, hS2⟩ (by dsimp only; omega)) ⟨rfl, rfl, rfl, trivial⟩
 obtain rfl : j = 3 := by omega
 refine Wp.exit ?_
 refine Ends.then_exit ?_
 refine Ends.then_exit ?_
 refine Ends.block_hit ?_
 refine Ends.seq ?_
 refine Wp.seq ?_
 refine Wp.seq ?_
 refine Wp.region ?_
 refine Ops.pv (pv_assign rfl) rfl ?_
 refine Ops.nil ?_
 refine Ends.seq ?_
 refine Wp.block ?_
 refine Wp.loopK (σ := Nat × PS × Nat × Nat × Hp × Hp) [(0, _), (3, _)] (fun s => [(5, .int .i64 s.1)]) (fun s => cBlk cb1 s.2.2.1 s.2.2.2.1 :: (s.2.2.2.2.1 ++ (s.2.2.2.2.2 ++ (G ++ F)))) (fun s => s.1 ≤ l.length ∧ s.1 ≤ 50 ∧ StF s.2.1.l s.2.2.1 s.2.2.2.2.1 ∧ TrF s.1 s.2.1.F s.2.2.2.1 s.2.2.2.2.2 ∧ s.2.1 = madeTo l s.1) (fun s => l.length - s.1) (0, nodesP 3, sb0, tb0, Ln, Lt0) ⟨Nat.zero_le _, Nat.zero_le _, hSn, hT0, rfl⟩ ⟨rfl, rfl, trivial⟩ ⟨rfl, trivial⟩ (by intro w ho; (try dsimp only [List.nil_append, List.cons_append]); exact Drop.own ho) ?_
 rintro ⟨i, p, sb, tb, Ls, Lt⟩ KK ⟨hi, hi2, hS, hT, hpe⟩ hK
 dsimp only [List.cons_append, List.nil_append] at hK ⊢
 dsimp only at hi hi2 hS hT hpe ⊢
 refine Wp.seq ?_
 refine Wp.seq ?_
 refine Wp.region ?_
 refine Ops.pv (pv_move rfl) rfl ?_
 refine Ops.pv (pv_move rfl) rfl ?_
 refine Ops.pv (pv_len_slice (T := 71) rfl rfl) rfl ?_
 refine Ops.pv (pv_lss rfl rfl) rfl ?_
 refine Ops.pv (pv_move rfl) rfl ?_
 refine Ops.pvc rfl rfl (fun hg => pv_move rfl) rfl ?_
 refine Ops.pvc rfl rfl (fun hg => Pv.setE (t := 23) rfl (cv_pos hg) (pv_lss rfl rfl)) rfl ?_
 refine Ops.pv (pv_pick_and rfl rfl) rfl ?_
 refine Ops.nil ?_
 refine Ends.seq ?_
 refine Wp.cond_dect rfl (fun h2 => ?_) (fun h2 => ?_)
 ·
  obtain ⟨x, hq⟩ : ∃ x, l[i]? = some x := ⟨_, List.getElem?_eq_getElem (by omega)⟩
  obtain ⟨_, b, o, cc, T, f, rfl, hmm, hr⟩ := ha i x.cells (by rw [List.getElem?_map, hq]; rfl)
  have hbg : Blk G b (.cells cc.toArray T f) := ⟨hmm⟩
  refine Wp.skip ?_
  refine Ends.seq ?_
  refine Wp.seq ?_
  refine Wp.block ?_
  refine Wp.seq ?_
  refine Wp.region ?_
  refine Ops.pv (pv_move rfl) rfl ?_
  refine Ops.pv (pv_move rfl) rfl ?_
  refine Ops.pv (pv_indexAddr (i := i) rfl rfl rfl (by omega)) rfl ?_
  refine Ops.pv (pv_fieldAddr rfl rfl) rfl ?_
  refine Ops.pv (pv_loadK x.o.cells rfl rfl rfl ⟨hr.1, hr.2.1, hr.2.2.1, hr.2.2.2.1, hr.2.2.2.2.1, hr.2.2.2.2.2.1, hr.2.2.2.2.2.2.1, hr.2.2.2.2.2.2.2.1, hr.2.2.2.2.2.2.2.2.1, hr.2.2.2.2.2.2.2.2.2.1, hr.2.2.2.2.2.2.2.2.2.2.1, hr.2.2.2.2.2.2.2.2.2.2.2.1, hr.2.2.2.2.2.2.2.2.2.2.2.2.1, hr.2.2.2.2.2.2.2.2.2.2.2.2.2.1, hr.2.2.2.2.2.2.2.2.2.2.2.2.2.2.1, hr.2.2.2.2.2.2.2.2.2.2.2.2.2.2.2.1, hr.2.2.2.2.2.2.2.2.2.2.2.2.2.2.2.2.1, hr.2.2.2.2.2.2.2.2.2.2.2.2.2.2.2.2.2.1, trivial⟩) rfl ?_
  refine Ops.ef rfl (ef_allocK tyZ51 rfl) ?_
  rintro _ _ ⟨b1, rfl, rfl⟩
  refine Ops.ef rfl (ef_storeK rfl rfl rfl rfl) ?_
  rintro _ _ ⟨rfl, rfl⟩
  refine Ops.nil ?_
  refine Ends.seq ?_
  refine Wp.seq ?_
  refine Wp.region ?_
  refine Ops.pv (pv_fieldAddr0 rfl rfl) rfl ?_
  refine Ops.pv (pv_load rfl rfl rfl) rfl ?_
  refine Ops.nil ?_
  refine Ends.seq ?_
  refine Wp.block ?_
  refine Wp.seq ?_
  refine Wp.region ?_
  refine Ops.pv (pv_eql rfl rfl) rfl ?_
  refine Ops.pv (pv_assign rfl) rfl ?_
  refine Ops.nil ?_
  refine Ends.seq ?_
  refine Wp.cond_dect rfl (fun h3 => ?_) (fun h3 => ?_)
  ·
   refine Wp.region ?_
   refine Ops.pv (pv_move rfl) rfl ?_
   refine Ops.pv (pv_fieldAddr0 rfl rfl) rfl ?_
   refine Ops.pv (pv_loadK [_, _] rfl rfl rfl ⟨rfl, rfl, trivial⟩) rfl ?_
   refine Ops.pv (pv_fieldAddr0 rfl rfl) rfl ?_
   refine Ops.pv (pv_loadK [_, _, _, _, _, _] rfl rfl rfl ⟨rfl, rfl, rfl, rfl, rfl, rfl, trivial⟩) rfl ?_
   refine Ops.ef rfl (ef_call (tr_mPlant _ cb1 _ p ⟨_, _, _, _, hS, hT, rfl⟩ x.o.a x.o.c) rfl rfl) ?_
   rintro _ _ ⟨_, _, ⟨rfl, sb2, tb2, Ls2, Lt2, hS2, hT2, rfl⟩, rfl, rfl⟩
   refine Ops.app ?_
   refine Ops.nil ?_
   refine Ends.block_normal ?_
   refine Ends.block_normal ?_
   refine Ends.seq ?_
   refine Wp.region ?_
   refine Ops.pv (pv_move rfl) rfl ?_
   refine Ops.pv (pv_add rfl rfl (w64 (by omega) (by omega))) rfl ?_
   refine Ops.pv (pv_assign rfl) rfl ?_
   refine Ops.nil ?_
   refine Ends.goes ?_
   have he : actR p x.o = (mPlant p x.o.a x.o.c).2 := by unfold actR; simp_all
   refine Goes.back (hK (i + 1, (mPlant p x.o.a x.o.c).2, sb2, tb2, Ls2, Lt2) ⟨by dsimp only; omega, by dsimp only; omega, hS2, hT2.more (by omega), by dsimp only; unfold madeTo; rw [hq, ← hpe]; exact he.symm⟩ (by dsimp only; omega)) ⟨rfl, rfl, rfl, trivial⟩
  refine Wp.seq ?_
  refine Wp.region ?_
  refine Ops.pv (pv_eql rfl rfl) rfl ?_
  refine Ops.pv (pv_assign rfl) rfl ?_
  refine Ops.nil ?_
  refine Ends.seq ?_
  refine Wp.cond_dect rfl (fun h4 => ?_) (fun h4 => ?_)
  ·
   refine Wp.region ?_
   refine Ops.pv (pv_move rfl) rfl ?_
   refine Ops.pv (pv_fieldAddr0 rfl rfl) rfl ?_
   refine Ops.pv (pv_loadK [_, _] rfl rfl rfl ⟨rfl, rfl, trivial⟩) rfl ?_
   refine Ops.pv (pv_fieldAddr0 rfl rfl) rfl ?_
   refine Ops.pv (pv_loadK [_, _] rfl rfl rfl ⟨rfl, rfl, trivial⟩) rfl ?_
   refine Ops.pv (pv_fieldAddr0 rfl rfl) rfl ?_
   refine Ops.pv (pv_load rfl rfl rfl) rfl ?_
   refine Ops.ef rfl (ef_call (tr_mCopy _ cb1 _ p ⟨_, _, _, _, hS, hT, rfl⟩ (by omega) x.o.a x.o.b x.o.rights) rfl rfl) ?_
   rintro _ _ ⟨_, _, ⟨rfl, sb2, tb2, Ls2, Lt2, hS2, hT2, rfl⟩, rfl, rfl⟩
   refine Ops.app ?_
   refine Ops.nil ?_
   refine Ends.block_normal ?_
   refine Ends.block_normal ?_
   refine Ends.seq ?_
   refine Wp.region ?_
   refine Ops.pv (pv_move rfl) rfl ?_
   refine Ops.pv (pv_add rfl rfl (w64 (by omega) (by omega))) rfl ?_
   refine Ops.pv (pv_assign rfl) rfl ?_
   refine Ops.nil ?_
   refine Ends.goes ?_
   have he : actR p x.o = (mCopy p x.o.a x.o.b x.o.rights).2 := by unfold actR; simp_all
   refine Goes.back (hK (i + 1, (mCopy p x.o.a x.o.b x.o.rights).2, sb2, tb2, Ls2, Lt2) ⟨by dsimp only; omega, by dsimp only; omega, hS2, hT2.more (by omega), by dsimp only; unfold madeTo; rw [hq, ← hpe]; exact he.symm⟩ (by dsimp only; omega)) ⟨rfl, rfl, rfl, trivial⟩
  refine Wp.seq ?_
  refine Wp.region ?_
  refine Ops.pv (pv_eql rfl rfl) rfl ?_
  refine Ops.pv (pv_assign rfl) rfl ?_
  refine Ops.nil ?_
  refine Ends.seq ?_
  refine Wp.cond_dect rfl (fun h5 => ?_) (fun h5 => ?_)
  ·
   refine Wp.region ?_
   refine Ops.pv (pv_move rfl) rfl ?_
   refine Ops.pv (pv_fieldAddr0 rfl rfl) rfl ?_
   refine Ops.pv (pv_loadK [_, _] rfl rfl rfl ⟨rfl, rfl, trivial⟩) rfl ?_
   refine Ops.pv (pv_fieldAddr0 rfl rfl) rfl ?_
   refine Ops.pv (pv_loadK [_, _] rfl rfl rfl ⟨rfl, rfl, trivial⟩) rfl ?_
   refine Ops.pv (pv_fieldAddr0 rfl rfl) rfl ?_
   refine Ops.pv (pv_load rfl rfl rfl) rfl ?_
   refine Ops.pv (pv_fieldAddr0 rfl rfl) rfl ?_
   refine Ops.pv (pv_load rfl rfl rfl) rfl ?_
   refine Ops.pv (pv_fieldAddr0 rfl rfl) rfl ?_
   refine Ops.pv (pv_load rfl rfl rfl) rfl ?_
   refine Ops.pv (pv_fieldAddr0 rfl rfl) rfl ?_
   refine Ops.pv (pv_load rfl rfl rfl) rfl ?_
   refine Ops.ef rfl (ef_call (tr_mMint _ cb1 _ p ⟨_, _, _, _, hS, hT, rfl⟩ (by omega) x.o.a x.o.b x.o.rights x.o.badge x.o.guard x.o.bits) rfl rfl) ?_
   rintro _ _ ⟨_, _, ⟨rfl, sb2, tb2, Ls2, Lt2, hS2, hT2, rfl⟩, rfl, rfl⟩
   refine Ops.app ?_
   refine Ops.nil ?_
   refine Ends.block_normal ?_
   refine Ends.block_normal ?_
   refine Ends.seq ?_
   refine Wp.region ?_
   refine Ops.pv (pv_move rfl) rfl ?_
   refine Ops.pv (pv_add rfl rfl (w64 (by omega) (by omega))) rfl ?_
   refine Ops.pv (pv_assign rfl) rfl ?_
   refine Ops.nil ?_
   refine Ends.goes ?_
   have he : actR p x.o = (mMint p x.o.a x.o.b x.o.rights x.o.badge x.o.guard x.o.bits).2 := by unfold actR; simp_all
   refine Goes.back (hK (i + 1, (mMint p x.o.a x.o.b x.o.rights x.o.badge x.o.guard x.o.bits).2, sb2, tb2, Ls2, Lt2) ⟨by dsimp only; omega, by dsimp only; omega, hS2, hT2.more (by omega), by dsimp only; unfold madeTo; rw [hq, ← hpe]; exact he.symm⟩ (by dsimp only; omega)) ⟨rfl, rfl, rfl, trivial⟩
  refine Wp.seq ?_
  refine Wp.region ?_
  refine Ops.pv (pv_eql rfl rfl) rfl ?_
  refine Ops.pv (pv_assign rfl) rfl ?_
  refine Ops.nil ?_
  refine Ends.seq ?_
  refine Wp.cond_dect rfl (fun h6 => ?_) (fun h6 => ?_)
  ·
   refine Wp.region ?_
   refine Ops.pv (pv_move rfl) rfl ?_
   refine Ops.pv (pv_fieldAddr0 rfl rfl) rfl ?_
   refine Ops.pv (pv_loadK [_, _] rfl rfl rfl ⟨rfl, rfl, trivial⟩) rfl ?_
   refine Ops.pv (pv_fieldAddr0 rfl rfl) rfl ?_
   refine Ops.pv (pv_loadK [_, _] rfl rfl rfl ⟨rfl, rfl, trivial⟩) rfl ?_
   refine Ops.ef rfl (ef_call (tr_mMove _ cb1 _ p ⟨_, _, _, _, hS, hT, rfl⟩ x.o.a x.o.b) rfl rfl) ?_
   rintro _ _ ⟨_, _, ⟨rfl, sb2, tb2, Ls2, Lt2, hS2, hT2, rfl⟩, rfl, rfl⟩
   refine Ops.app ?_
   refine Ops.nil ?_
   refine Ends.block_normal ?_
   refine Ends.block_normal ?_
   refine Ends.seq ?_
   refine Wp.region ?_
   refine Ops.pv (pv_move rfl) rfl ?_
   refine Ops.pv (pv_add rfl rfl (w64 (by omega) (by omega))) rfl ?_
   refine Ops.pv (pv_assign rfl) rfl ?_
   refine Ops.nil ?_
   refine Ends.goes ?_
   have he : actR p x.o = (mMove p x.o.a x.o.b).2 := by unfold actR; simp_all
   refine Goes.back (hK (i + 1, (mMove p x.o.a x.o.b).2, sb2, tb2, Ls2, Lt2) ⟨by dsimp only; omega, by dsimp only; omega, hS2, hT2.more (by omega), by dsimp only; unfold madeTo; rw [hq, ← hpe]; exact he.symm⟩ (by dsimp only; omega)) ⟨rfl, rfl, rfl, trivial⟩
  refine Wp.skip ?_
  refine Ends.block_normal ?_
  refine Ends.block_normal ?_
  refine Ends.seq ?_
  refine Wp.region ?_
  refine Ops.pv (pv_move rfl) rfl ?_
  refine Ops.pv (pv_add rfl rfl (w64 (by omega) (by omega))) rfl ?_
  refine Ops.pv (pv_assign rfl) rfl ?_
  refine Ops.nil ?_
  refine Ends.goes ?_
  have he : actR p x.o = p := by unfold actR; simp_all
  refine Goes.back (hK (i + 1, p, sb, tb, Ls, Lt) ⟨by dsimp only; omega, by dsimp only; omega, hS, hT.more (by omega), by dsimp only; unfold madeTo; rw [hq, ← hpe]; exact he.symm⟩ (by dsimp only; omega)) ⟨rfl, rfl, rfl, trivial⟩
 refine Wp.exit ?_
 refine Ends.then_exit ?_
 refine Ends.then_exit ?_
 refine Ends.block_hit ?_
 refine Ends.seq ?_
 refine Wp.seq ?_
 refine Wp.region ?_
 refine Ops.pv (pv_move rfl) rfl ?_
 refine Ops.pv (pv_assign rfl) rfl ?_
 refine Ops.nil ?_
 refine Ends.seq ?_
 refine Wp.ret ?_
 have hmp : madeP l = p := by rw [hpe]; unfold madeP; congr 1; omega
 rw [hmp]
 exact Ends.ret (L' := cBlk cb1 sb tb :: (Ls ++ (Lt ++ G))) (res1 rfl rfl) ⟨cb1, _, rfl, ⟨sb, tb, Ls, Lt, hS, hT.more (by omega), rfl⟩, by rw [List.cons_append, List.append_assoc]⟩
end Go.Proofs.Ytdodfnjmkpgdbaa
end
section
set_option linter.unusedVariables false
set_option linter.unusedSimpArgs false
set_option linter.unusedSectionVars false
namespace Go.Proofs.Ytdodfnjmkpgdbaa
open Go.SL
theorem Away.keep {t t' : TS} {way : List SlotM} {s : SlotM} {b : Bool} (h : Away t way s b t') : POk t.p → ∀ z, z ∈ way → z ≠ s → (dget t'.p.l z).1 = (dget t.p.l z).1 := by
 induction h with
 | spent _ _ => exact fun _ _ _ _ => rfl
 | step _ _ => intro h z _ hz; rw [stepT_get h, if_neg hz]
 | @fall t t' way s x hin _ ih =>
  intro h z hz _
  exact ih h z (List.mem_append_left _ hz) (fun e => (innerM_some hin).2.1 (e ▸ hz))
 | @next t t1 t' way s x b hin ha _ ih1 ih2 =>
  intro h z hz hzs
  rw [ih2 (ha.ok h) z hz hzs, ih1 h z (List.mem_append_left _ hz) (fun e => (innerM_some hin).2.1 (e ▸ hz))]
theorem full_step {t : TS} (h : POk t.p) {s : SlotM} (hk : (dget t.p.l s).1.kind ≠ 0) : (dfull (stepT t s).p.l).length + 1 = (dfull t.p.l).length := by
 rw [dfull_step h]
 exact filter_ne_len (dfull_nodup h.rel) ((mem_dfull h.rel).2 hk)
theorem Away.ends {t t' : TS} {way : List SlotM} {s : SlotM} {b : Bool} (h : Away t way s b t') : POk t.p → s ∈ way → (dget t.p.l s).1.kind ≠ 0 →
    (b = false → t'.n = 0 ∧ (dget t'.p.l s).1 = (dget t.p.l s).1) ∧ (b = true → (dget t'.p.l s).1 = CapM.zero) ∧ (dfull t'.p.l).length + t.n = (dfull t.p.l).length + t'.n := by
  induction h with
  | spent _ h0 => exact fun _ _ _ => ⟨fun _ => ⟨h0, rfl⟩, (fun e => by cases e), rfl⟩
  | @step t way s _ h0 =>
    intro h _ hk
    refine ⟨(fun e => by cases e), fun _ => by rw [stepT_get h, if_pos rfl], ?_⟩
    have := full_step h hk
    show _ + t.n = _ + (t.n - 1)
    omega
  | @fall t t' way s x hin ha ih =>
    intro h hs hk
    obtain ⟨_, hxw, hxk, _⟩ := innerM_some hin
    obtain ⟨i1, _, i3⟩ := ih h (List.mem_append_right _ (List.mem_singleton.2 rfl)) hxk
    exact ⟨fun _ => ⟨(i1 rfl).1, ha.keep h s (List.mem_append_left _ hs) (fun e => hxw (e ▸ hs))⟩, (fun e => by cases e), i3⟩
  | @next t t1 t' way s x b hin ha _ ih1 ih2 =>
    intro h hs hk
    obtain ⟨_, hxw, hxk, _⟩ := innerM_some hin
    obtain ⟨_, _, i3⟩ := ih1 h (List.mem_append_right _ (List.mem_singleton.2 rfl)) hxk
    have hg := ha.keep h s (List.mem_append_left _ hs) (fun e => hxw (e ▸ hs))
    obtain ⟨j1, j2, j3⟩ := ih2 (ha.ok h) hs (by rw [hg]; exact hk)
    exact ⟨fun e => ⟨(j1 e).1, by rw [(j1 e).2, hg]⟩, j2, by omega⟩
theorem stepT_wok {t : TS} (h : WOk t.p) (s : SlotM) : WOk (stepT t s).p := by
 unfold stepT; dsimp only
 split
 ·
  exact (h.take s).clear _
 ·
  exact h.take s
theorem Away.wok {t t' : TS} {way : List SlotM} {s : SlotM} {b : Bool} (h : Away t way s b t') : WOk t.p → WOk t'.p := by
 induction h with
 | spent _ _ => exact id
 | step _ _ => exact fun h => stepT_wok h _
 | fall _ _ ih => exact ih
 | next _ _ _ ih1 ih2 => exact fun h => ih2 (ih1 h)
theorem Away.det {t t1 : TS} {way : List SlotM} {s : SlotM} {b : Bool} (h : Away t way s b t1) : ∀ {c : Bool} {t2 : TS}, Away t way s c t2 → b = c ∧ t1 = t2 := by
 induction h with
 | spent hi h0 =>
  intro c t2 h2
  cases h2 with
  | spent _ _ => exact ⟨rfl, rfl⟩
  | step _ h1 => exact absurd h0 h1
  | fall h1 _ => rw [hi] at h1; cases h1
  | next h1 _ _ => rw [hi] at h1; cases h1
 | step hi h0 =>
  intro c t2 h2
  cases h2 with
  | spent _ h1 => exact absurd h1 h0
  | step _ _ => exact ⟨rfl, rfl⟩
  | fall h1 _ => rw [hi] at h1; cases h1
  | next h1 _ _ => rw [hi] at h1; cases h1
 | fall hi _ ih =>
  intro c t2 h2
  cases h2 with
  | spent h1 _ => rw [hi] at h1; cases h1
  | step h1 _ => rw [hi] at h1; cases h1
  | fall h1 ha => rw [hi] at h1; cases h1; exact ih ha
  | next h1 ha _ => rw [hi] at h1; cases h1; exact absurd (ih ha).1 (by decide)
 | next hi _ _ ih1 ih2 =>
  intro c t2 h2
  cases h2 with
  | spent h1 _ => rw [hi] at h1; cases h1
  | step h1 _ => rw [hi] at h1; cases h1
  | fall h1 ha => rw [hi] at h1; cases h1; exact absurd (ih1 ha).1 (by decide)
  | next h1 ha hb => rw [hi] at h1; cases h1; obtain ⟨_, rfl⟩ := ih1 ha; exact ih2 hb
theorem revS_len {s : SlotM} : ∀ (m : Nat) {p : PS}, WOk p → m ≤ (ftKin p.F s).length → (dfull (revS p s m).l).length + m = (dfull p.l).length
  | 0, p, _, _ => rfl
  | m + 1, p, h, hm => by
    cases hx : (ftKin p.F s)[(ftKin p.F s).length - 1]? with
    | none => rw [List.getElem?_eq_getElem (by omega)] at hx; cases hx
    | some x =>
      have hmem := List.mem_of_getElem? hx
      have e : revS p s (m + 1) = revS (mTake p x).2.2 s m := by conv => lhs; unfold revS; rw [hx]
      have hk : (dget p.l x).1.kind ≠ 0 := (h.ok.on x).1 (kin_in hmem).2
      have h1 := full_take_len h.ok ((mem_dfull h.ok.rel).2 hk)
      have h2 := revS_len m (p := (mTake p x).2.2) (h.take x) (by rw [kin_last h.ok hx, List.length_take]; omega)
      rw [e]; omega
end Go.Proofs.Ytdodfnjmkpgdbaa
end
section
set_option linter.unusedVariables false
set_option linter.unusedSimpArgs false
set_option linter.unusedSectionVars false
namespace Go.Proofs.Ytdodfnjmkpgdbaa
open Go.SL
theorem setC_radix {l : List DN} {s : SlotM} {c : CapM} (id : Int) : dradix (dsetC l s c) id = dradix l id := by
 unfold dsetC
 cases hd : dfind l s.1 with
 | none => rfl
 | some d =>
  dsimp only
  unfold dradix
  rw [dfind_set (d := d) (d' := { d with caps := d.caps.set s.2.toNat c }) rfl id hd]
  by_cases e : id = s.1
  ·
   rw [if_pos e, e, hd]
  ·
   rw [if_neg e]
theorem dtake_radix {l : List DN} {s : SlotM} (id : Int) : dradix (dtake l s).2.2 id = dradix l id := by
 unfold dtake
 cases dcap? l s with
 | none => rfl
 | some x =>
  dsimp only
  split
  ·
   rfl
  ·
   exact setC_radix id
theorem dput_radix {l : List DN} {s : SlotM} {c : CapM} (id : Int) : dradix (dput l s c).2 id = dradix l id := by
 unfold dput
 cases dcap? l s with
 | none => rfl
 | some x =>
  dsimp only
  split
  ·
   rfl
  ·
   split
   ·
    rfl
   ·
    split
    ·
     rfl
    ·
     exact setC_radix id
theorem ddrop_radix {l : List DN} (h : HasS l) (id o : Int) : dradix (ddrop l id).2 o = if o = id ∧ (ddrop l id).1 = 0 then 0 else dradix l o := by
 obtain ⟨S, hR⟩ := h
 unfold ddrop
 cases e : dfind l id with
 | none => dsimp only; rw [if_neg (fun h => by have := h.2; simp at this)]
 | some d =>
  dsimp only
  split
  ·
   unfold dradix ddel
   dsimp only
   rw [dfind_del o hR.srt e]
   by_cases ho : o = id
   ·
    rw [if_pos ho, if_pos ⟨ho, rfl⟩]
   ·
    rw [if_neg ho, if_neg (fun h => ho h.1)]
  ·
   rw [if_neg (fun h => by have := h.2; simp at this)]
theorem mTake_radix {p : PS} {s : SlotM} (id : Int) : dradix (mTake p s).2.2.l id = dradix p.l id := dtake_radix id
theorem step_radix {t : TS} (h : POk t.p) {s : SlotM} {id : Int} (hn : ¬ (fin t.p.l s ∧ (dget t.p.l s).1.kind = 2 ∧ (dget t.p.l s).1.object = id)) : dradix (stepT t s).p.l id = dradix t.p.l id := by
 unfold stepT; dsimp only
 split
 ·
  rename_i hc
  show dradix (ddrop (mTake t.p s).2.2.l _).2 id = _
  rw [ddrop_radix (h.take s).rel, if_neg (fun e => hn ⟨hc.1, hc.2, e.1.symm⟩), mTake_radix]
 ·
  exact mTake_radix id
theorem dcount_step {t : TS} (h : POk t.p) {s : SlotM} (hk : (dget t.p.l s).1.kind ≠ 0) (k o : Int) : dcount t.p.l k o = dcount (stepT t s).p.l k o + if (dget t.p.l s).1.kind = k ∧ (dget t.p.l s).1.object = o then 1 else 0 := by
 have hm := (mem_dfull h.rel).2 hk
 have hnd := dfull_nodup h.rel
 have e1 : (dfull t.p.l).erase s = dfull (stepT t s).p.l := by
  rw [dfull_step h, hnd.erase_eq_filter]
  exact List.filter_congr fun x _ => by by_cases e : x = s <;> simp [e]
 unfold dcount
 rw [(List.perm_cons_erase hm).countP_eq, e1, List.countP_cons]
 congr 1
 ·
  refine List.countP_congr fun x hx => ?_
  rw [dfull_step h] at hx
  have hne := of_decide_eq_true (List.mem_filter.1 hx).2
  rw [stepT_get h, if_neg hne]
 ·
  by_cases e : (dget t.p.l s).1.kind = k ∧ (dget t.p.l s).1.object = o
  ·
   rw [if_pos e, if_pos (by simp [e.1, e.2])]
  ·
   rw [if_neg e, if_neg (fun hh => e (by simpa using hh))]
theorem fin_ne {p : PS} (h : POk p) {s y : SlotM} (hf : fin p.l s) (hy : (dget p.l y).1.kind ≠ 0) (hne : y ≠ s) : ¬ ((dget p.l y).1.kind = (dget p.l s).1.kind ∧ (dget p.l y).1.object = (dget p.l s).1.object) := fun e =>
  not_fin h (s := y) (x := s) hy (fun h => hne h.symm) e.1.symm e.2.symm hf
theorem find_less {α : Type} {l : List α} {p q : α → Bool} {x : α} (h : l.find? p = some x) (hq : ∀ z, q z = true → p z = true) (hx : q x = true) : l.find? q = some x := by
 rw [List.find?_eq_some_iff_append] at h ⊢
 obtain ⟨_, a, b, e, hb⟩ := h
 refine ⟨hx, a, b, e, fun z hz => ?_⟩
 have := hb z hz
 rw [Bool.not_eq_true'] at this ⊢
 cases hqz : q z with
 | false => rfl
 | true => rw [hq z hqz] at this; cases this
theorem persist {t : TS} {way : List SlotM} {s x y : SlotM} (h : POk t.p) (hin : innerM t.p.l way s = some x) (hs : y ≠ s) (hx : y ≠ x) (hy : (dget t.p.l y).1.kind ≠ 0) : innerM (stepT t y).p.l way s = some x := by
 obtain ⟨⟨hk, hf⟩, hxw, hxk, _⟩ := innerM_some hin
 have hne := fin_ne h hf hy hs
 have hg : (dget (stepT t y).p.l s).1 = (dget t.p.l s).1 := by rw [stepT_get h, if_neg (fun e => hs e.symm)]
 have hf' : fin (stepT t y).p.l s := by
  refine ⟨by rw [hg]; exact hf.1, ?_⟩
  have h1 := dcount_step h hy (dget t.p.l s).1.kind (dget t.p.l s).1.object
  rw [if_neg hne, hf.2] at h1
  rw [hg]; omega
 unfold innerM at hin ⊢
 rw [if_pos ⟨hk, hf⟩] at hin
 rw [hg, if_pos ⟨hk, hf'⟩]
 have hr : dradix (stepT t y).p.l (dget t.p.l s).1.object = dradix t.p.l (dget t.p.l s).1.object :=
  step_radix h (fun e => hne ⟨e.2.1.trans hk.symm, e.2.2⟩)
 unfold firstIn at hin ⊢
 rw [hr]
 split
 ·
  rename_i h0; rw [if_pos h0] at hin; cases hin
 ·
  rename_i h0
  rw [if_neg h0] at hin
  refine find_less hin (fun z hz => ?_) ?_
  ·
   have := of_decide_eq_true hz
   refine decide_eq_true ⟨this.1, fun e => this.2 ?_⟩
   rw [stepT_get h]; split
   ·
    rfl
   ·
    exact e
  ·
   refine decide_eq_true ⟨hxw, ?_⟩
   rw [stepT_get h, if_neg (fun e => hx e.symm)]; exact hxk
inductive Nxt (l : List DN) : List SlotM → SlotM → SlotM → Prop
  | here {way : List SlotM} {s : SlotM} : innerM l way s = none → Nxt l way s s
  | down {way : List SlotM} {s x y : SlotM} : innerM l way s = some x → Nxt l (way ++ [x]) x y → Nxt l way s y
theorem Nxt.fresh {l : List DN} {way : List SlotM} {s y : SlotM} (h : Nxt l way s y) : y = s ∨ y ∉ way := by
 induction h with
 | here _ => exact .inl rfl
 | @down way s x y hin _ ih =>
  rcases ih with rfl | h
  ·
   exact .inr (innerM_some hin).2.1
  ·
   exact .inr fun e => h (List.mem_append_left _ e)
theorem Nxt.fullN {l : List DN} {way : List SlotM} {s y : SlotM} (h : Nxt l way s y) : (dget l s).1.kind ≠ 0 → (dget l y).1.kind ≠ 0 := by
 induction h with
 | here _ => exact id
 | down hin _ ih => exact fun _ => ih (innerM_some hin).2.2.1
theorem Nxt.det {l : List DN} {way : List SlotM} {s y : SlotM} (h : Nxt l way s y) : ∀ {z : SlotM}, Nxt l way s z → y = z := by
 induction h with
 | here hi =>
  intro z h2
  cases h2 with
  | here _ => rfl
  | down h1 _ => rw [hi] at h1; cases h1
 | down hi _ ih =>
  intro z h2
  cases h2 with
  | here h1 => rw [hi] at h1; cases h1
  | down h1 h3 => rw [hi] at h1; cases h1; exact ih h3
inductive DRun (way : List SlotM) (s : SlotM) : TS → Bool → TS → Prop
  | spent {t : TS} : t.n = 0 → DRun way s t false t
  | last {t : TS} : t.n ≠ 0 → Nxt t.p.l way s s → DRun way s t true (stepT t s)
  | more {t t' : TS} {y : SlotM} {b : Bool} : t.n ≠ 0 → Nxt t.p.l way s y → y ≠ s → DRun way s (stepT t y) b t' → DRun way s t b t'
theorem DRun.lift {way : List SlotM} {s x : SlotM} {t t1 : TS} {b : Bool} (h : DRun (way ++ [x]) x t b t1) : POk t.p → s ∈ way → innerM t.p.l way s = some x →
    (b = false → DRun way s t false t1) ∧ (b = true → ∀ c t', DRun way s t1 c t' → DRun way s t c t') := by
  induction h with
  | spent h0 => exact fun _ _ _ => ⟨fun _ => .spent h0, fun e => by cases e⟩
  | last h0 hn =>
    intro h hs hin
    obtain ⟨_, hxw, hxk, _⟩ := innerM_some hin
    exact ⟨(fun e => by cases e), fun _ c t' hr => .more h0 (.down hin hn) (fun e => hxw (e ▸ hs)) hr⟩
  | @more t t' y b h0 hn hy _ ih =>
    intro h hs hin
    obtain ⟨_, hxw, hxk, _⟩ := innerM_some hin
    have hyw : y ∉ way ++ [x] := hn.fresh.resolve_left hy
    have hys : y ≠ s := fun e => hyw (List.mem_append_left _ (e ▸ hs))
    obtain ⟨i1, i2⟩ := ih (stepT_ok h y) hs (persist h hin hys hy (hn.fullN hxk))
    exact ⟨fun e => .more h0 (.down hin hn) hys (i1 e), fun e c t' hr => .more h0 (.down hin hn) hys (i2 e c t' hr)⟩
theorem Away.drun {t t' : TS} {way : List SlotM} {s : SlotM} {b : Bool} (h : Away t way s b t') : POk t.p → s ∈ way → DRun way s t b t' := by
 induction h with
 | spent _ h0 => exact fun _ _ => .spent h0
 | step hi h0 => exact fun _ _ => .last h0 (.here hi)
 | @fall t t' way s x hin ha ih =>
  exact fun h hs => ((ih h (List.mem_append_right _ (List.mem_singleton.2 rfl))).lift h hs hin).1 rfl
 | @next t t1 t' way s x b hin ha _ ih1 ih2 =>
  exact fun h hs => ((ih1 h (List.mem_append_right _ (List.mem_singleton.2 rfl))).lift h hs hin).2 rfl _ _ (ih2 (ha.ok h) hs)
theorem DRun.det {way : List SlotM} {s : SlotM} {t t1 : TS} {b : Bool} (h : DRun way s t b t1) : ∀ {c : Bool} {t2 : TS}, DRun way s t c t2 → b = c ∧ t1 = t2 := by
 induction h with
 | spent h0 =>
  intro c t2 h2
  cases h2 with
  | spent _ => exact ⟨rfl, rfl⟩
  | last h1 _ => exact absurd h0 h1
  | more h1 _ _ _ => exact absurd h0 h1
 | last h0 hn =>
  intro c t2 h2
  cases h2 with
  | spent h1 => exact absurd h1 h0
  | last _ _ => exact ⟨rfl, rfl⟩
  | more _ h1 h3 _ => exact absurd (h1.det hn) h3
 | more h0 hn hy _ ih =>
  intro c t2 h2
  cases h2 with
  | spent h1 => exact absurd h1 h0
  | last _ h1 => exact absurd (hn.det h1) hy
  | more _ h1 _ h3 => obtain rfl := hn.det h1; exact ih h3
theorem stepT_pre (p : PS) (pre told : List CapM) (n : Nat) (s : SlotM) : stepT ⟨p, pre ++ told, n⟩ s = ⟨(stepT ⟨p, told, n⟩ s).p, pre ++ (stepT ⟨p, told, n⟩ s).told, (stepT ⟨p, told, n⟩ s).n⟩ := by
 unfold stepT; dsimp only
 congr 1
 split
 ·
  rw [List.append_assoc]
 ·
  rfl
theorem DRun.told {way : List SlotM} {s : SlotM} {t t' : TS} {b : Bool} (h : DRun way s t b t') (pre : List CapM) : DRun way s ⟨t.p, pre ++ t.told, t.n⟩ b ⟨t'.p, pre ++ t'.told, t'.n⟩ := by
 induction h with
 | spent h0 => exact .spent h0
 | @last t h0 hn =>
  have := DRun.last (way := way) (s := s) (t := ⟨t.p, pre ++ t.told, t.n⟩) h0 hn
  rw [stepT_pre] at this; exact this
 | @more t t' y b h0 hn hy _ ih =>
  refine .more (y := y) h0 hn hy ?_
  rw [stepT_pre]; exact ih
theorem DRun.zero {way : List SlotM} {s : SlotM} {t t' : TS} {b : Bool} (h : DRun way s t b t') : b = false → t'.n = 0 := by
 induction h with
 | spent h0 => exact fun _ => h0
 | last _ _ => exact fun e => by cases e
 | more _ _ _ _ ih => exact ih
theorem stepT_n2 (p : PS) (told : List CapM) (n k : Nat) (s : SlotM) (h : n ≠ 0) : stepT ⟨p, told, n + k⟩ s = ⟨(stepT ⟨p, told, n⟩ s).p, (stepT ⟨p, told, n⟩ s).told, (stepT ⟨p, told, n⟩ s).n + k⟩ := by
 unfold stepT; dsimp only
 congr 1; omega
theorem DRun.join {way : List SlotM} {s : SlotM} {t t1 : TS} {b : Bool} (h : DRun way s t b t1) : b = false → ∀ {m : Nat} {c : Bool} {t' : TS}, DRun way s ⟨t1.p, t1.told, m⟩ c t' → DRun way s ⟨t.p, t.told, t.n + m⟩ c t' := by
 induction h with
 | @spent t h0 => intro _ m c t' h2; rw [h0, Nat.zero_add]; exact h2
 | last _ _ => exact fun e => by cases e
 | @more t t1 y b h0 hn hy _ ih =>
  intro e m c t' h2
  refine .more (y := y) (by show t.n + m ≠ 0; omega) hn hy ?_
  rw [stepT_n2 _ _ _ _ _ h0]; exact ih e h2
theorem DRun.extra {way : List SlotM} {s : SlotM} {t t1 : TS} {b : Bool} (h : DRun way s t b t1) : b = true → ∀ m : Nat, DRun way s ⟨t.p, t.told, t.n + m⟩ true ⟨t1.p, t1.told, t1.n + m⟩ := by
 induction h with
 | spent _ => exact fun e => by cases e
 | @last t h0 hn =>
  intro _ m
  have := DRun.last (way := way) (s := s) (t := ⟨t.p, t.told, t.n + m⟩) (by show t.n + m ≠ 0; omega) hn
  rw [stepT_n2 _ _ _ _ _ h0] at this; exact this
 | @more t t1 y b h0 hn hy _ ih =>
  intro e m
  refine .more (y := y) (by show t.n + m ≠ 0; omega) hn hy ?_
  rw [stepT_n2 _ _ _ _ _ h0]; exact ih e m
def toldN (told : List CapM) (k o : Int) : Nat := told.countP fun x => decide (x.kind = k) && decide (x.object = o)
theorem stepT_once {t : TS} (h : POk t.p) {s : SlotM} (hs : (dget t.p.l s).1.kind ≠ 0) (k o : Int) :
    toldN (stepT t s).told k o + (if dcount (stepT t s).p.l k o = 0 then 0 else 1) = toldN t.told k o + (if dcount t.p.l k o = 0 then 0 else 1) := by
  have h1 := dcount_step h hs k o
  have h2 : (stepT t s).told = if fin t.p.l s then t.told ++ [(dget t.p.l s).1] else t.told := rfl
  by_cases e : (dget t.p.l s).1.kind = k ∧ (dget t.p.l s).1.object = o
  · rw [if_pos e] at h1
    have hfi : fin t.p.l s ↔ dcount t.p.l k o = 1 := by unfold fin; rw [e.1, e.2]; exact ⟨fun h => h.2, fun h => ⟨e.1 ▸ hs, h⟩⟩
    by_cases hf : fin t.p.l s
    · have hc := hfi.1 hf
      rw [h2, if_pos hf]
      unfold toldN
      rw [List.countP_append, List.countP_singleton, if_pos (by simp [e.1, e.2]), if_pos (by omega), if_neg (by omega)]
    · have hc : ¬ dcount t.p.l k o = 1 := fun h => hf (hfi.2 h)
      rw [h2, if_neg hf, if_neg (by omega), if_neg (by omega)]
  · rw [if_neg e] at h1
    rw [show dcount (stepT t s).p.l k o = dcount t.p.l k o by omega]
    congr 1
    rw [h2]
    split
    · unfold toldN
      rw [List.countP_append, List.countP_singleton, if_neg (fun hh => e (by simpa using hh))]; rfl
    · rfl
theorem DRun.once {way : List SlotM} {s : SlotM} {t t' : TS} {b : Bool} (h : DRun way s t b t') : POk t.p → (dget t.p.l s).1.kind ≠ 0 → ∀ k o : Int,
    toldN t'.told k o + (if dcount t'.p.l k o = 0 then 0 else 1) = toldN t.told k o + (if dcount t.p.l k o = 0 then 0 else 1) := by
  induction h with
  | spent _ => exact fun _ _ _ _ => rfl
  | last _ _ => exact fun h hs k o => stepT_once h hs k o
  | @more t t' y b _ hn hy _ ih =>
    intro h hs k o
    rw [ih (stepT_ok h y) (by rw [stepT_get h, if_neg (fun e => hy e.symm)]; exact hs), stepT_once h (hn.fullN hs)]
end Go.Proofs.Ytdodfnjmkpgdbaa
end
section
set_option linter.unusedVariables false
set_option linter.unusedSimpArgs false
set_option linter.unusedSectionVars false
namespace Go.Proofs.Ytdodfnjmkpgdbaa
open Go.SL
theorem dget_in {l : List DN} (h : HasS l) {s : SlotM} (hr : dradix l s.1 ≠ 0) (h0 : 0 ≤ s.2) (h1 : s.2 < 2 ^ (dradix l s.1).toNat) : (dget l s).2 = 0 := by
 obtain ⟨S, hR⟩ := h
 unfold dradix at hr h1
 cases e : dfind l s.1 with
 | none => rw [e] at hr; exact absurd rfl hr
 | some d =>
  rw [e] at h1
  obtain ⟨n, _, h2, h3, h4, _⟩ := rel_find hR e
  dsimp only at h1
  rw [Int.toNat_natCast, h2] at h1
  have h5 : s.2 < d.caps.length := by rw [h4]; exact_mod_cast h1
  unfold dget dcap?
  rw [e]
  dsimp only
  rw [if_pos ⟨h0, h5⟩, List.getElem?_eq_getElem (by omega)]
theorem dget_off {l : List DN} (h : HasS l) {s : SlotM} (hk : (dget l s).1.kind ≠ 0) : dradix l s.1 ≠ 0 ∧ 0 ≤ s.2 ∧ s.2 < 2 ^ (dradix l s.1).toNat := by
 obtain ⟨S, hR⟩ := h
 unfold dget at hk
 cases e : dcap? l s with
 | none => rw [e] at hk; exact absurd rfl hk
 | some c =>
  obtain ⟨d, hd, hs, _⟩ := dcap_some e
  obtain ⟨n, _, h2, h3, h4, hw⟩ := rel_find hR hd
  have := hw.lo
  unfold dradix
  rw [hd]
  dsimp only
  rw [Int.toNat_natCast, h2]
  refine ⟨by omega, hs.1, ?_⟩
  have h5 := hs.2
  rw [h4] at h5; exact_mod_cast h5
theorem fin_inj {p : PS} (h : POk p) {s : SlotM} (hk : (dget p.l s).1.kind ≠ 0) (hi : ∀ x, (dget p.l x).1.kind = (dget p.l s).1.kind → (dget p.l x).1.object = (dget p.l s).1.object → x = s) : fin p.l s := by
 refine ⟨hk, ?_⟩
 have hm := (mem_dfull h.rel).2 hk
 unfold dcount
 rw [(List.perm_cons_erase hm).countP_eq, List.countP_cons, if_pos (by simp)]
 have : ((dfull p.l).erase s).countP (fun z => decide ((dget p.l z).1.kind = (dget p.l s).1.kind) && decide ((dget p.l z).1.object = (dget p.l s).1.object)) = 0 := by
  rw [List.countP_eq_zero]
  intro z hz hq
  rw [Bool.and_eq_true, decide_eq_true_eq, decide_eq_true_eq] at hq
  have e := hi z hq.1 hq.2
  subst e
  rw [(dfull_nodup h.rel).erase_eq_filter] at hz
  have := (List.mem_filter.1 hz).2
  simp at this
 omega
structure ChI (n m : Nat) (p : PS) : Prop where
  ok : POk p
  mn : m ≤ n
  r0 : dradix p.l 0 = 2
  rin : ∀ id : Nat, 1 ≤ id → id ≤ m → dradix p.l id = 2
  rout : ∀ id : Nat, m < id → id ≤ n → dradix p.l id = 0
  link : ∀ id : Nat, 1 ≤ id → id ≤ m → (dget p.l ((id : Int) - 1, 1)).1 = ⟨2, id, 0, 0, 0, 0⟩
  only : ∀ s : SlotM, (dget p.l s).1.kind ≠ 0 → (∃ id : Nat, 1 ≤ id ∧ id ≤ m ∧ s = ((id : Int) - 1, 1)) ∨ ((dget p.l s).1.kind = 6 ∧ ∃ id : Nat, 1 ≤ id ∧ id ≤ m ∧ s.1 = id)
  inj : ∀ s x : SlotM, (dget p.l s).1.kind ≠ 0 → (dget p.l x).1.kind = (dget p.l s).1.kind → (dget p.l x).1.object = (dget p.l s).1.object → x = s
theorem ChI.fin {n m : Nat} {p : PS} (h : ChI n m p) {s : SlotM} (hk : (dget p.l s).1.kind ≠ 0) : fin p.l s := fin_inj h.ok hk fun x => h.inj s x hk
end Go.Proofs.Ytdodfnjmkpgdbaa
end
section
set_option linter.unusedVariables false
set_option linter.unusedSimpArgs false
set_option linter.unusedSectionVars false
namespace Go.Proofs.Ytdodfnjmkpgdbaa
open Go.SL
theorem full_all {p : PS} (h : POk p) : (dfull p.l).length = p.F.all.length := ((List.perm_ext_iff_of_nodup (dfull_nodup h.rel) h.nd).2 fun x => by rw [mem_dfull h.rel, h.on]).length_eq
def cpC : CapM := ⟨4, 7, 7, 0, 0, 0⟩
structure CoI (n : Nat) (p : PS) : Prop where
  wok : WOk p
  rad : dradix p.l 0 = 4
  get : ∀ x : SlotM, (dget p.l x).1 = if x.1 = 0 ∧ 0 ≤ x.2 ∧ x.2 < n then cpC else CapM.zero
  root : ∃ c, p.F = .cons (0, 0) c .nil
  len : p.F.all.length = n
theorem co_derive : derive cpC 7 0 0 0 = (cpC, 0) := by kernel_rfl
theorem CoI.copy {n : Nat} {p : PS} (h : CoI n p) (hn : n < 16) {k : Nat} (hk : k < n) : (mCopy p (0, (k : Int)) (0, (n : Int)) 7).1 = 0 ∧ CoI (n + 1) (mCopy p (0, (k : Int)) (0, (n : Int)) 7).2 := by
 have hgk : (dget p.l (0, (k : Int))).1 = cpC := (h.get _).trans (if_pos ⟨rfl, Int.natCast_nonneg k, Int.ofNat_lt.2 hk⟩)
 have hgn : (dget p.l (0, (n : Int))).1 = CapM.zero := by rw [h.get, if_neg (fun e => absurd e.2.2 (Int.lt_irrefl _))]
 have hkk : (dget p.l (0, (k : Int))).1.kind ≠ 0 := by rw [hgk]; decide
 have hkn : (dget p.l (0, (n : Int))).1.kind = 0 := by rw [hgn]
 have hen : (dget p.l (0, (n : Int))).2 = 0 := dget_in h.wok.ok.rel (by show dradix p.l 0 ≠ 0; rw [h.rad]; decide) (by show (0 : Int) ≤ n; omega) (by show (n : Int) < 2 ^ (dradix p.l 0).toNat; rw [h.rad]; show (n : Int) < 16; omega)
 have hs := src_iff.2 hkk
 have hb : (mBoth p (0, (k : Int)) (0, (n : Int))).2 = 0 := by
  unfold mBoth; dsimp only
  rw [if_pos hs]
  unfold mPlace
  rw [if_neg (fun e => e.2 hkn)]; exact hen
 obtain ⟨e1, _⟩ := both_ok hb
 rw [hgk] at e1
 have hput : (dput p.l (0, (n : Int)) cpC).1 = 0 := (put_iff h.wok.ok.rel).2 ⟨hen, hkn, by kernel_rfl, by decide⟩
 have hm : mCopy p (0, (k : Int)) (0, (n : Int)) 7 = (0, ⟨(dput p.l (0, (n : Int)) cpC).2, p.F.addc (0, (k : Int)) (0, (n : Int))⟩) := by
  unfold mCopy mMint
  rw [if_neg (by rw [hb]; decide), e1, hgk, show cpC.guard = 0 from rfl, show cpC.bits = 0 from rfl, co_derive, if_neg (by decide)]
  unfold mChild
  rw [if_neg (by rw [hb]; decide), hput, if_pos rfl, child_F h.wok.ok hkk hkn]
 have hw := h.wok.copy (0, (k : Int)) (0, (n : Int)) (r := 7) (by unfold i64R; decide)
 rw [hm] at hw ⊢
 refine ⟨rfl, hw, by rw [← h.rad]; exact dput_radix 0, fun x => ?_, ?_, ?_⟩
 ·
  show (dget (dput p.l (0, (n : Int)) cpC).2 x).1 = _
  rw [put_get h.wok.ok.rel hput]
  by_cases e : x = (0, (n : Int))
  ·
   rw [if_pos e, if_pos (by rw [e]; exact ⟨rfl, by show (0 : Int) ≤ n; omega, by show (n : Int) < ((n + 1 : Nat) : Int); omega⟩)]
  ·
   rw [if_neg e, h.get]
   by_cases e2 : x.1 = 0 ∧ 0 ≤ x.2 ∧ x.2 < n
   ·
    rw [if_pos e2, if_pos ⟨e2.1, e2.2.1, by have := e2.2.2; omega⟩]
   ·
    rw [if_neg e2, if_neg (fun e3 => e2 ⟨e3.1, e3.2.1, by
     have h4 := e3.2.2
     have h5 : x.2 ≠ n := fun h6 => e (Prod.ext e3.1 h6)
     omega⟩)]
 ·
  obtain ⟨c, hc⟩ := h.root
  rw [hc]
  show ∃ c', Fo.addc _ _ (Fo.cons (0, 0) c .nil) = _
  by_cases e : ((0 : Int), (0 : Int)) = (0, (k : Int))
  ·
   exact ⟨_, by unfold Fo.addc; rw [if_pos e]⟩
  ·
   exact ⟨_, by rw [Fo.addc, if_neg e]; rfl⟩
 ·
  show (Fo.all (p.F.addc _ _)).length = _
  rw [(Fo.all_addc_perm h.wok.ok.nd ((h.wok.ok.on _).2 hkk)).length_eq, List.length_append, h.len]; rfl
theorem CoI.kin {n : Nat} {p : PS} (h : CoI n p) : (ftKin p.F (0, 0)).length + 1 = n := by
 obtain ⟨c, hc⟩ := h.root
 have hl := h.len
 rw [hc] at hl ⊢
 unfold ftKin
 rw [Fo.sub, if_pos rfl]
 simp only [Fo.all, List.length_cons, List.length_append, List.length_nil] at hl
 omega
theorem CoI.full {n : Nat} {p : PS} (h : CoI n p) : (dfull p.l).length = n := by rw [full_all h.wok.ok, h.len]
theorem CoI.k0 {n : Nat} {p : PS} (h : CoI n p) (h1 : 1 ≤ n) : (dget p.l (0, 0)).1.kind ≠ 0 := by rw [h.get, if_pos ⟨rfl, Int.le_refl _, by show (0 : Int) < n; omega⟩]; decide
theorem fin_one {p : PS} (h : POk p) {s : SlotM} (hk : (dget p.l s).1.kind ≠ 0) (h1 : (dfull p.l).length = 1) : fin p.l s := by
 obtain ⟨x, hx⟩ := List.length_eq_one_iff.1 h1
 have hm := (mem_dfull h.rel).2 hk
 rw [hx, List.mem_singleton] at hm
 subst hm
 refine ⟨hk, ?_⟩
 unfold dcount
 rw [hx]; simp
theorem CoI.ends {n : Nat} {p : PS} (h : CoI n p) (h1 : 1 ≤ n) {m : Nat} (hm : m = n - 1) : (dfull (revS p (0, 0) m).l).length = 1 ∧ fin (revS p (0, 0) m).l (0, 0) := by
 have hl := revS_len (s := (0, 0)) m h.wok (by have := h.kin; omega)
 rw [h.full] at hl
 have h2 : (dfull (revS p (0, 0) m).l).length = 1 := by omega
 refine ⟨h2, fin_one (revS_ok m h.wok).ok ?_ h2⟩
 rw [revS_get m h.wok, if_neg (fun e => kin_not h.wok.ok _ (List.mem_of_mem_drop e))]
 exact h.k0 h1
end Go.Proofs.Ytdodfnjmkpgdbaa
end
section
set_option linter.unusedVariables false
set_option linter.unusedSimpArgs false
set_option linter.unusedSectionVars false
namespace Go.Proofs.Ytdodfnjmkpgdbaa
open Go.SL
theorem child_radix {p : PS} {o s : SlotM} {c : CapM} (id : Int) : dradix (mChild p o s c).2.l id = dradix p.l id := by
 unfold mChild
 split
 ·
  rfl
 ·
  exact dput_radix id
theorem mint_radix {p : PS} {s d : SlotM} {r b g n : Int} (id : Int) : dradix (mMint p s d r b g n).2.l id = dradix p.l id := by
 unfold mMint
 split
 ·
  rfl
 ·
  split
  ·
   rfl
  ·
   exact child_radix id
theorem move_radix {p : PS} {s d : SlotM} (id : Int) : dradix (mMove p s d).2.l id = dradix p.l id := by
 unfold mMove
 dsimp only
 split
 ·
  exact (dput_radix id).trans (dtake_radix id)
 ·
  rfl
theorem actR_radix {p : PS} {x : OpC} (id : Int) : dradix (actR p x).l id = dradix p.l id := by
 unfold actR
 split
 ·
  exact dput_radix id
 ·
  split
  ·
   exact mint_radix id
  ·
   split
   ·
    exact mint_radix id
   ·
    split
    ·
     exact move_radix id
    ·
     rfl
theorem madeTo_radix (l : List OpR) (id : Int) : ∀ i, dradix (madeTo l i).l id = dradix (nodesP 3).l id
  | 0 => rfl
  | i + 1 => by
    unfold madeTo
    split
    · exact madeTo_radix l id i
    · exact (actR_radix id).trans (madeTo_radix l id i)
theorem nodes3_ids : (nodesP 3).l.map (fun d => (d.id, d.rad)) = [(0, 3), (1, 3), (2, 3)] := by kernel_rfl
theorem nodes3_radix {id : Int} (h : dradix (nodesP 3).l id ≠ 0) : (id = 0 ∨ id = 1 ∨ id = 2) ∧ dradix (nodesP 3).l id = 3 := by
 unfold dradix at h ⊢
 cases e : dfind (nodesP 3).l id with
 | none => rw [e] at h; exact absurd rfl h
 | some d =>
  obtain ⟨_, _, _, hid⟩ := dfind_some e
  have hm : (d.id, d.rad) ∈ (nodesP 3).l.map (fun d => (d.id, d.rad)) := List.mem_map.2 ⟨d, dfind_mem e, rfl⟩
  rw [nodes3_ids] at hm
  simp only [List.mem_cons, Prod.mk.injEq, List.not_mem_nil, or_false] at hm
  dsimp only
  omega
def slots24 : List SlotM := [(0, 0), (0, 1), (0, 2), (0, 3), (0, 4), (0, 5), (0, 6), (0, 7), (1, 0), (1, 1), (1, 2), (1, 3), (1, 4), (1, 5), (1, 6), (1, 7), (2, 0), (2, 1), (2, 2), (2, 3), (2, 4), (2, 5), (2, 6), (2, 7)]
theorem mem24 {s : SlotM} (h1 : s.1 = 0 ∨ s.1 = 1 ∨ s.1 = 2) (h2 : 0 ≤ s.2) (h3 : s.2 < 8) : s ∈ slots24 := by
 obtain ⟨x, y⟩ := s
 have hy : y = 0 ∨ y = 1 ∨ y = 2 ∨ y = 3 ∨ y = 4 ∨ y = 5 ∨ y = 6 ∨ y = 7 := by dsimp only at h2 h3; omega
 dsimp only at h1
 rcases h1 with rfl | rfl | rfl <;> rcases hy with rfl | rfl | rfl | rfl | rfl | rfl | rfl | rfl <;> decide
theorem len_le_of {l : List SlotM} : ∀ {m : List SlotM}, l.Nodup → (∀ s, s ∈ l → s ∈ m) → l.length ≤ m.length := by
 induction l with
 | nil => exact fun _ _ => Nat.zero_le _
 | cons a l ih =>
  intro m hn hs
  rw [List.nodup_cons] at hn
  have ha := hs a (List.mem_cons_self ..)
  have h1 := ih (m := m.erase a) hn.2 fun s h => (List.mem_erase_of_ne (fun e : s = a => hn.1 (by rw [← e]; exact h))).2 (hs s (List.mem_cons_of_mem _ h))
  rw [List.length_erase_of_mem ha] at h1
  have := List.length_pos_of_mem ha
  rw [List.length_cons]; omega
theorem full24 {p : PS} (h : POk p) (hr : ∀ id, dradix p.l id = dradix (nodesP 3).l id) : (dfull p.l).length ≤ 24 := by
 have : (dfull p.l).length ≤ slots24.length := by
  refine len_le_of (dfull_nodup h.rel) fun s hs => ?_
  obtain ⟨h1, h2, h3⟩ := dget_off h.rel ((mem_dfull h.rel).1 hs)
  rw [hr] at h1 h3
  obtain ⟨h4, h5⟩ := nodes3_radix h1
  rw [h5] at h3
  exact mem24 h4 h2 h3
 exact this
theorem madeP_radix (l : List OpR) (id : Int) : dradix (madeP l).l id = dradix (nodesP 3).l id := madeTo_radix l id _
theorem made_full {l : List OpR} (h : POk (madeP l)) : (dfull (madeP l).l).length ≤ 24 := full24 h (madeP_radix l)
theorem made_kin {p : PS} (h : POk p) (s : SlotM) : (ftKin p.F s).length ≤ (dfull p.l).length := by
 rw [full_all h]; exact ftKin_len p.F s
end Go.Proofs.Ytdodfnjmkpgdbaa
end
section
set_option linter.unusedVariables false
set_option linter.unusedSimpArgs false
set_option linter.unusedSectionVars false
namespace Go.Proofs.Ytdodfnjmkpgdbaa
open Go.SL
theorem dget_eq {l m : List DN} {s : SlotM} (h : (dget l s).1 = (dget m s).1) (hk : (dget m s).1.kind ≠ 0) : dget l s = dget m s := Prod.ext h (by rw [dget_le (by rw [h]; exact hk), dget_le hk])
section
variable {n cb : Nat} {H : Hp} {p : PS} (hC : CapsH n p cb H) (hw : WOk p) (hn : n ≤ 2 ^ 19) {sl : SlotM} (hk : (dget p.l sl).1.kind ≠ 0) {k : Nat} (h1 : 1 ≤ k) (h2 : k ≤ 1000)
include hC hw hn hk h1 h2
theorem tr_revT (h : (ftKin p.F sl).length ≤ k) : Tr Try.prog 37 [cpP cb, slotV sl, .int .i64 k] H (fun u L' => ∃ v' T' H', Slc 24 6 v' 0 [] T' ∧ CapsH n (revS p sl (ftKin p.F sl).length) cb H' ∧ u = .tuple #[v', .bool true, .int .i64 0] ∧ L' = T' ++ H') :=
  (tr_rRevokeW n cb H p hC hw hn sl hk k h1 h2).mono fun u L' ⟨v', T', H', e1, e2, e3, e4⟩ => ⟨v', T', H', e1, by rw [show min k (ftKin p.F sl).length = (ftKin p.F sl).length by omega] at e2; exact e2, by rw [e3, decide_eq_true h, if_pos h], e4⟩
theorem tr_revF (h : ¬ (ftKin p.F sl).length ≤ k) : Tr Try.prog 37 [cpP cb, slotV sl, .int .i64 k] H (fun u L' => ∃ v' T' H', Slc 24 6 v' 0 [] T' ∧ CapsH n (revS p sl k) cb H' ∧ u = .tuple #[v', .bool false, .int .i64 11] ∧ L' = T' ++ H') :=
  (tr_rRevokeW n cb H p hC hw hn sl hk k h1 h2).mono fun u L' ⟨v', T', H', e1, e2, e3, e4⟩ => ⟨v', T', H', e1, by rw [show min k (ftKin p.F sl).length = k by omega] at e2; exact e2, by rw [e3, decide_eq_false h, if_neg h], e4⟩
theorem tr_delT {t : TS} (h : Away ⟨p, [], k⟩ [sl] sl true t) : Tr Try.prog 33 [cpP cb, slotV sl, .int .i64 k] H (fun u L' => ∃ v' T' H', Slc 24 6 v' t.told.length (cel CapM.cells t.told) T' ∧ CapsH n t.p cb H' ∧ u = .tuple #[v', .bool true, .int .i64 0] ∧ L' = T' ++ H') :=
  (tr_rDelete n cb H p hC hw.ok hn sl k).mono fun u L' e => by
    rcases e with ⟨h0, _⟩ | ⟨_, b, t', v', T', H', hA, hI, rfl, rfl⟩
    · exact absurd (rvErr_0 hk (by omega) (by omega)) h0
    · obtain ⟨rfl, rfl⟩ := h.det hA
      exact ⟨v', T', H', hI.2.1, hI.1, rfl, rfl⟩
theorem tr_delF (h : ¬ ∃ t, Away ⟨p, [], k⟩ [sl] sl true t) : Tr Try.prog 33 [cpP cb, slotV sl, .int .i64 k] H (fun u L' => ∃ t v' T' H', Away ⟨p, [], k⟩ [sl] sl false t ∧ Slc 24 6 v' t.told.length (cel CapM.cells t.told) T' ∧ CapsH n t.p cb H' ∧ u = .tuple #[v', .bool false, .int .i64 11] ∧ L' = T' ++ H') :=
  (tr_rDelete n cb H p hC hw.ok hn sl k).mono fun u L' e => by
    rcases e with ⟨h0, _⟩ | ⟨_, b, t', v', T', H', hA, hI, rfl, rfl⟩
    · exact absurd (rvErr_0 hk (by omega) (by omega)) h0
    · cases b
      · exact ⟨t', v', T', H', hA, hI.2.1, hI.1, rfl, rfl⟩
      · exact absurd ⟨t', hA⟩ h
end
end Go.Proofs.Ytdodfnjmkpgdbaa
end
section
set_option linter.unusedVariables false
set_option linter.unusedSimpArgs false
set_option linter.unusedSectionVars false
namespace Go.Proofs.Ytdodfnjmkpgdbaa
open Go.SL
theorem findAsking_caps {P : Program} {K : TypeId} [hK : NumTy P K capK] (s : CapM) (w : World) : ∀ (l : List (CapM × Value × Nat)) (i : Nat), (Instr.findAsking K (CapM.v s) (entsL CapM.v l) i).run P w = .ok (fidx s l i) w
  | [], i => rfl
  | e :: l, i => by
    have h := hK.eq 9998 w s.nums e.1.nums rfl rfl
    have he : (Op.equal K (CapM.v s) (CapM.v e.1)).run P w = .ok (decide (s = e.1)) w := by
      rw [show decide (s = e.1) = decide (s.nums = e.1.nums) from decide_eq_decide.2 nums_iff.symm]; exact h
    simp only [entsL, List.map_cons, Instr.findAsking, Sem.run_bind, he, Result.andThen_ok, fidx]
    by_cases hs : s = e.1
    · simp [hs]
    · simp only [hs, decide_false, Bool.false_eq_true, if_false]
      exact findAsking_caps s w l (i + 1)
theorem sameBits_caps (d : Nat) (s : CapM) : Instr.sameBits (d + 2) (CapM.v s) (CapM.v s) = true := by
 simp [Instr.sameBits, CapM.v, CapM.cells]
theorem checkKey_cap (b : Bool) (s : CapM) (d : Nat) (w : World) : (Instr.checkKey b (d + 2) 24 (CapM.v s)).run Try.prog w = .ok () w := by
 simp [Instr.checkKey, TyD.run, CapM.v, CapM.cells, List.forIn_cons, List.forIn_nil, TyD.agg, aggD, part]
instance KeyTy.cap : KeyTy Try.prog 24 CapM.v where
  check b k w := checkKey_cap b k 9998 w
  find k l w := by
    cases l with
    | nil => simp [Instr.findKey, TyD.run, entsL, Instr.findNow, fidx]
    | cons e l =>
      have hn : ∀ kind, Instr.findNow kind (CapM.v k) (entsL CapM.v (e :: l)) 0 = none := fun kind => findNow_aggK kind (fun x : CapM => x.cells.toArray) k e l 0
      simp only [Instr.findKey, Sem.run_bind, TyD.run, Result.andThen_ok, hn]
      exact findAsking_caps k w (e :: l) 0
  stay k w := by
    have := sameBits_caps 9998 k
    unfold Instr.keyThatStays
    rw [if_pos this]
    rfl
theorem DRun.len {way : List SlotM} {s : SlotM} {t t' : TS} {b : Bool} (h : DRun way s t b t') : t'.told.length + t'.n ≤ t.told.length + t.n := by
 have hs : ∀ (t : TS) (y : SlotM), t.n ≠ 0 → (stepT t y).told.length + (stepT t y).n ≤ t.told.length + t.n := fun t y h0 => by
  unfold stepT; dsimp only
  split
  ·
   rw [List.length_append]; simp only [List.length_singleton]; omega
  ·
   omega
 induction h with
 | spent _ => exact Nat.le_refl _
 | last h0 _ => exact hs _ _ h0
 | more h0 _ _ _ ih => exact Nat.le_trans ih (hs _ _ h0)
structure TellI (all : Bool) (P0 : PS) (sl : SlotM) (K i : Nat) (p : PS) (told : List CapM) : Prop where
  wok : WOk p
  get : dget p.l sl = dget P0.l sl
  full : (dfull p.l).length + i * K = (dfull P0.l).length
  len : told.length ≤ i * K
  law : if all = true then told = [] ∧ p = revS P0 sl (i * K) else DRun [sl] sl ⟨P0, [], i * K⟩ false ⟨p, told, 0⟩
structure FinI (all : Bool) (P0 : PS) (sl : SlotM) (p : PS) (told : List CapM) : Prop where
  wok : WOk p
  len : told.length ≤ 1000
  law : if all = true then told = [] ∧ p = revS P0 sl (ftKin P0.F sl).length else ∃ r, DRun [sl] sl ⟨P0, [], 1000⟩ true ⟨p, told, r⟩
theorem tell_start {all : Bool} {P0 : PS} {sl : SlotM} {K : Nat} (h : WOk P0) : TellI all P0 sl K 0 P0 [] where
  wok := h
  get := rfl
  full := by rw [Nat.zero_mul]; rfl
  len := Nat.zero_le _
  law := by
    rw [Nat.zero_mul]
    split
    · exact ⟨rfl, rfl⟩
    · exact .spent rfl
section
variable {P0 p : PS} {sl : SlotM} {K i : Nat} {told : List CapM}
theorem tellA_kin (h0 : WOk P0) (h : TellI true P0 sl K i p told) : (ftKin p.F sl).length = (ftKin P0.F sl).length - i * K := by
 have := h.law
 rw [if_pos rfl] at this
 rw [this.2, revS_kin _ h0, List.length_take]; omega
theorem tellA_T (h0 : WOk P0) (h : TellI true P0 sl K i p told) (hi : i * K ≤ (ftKin P0.F sl).length) : FinI true P0 sl (revS p sl (ftKin p.F sl).length) (told ++ []) := by
 have hk := tellA_kin h0 h
 have hl := h.law
 rw [if_pos rfl] at hl
 refine ⟨revS_ok _ h.wok, by rw [hl.1]; exact Nat.zero_le _, ?_⟩
 rw [if_pos rfl, hk]
 refine ⟨by rw [hl.1]; rfl, ?_⟩
 conv => lhs; rw [hl.2]
 rw [revS_add]; congr 1; omega
theorem tellA_F (h0 : WOk P0) (h : TellI true P0 sl K i p told) (hb : ¬ (ftKin p.F sl).length ≤ K) : TellI true P0 sl K (i + 1) (revS p sl K) (told ++ []) := by
 have hl := h.law
 rw [if_pos rfl] at hl
 have hf := revS_len (s := sl) K h.wok (by omega)
 refine ⟨revS_ok _ h.wok, ?_, ?_, by rw [hl.1]; exact Nat.zero_le _, ?_⟩
 ·
  rw [revS_get _ h.wok, if_neg (fun e => kin_not h.wok.ok _ (List.mem_of_mem_drop e))]; exact h.get
 ·
  have := h.full; rw [Nat.succ_mul]; omega
 ·
  rw [if_pos rfl]
  refine ⟨by rw [hl.1]; rfl, ?_⟩
  conv => lhs; rw [hl.2]
  rw [revS_add, Nat.succ_mul]
theorem tellD_run (h : TellI false P0 sl K i p told) {b : Bool} {t : TS} (ha : Away ⟨p, [], K⟩ [sl] sl b t) : DRun [sl] sl ⟨P0, [], i * K + K⟩ b ⟨t.p, told ++ t.told, t.n⟩ := by
 have hl := h.law
 rw [if_neg (by decide)] at hl
 have h1 := (ha.drun h.wok.ok (List.mem_singleton.2 rfl)).told told
 rw [show told ++ (⟨p, [], K⟩ : TS).told = told from List.append_nil _] at h1
 exact hl.join rfl h1
theorem tellD_T (h : TellI false P0 sl K i p told) {t : TS} (ha : Away ⟨p, [], K⟩ [sl] sl true t) (hi : i * K + K ≤ 1000) : FinI false P0 sl t.p (told ++ t.told) := by
 have h1 := tellD_run h ha
 have hln := h1.len
 refine ⟨ha.wok h.wok, by dsimp only at hln; rw [List.length_nil] at hln; omega, ?_⟩
 rw [if_neg (by decide)]
 have h2 := h1.extra rfl (1000 - (i * K + K))
 rw [show (⟨P0, [], i * K + K⟩ : TS).n + (1000 - (i * K + K)) = 1000 by show i * K + K + _ = _; omega] at h2
 exact ⟨_, h2⟩
theorem tellD_F (h : TellI false P0 sl K i p told) (hk : (dget P0.l sl).1.kind ≠ 0) {t : TS} (ha : Away ⟨p, [], K⟩ [sl] sl false t) : TellI false P0 sl K (i + 1) t.p (told ++ t.told) := by
 have h1 := tellD_run h ha
 have hz : t.n = 0 := h1.zero rfl
 have hln := h1.len
 rw [hz] at h1
 have hkp : (dget p.l sl).1.kind ≠ 0 := by rw [h.get]; exact hk
 have he := ha.ends h.wok.ok (List.mem_singleton.2 rfl) hkp
 refine ⟨ha.wok h.wok, ?_, ?_, ?_, ?_⟩
 ·
  rw [dget_eq (he.1 rfl).2 hkp]; exact h.get
 ·
  have h3 := he.2.2; have h4 := h.full
  dsimp only at h3
  rw [Nat.succ_mul]; omega
 ·
  dsimp only at hln; rw [List.length_nil] at hln; rw [Nat.succ_mul]; omega
 ·
  rw [if_neg (by decide), Nat.succ_mul]; exact h1
end
theorem dcount_pos {l : List DN} (h : HasS l) {k o : Int} : dcount l k o ≠ 0 ↔ ∃ z, (dget l z).1.kind ≠ 0 ∧ (dget l z).1.kind = k ∧ (dget l z).1.object = o := by
 unfold dcount
 rw [← Nat.pos_iff_ne_zero, List.countP_pos_iff]
 constructor
 ·
  rintro ⟨z, hz, hq⟩
  rw [Bool.and_eq_true, decide_eq_true_eq, decide_eq_true_eq] at hq
  exact ⟨z, (mem_dfull h).1 hz, hq.1, hq.2⟩
 ·
  rintro ⟨z, hz, h1, h2⟩
  exact ⟨z, (mem_dfull h).2 hz, by simp [h1, h2]⟩
theorem fin_law {all : Bool} {P0 p : PS} {sl : SlotM} {told : List CapM} (h0 : WOk P0) (hk : (dget P0.l sl).1.kind ≠ 0) (h : FinI all P0 sl p told) {k o : Int} (hc : dcount P0.l k o ≠ 0) : toldN told k o + (if dcount p.l k o = 0 then 0 else 1) = 1 := by
 have hl := h.law
 cases all with
 | true =>
  rw [if_pos rfl] at hl
  obtain ⟨rfl, rfl⟩ := hl
  have hg := revS_get (s := sl) (ftKin P0.F sl).length h0
  rw [Nat.sub_self, List.drop_zero] at hg
  obtain ⟨z, z1, z2, z3⟩ := (dcount_pos h0.ok.rel).1 hc
  have : dcount (revS P0 sl (ftKin P0.F sl).length).l k o ≠ 0 := by
   refine (dcount_pos (revS_ok _ h0).ok.rel).2 ?_
   by_cases hz : z ∈ ftKin P0.F sl
   ·
    have hw := h0.weak sl z hz
    have hs : dget (revS P0 sl (ftKin P0.F sl).length).l sl = dget P0.l sl := by rw [hg, if_neg (kin_not h0.ok sl)]
    exact ⟨sl, by rw [hs]; exact hk, by rw [hs, ← hw.2.2.1]; exact z2, by rw [hs, ← hw.2.2.2.1]; exact z3⟩
   ·
    have hs : dget (revS P0 sl (ftKin P0.F sl).length).l z = dget P0.l z := by rw [hg, if_neg hz]
    exact ⟨z, by rw [hs]; exact z1, by rw [hs]; exact z2, by rw [hs]; exact z3⟩
  rw [if_neg this]; rfl
 | false =>
  rw [if_neg (by decide)] at hl
  obtain ⟨r, hr⟩ := hl
  have := hr.once h0.ok hk k o
  dsimp only at this
  rw [this, if_neg hc]; rfl
theorem toldN_take {told : List CapM} {i : Nat} {y : CapM} {k o : Int} (h : told[i]? = some y) : toldN (told.take (i + 1)) k o = toldN (told.take i) k o + if y.kind = k ∧ y.object = o then 1 else 0 := by
 unfold toldN
 rw [List.take_add_one, h, List.countP_append]
 congr 1
 by_cases e : y.kind = k ∧ y.object = o
 ·
  rw [if_pos e]; simp [e.1, e.2]
 ·
  rw [if_neg e]
  simp only [Option.toList_some, List.countP_singleton]
  rw [if_neg (fun hh => e (by simpa using hh))]
def keyOf (c : CapM) : CapM := ⟨c.kind, c.object, 0, 0, 0, 0⟩
end Go.Proofs.Ytdodfnjmkpgdbaa
end
section
set_option linter.unusedVariables false
set_option linter.unusedSimpArgs false
set_option linter.unusedSectionVars false
namespace Go.Proofs.Ytdodfnjmkpgdbaa
open Go.SL
def WasM (l : List DN) (row : List SlotM) (M : List (SlotM × Value × Nat)) (i : Nat) : Prop := ∀ j z, j < i → row[j]? = some z → mget z M = some (dget l z).1.v
theorem WasM.step {l : List DN} {row : List SlotM} {M : List (SlotM × Value × Nat)} {i t : Nat} {z : SlotM} (h : WasM l row M i) (hz : row[i]? = some z) : WasM l row (mput z (dget l z).1.v t M) (i + 1) := by
 intro j y hj hy
 rw [mget_mput]
 split
 ·
  rename_i e; subst e; rfl
 rename_i e
 rcases Nat.lt_succ_iff_lt_or_eq.1 hj with hj | rfl
 ·
  exact h j y hj hy
 rw [hz] at hy; cases hy; exact absurd rfl e
theorem tr_rev1000 {n cb : Nat} {H : Hp} {p : PS} (hC : CapsH n p cb H) (hw : WOk p) (hn : n ≤ 2 ^ 19) {sl : SlotM} (hk : (dget p.l sl).1.kind ≠ 0) (h : (ftKin p.F sl).length ≤ 1000) : Tr Try.prog 37 [cpP cb, slotV sl, .int .i64 1000] H (fun u L' => ∃ v' T' H', Slc 24 6 v' 0 [] T' ∧ CapsH n (revS p sl (ftKin p.F sl).length) cb H' ∧ u = .tuple #[v', .bool true, .int .i64 0] ∧ L' = T' ++ H') :=
  tr_revT hC hw hn hk (k := 1000) (by decide) (by decide) h
end Go.Proofs.Ytdodfnjmkpgdbaa
end
section
set_option linter.unusedVariables false
set_option linter.unusedSimpArgs false
namespace Go.Proofs.Ytdodfnjmkpgdbaa
open Go.SL
theorem tr_sameSlots (G : Hp) (a1 a2 : Option Addr) (c1 c2 : Nat) (l1 l2 : List SlotM) (hv1 : View G 2 (.slice a1 l1.length c1) l1.length (slotsCells l1)) (hv2 : View G 2 (.slice a2 l2.length c2) l2.length (slotsCells l2)) (hl : l1.length ≤ 2 ^ 40) : TrR Try.prog 21 [.slice a1 l1.length c1, .slice a2 l2.length c2] (G) (.bool (decide (l1 = l2))) := by
 refine Tr.enter Try.func21 rfl Try.ntmps21 rfl (fun W F => ?_)
 refine Wp.app ?_
 refine Wp.seq ?_
 refine Wp.region ?_
 refine Ops.pv (pv_assign rfl) rfl ?_
 refine Ops.nil ?_
 refine Ends.seq ?_
 refine Wp.seq ?_
 refine Wp.seq ?_
 refine Wp.region ?_
 refine Ops.pv (pv_move rfl) rfl ?_
 refine Ops.pv (pv_len_slice (T := 41) rfl rfl) rfl ?_
 refine Ops.pv (pv_move rfl) rfl ?_
 refine Ops.pv (pv_len_slice (T := 41) rfl rfl) rfl ?_
 refine Ops.pv (pv_neq rfl rfl) rfl ?_
 refine Ops.nil ?_
 refine Ends.seq ?_
 refine Wp.cond_dect rfl (fun h1 => ?_) (fun h1 => ?_)
 ·
  refine Wp.seq ?_
  refine Wp.region ?_
  refine Ops.pv (pv_assign rfl) rfl ?_
  refine Ops.nil ?_
  refine Ends.seq ?_
  refine Wp.ret ?_
  refine Ends.then_ret ?_
  exact Ends.ret (res1 rfl rfl) ⟨by rw [decide_eq_false (fun e => by subst e; omega)], rfl⟩
 refine Wp.skip ?_
 refine Ends.seq ?_
 refine Wp.seq ?_
 refine Wp.seq ?_
 refine Wp.region ?_
 refine Ops.pv (pv_assign rfl) rfl ?_
 refine Ops.nil ?_
 refine Ends.seq ?_
 refine Wp.block ?_
 refine Wp.loopK (σ := Nat) [(0, _), (1, _)] (fun s => [(5, .int .i64 s)]) (fun s => G ++ F) (fun s => s ≤ l1.length ∧ ∀ j, j < s → l1[j]? = l2[j]?) (fun s => l1.length - s) 0 ⟨Nat.zero_le _, fun j hj => absurd hj (Nat.not_lt_zero j)⟩ ⟨rfl, rfl, trivial⟩ ⟨rfl, trivial⟩ (by intro w ho; (try dsimp only [List.nil_append, List.cons_append]); exact Drop.own ho) ?_
 rintro i KK ⟨hi, hn⟩ hK
 dsimp only [List.cons_append, List.nil_append] at hK ⊢
 refine Wp.seq ?_
 refine Wp.seq ?_
 refine Wp.region ?_
 refine Ops.pv (pv_move rfl) rfl ?_
 refine Ops.pv (pv_move rfl) rfl ?_
 refine Ops.pv (pv_len_slice (T := 41) rfl rfl) rfl ?_
 refine Ops.pv (pv_lss rfl rfl) rfl ?_
 refine Ops.nil ?_
 refine Ends.seq ?_
 refine Wp.cond_dect rfl (fun h2 => ?_) (fun h2 => ?_)
 ·
  obtain ⟨b6, o6, cap6, cc6, T6, f6, hw6, hbv6, hr6⟩ := hv1.open (by omega)
  cases hw6
  obtain ⟨s1, hs1⟩ : ∃ s, l1[i]? = some s := ⟨_, List.getElem?_eq_getElem (by omega)⟩
  have hre1 := hr6.sub (i := i * 2) (l := 2)
  rw [slots_reads hs1] at hre1
  obtain ⟨b7, o7, cap7, cc7, T7, f7, hw7, hbv7, hr7⟩ := hv2.open (by omega)
  cases hw7
  obtain ⟨s2, hs2⟩ : ∃ s, l2[i]? = some s := ⟨_, List.getElem?_eq_getElem (by omega)⟩
  have hre2 := hr7.sub (i := i * 2) (l := 2)
  rw [slots_reads hs2] at hre2
  refine Wp.skip ?_
  refine Ends.seq ?_
  refine Wp.seq ?_
  refine Wp.block ?_
  refine Wp.seq ?_
  refine AnyH.start G 9 rfl ?_
  refine Tk 0 rfl rfl (pv_move rfl) rfl ?_
  refine Tk 1 rfl rfl (pv_move rfl) rfl ?_
  refine Tk 2 rfl rfl (pv_indexAddr (i := i) rfl rfl rfl (by omega)) rfl ?_
  refine Tk 3 rfl rfl (pv_loadK [.int .i64 s1.1, .int .i64 s1.2] rfl rfl rfl hre1) rfl ?_
  refine Tk 4 rfl rfl (pv_move rfl) rfl ?_
  refine Tk 5 rfl rfl (pv_move rfl) rfl ?_
  refine Tk 6 rfl rfl (pv_indexAddr (i := i) rfl rfl rfl (by omega)) rfl ?_
  refine Tk 7 rfl rfl (pv_loadK [.int .i64 s2.1, .int .i64 s2.2] rfl rfl rfl hre2) rfl ?_
  refine Tk 8 rfl rfl (pv_neq_slot (a := s1) (b := s2) rfl rfl) rfl ?_
  refine AnyH.done (by kernel_rfl) ?_
  refine Ends.seq ?_
  refine Wp.cond_dect rfl (fun h3 => ?_) (fun h3 => ?_)
  ·
   refine Wp.seq ?_
   refine Wp.region ?_
   refine Ops.pv (pv_assign rfl) rfl ?_
   refine Ops.nil ?_
   refine Ends.seq ?_
   refine Wp.ret ?_
   refine Ends.block_ret ?_
   refine Ends.then_ret ?_
   refine Ends.then_ret ?_
   refine Ends.block_ret ?_
   refine Ends.then_ret ?_
   exact Ends.ret (res1 rfl rfl) ⟨by rw [decide_eq_false (slots_neq hs1 hs2 (by assumption))], rfl⟩
  refine Wp.skip ?_
  refine Ends.block_normal ?_
  refine Ends.seq ?_
  refine Wp.region ?_
  refine Ops.pv (pv_move rfl) rfl ?_
  refine Ops.pv (pv_add rfl rfl (w64 (by omega) (by omega))) rfl ?_
  refine Ops.pv (pv_assign rfl) rfl ?_
  refine Ops.nil ?_
  refine Ends.goes ?_
  refine Goes.back (hK (i + 1) ⟨by omega, fun j hj => ?_⟩ (by omega)) ⟨rfl, rfl, rfl, trivial⟩
  rcases Nat.lt_succ_iff_lt_or_eq.1 hj with hj | rfl
  ·
   exact hn j hj
  rw [hs1, hs2, show s1 = s2 by simp_all]
 refine Wp.exit ?_
 refine Ends.then_exit ?_
 refine Ends.then_exit ?_
 refine Ends.block_hit ?_
 refine Ends.seq ?_
 refine Wp.seq ?_
 refine Wp.region ?_
 refine Ops.pv (pv_assign rfl) rfl ?_
 refine Ops.nil ?_
 refine Ends.seq ?_
 refine Wp.ret ?_
 exact Ends.ret (res1 rfl rfl) ⟨by rw [decide_eq_true (slots_same (by omega) (fun j hj => hn j (by omega)))], rfl⟩
end Go.Proofs.Ytdodfnjmkpgdbaa
end
section
set_option linter.unusedVariables false
set_option linter.unusedSimpArgs false
set_option linter.unusedSectionVars false
namespace Go.Proofs.Ytdodfnjmkpgdbaa
open Go.SL
theorem tr_del1000 {n cb : Nat} {H : Hp} {p : PS} (hC : CapsH n p cb H) (hw : WOk p) (hn : n ≤ 2 ^ 19) {sl : SlotM} (hk : (dget p.l sl).1.kind ≠ 0) {q : PS} {told : List CapM} (h : ∃ r, DRun [sl] sl ⟨p, [], 1000⟩ true ⟨q, told, r⟩) : Tr Try.prog 33 [cpP cb, slotV sl, .int .i64 1000] H (fun u L' => ∃ v' T' H', Slc 24 6 v' told.length (cel CapM.cells told) T' ∧ CapsH n q cb H' ∧ u = .tuple #[v', .bool true, .int .i64 0] ∧ L' = T' ++ H') :=
  (tr_rDelete n cb H p hC hw.ok hn sl 1000).mono fun u L' e => by
    rcases e with ⟨h0, _⟩ | ⟨_, b, t', v', T', H', hA, hI, rfl, rfl⟩
    · exact absurd (rvErr_0 hk (by decide) (by decide)) h0
    · obtain ⟨r, hr⟩ := h
      obtain ⟨rfl, rfl⟩ := hr.det (hA.drun hw.ok (List.mem_singleton.2 rfl))
      exact ⟨v', T', H', hI.2.1, hI.1, rfl, rfl⟩
theorem tr_rev1000F {all : Bool} {n cb : Nat} {H : Hp} {p : PS} (hC : CapsH n p cb H) (hw : WOk p) (hn : n ≤ 2 ^ 19) {sl : SlotM} (hk : (dget p.l sl).1.kind ≠ 0) (h : (ftKin p.F sl).length ≤ 1000) {q : PS} {told : List CapM} (hf : told = [] ∧ q = revS p sl (ftKin p.F sl).length) : Tr Try.prog 37 [cpP cb, slotV sl, .int .i64 1000] H (fun u L' => ∃ v' T' H', Slc 24 6 v' told.length (cel CapM.cells told) T' ∧ CapsH n q cb H' ∧ u = .tuple #[v', .bool true, .int .i64 0] ∧ L' = T' ++ H') := by
 obtain ⟨rfl, rfl⟩ := hf
 exact tr_rev1000 hC hw hn hk h
set_option maxHeartbeats 32000000 in
theorem tr_revokeTells (G : Hp) (a : Option Addr) (c : Nat) (l : List OpR) (ha : ArgS G 19 a (l.map OpR.cells)) (hrg : ∀ o, o ∈ l → OpC.Rg o.o) (hl : l.length ≤ maxLen) (sl : SlotM) (steps : Int) (all : Bool) : TrR Try.prog 10 [.slice a l.length c, slotV sl, .int .i64 steps, .bool all] (G) (.bool true) := by
 have hw0 : WOk (madeP l) := madeTo_wok hrg _
 have h24 := made_full hw0.ok
 have hkle := made_kin hw0.ok sl
 obtain ⟨K, hK⟩ : ∃ K, K = 1 + uI steps % 5 := ⟨_, rfl⟩
 have hu5 : uI steps % 5 < 5 := Nat.mod_lt _ (by decide)
 have hK1 : 1 ≤ K := by omega
 have hK5 : K ≤ 5 := by omega
 refine Tr.enter Try.func10 rfl Try.ntmps10 rfl (fun W F => ?_)
 refine Wp.app ?_
 refine Wp.seq ?_
 refine Wp.region ?_
 refine Ops.ef rfl (ef_boxK rfl rfl) ?_
 rintro _ _ ⟨b1, rfl, rfl⟩
 refine Ops.pv (pv_assign rfl) rfl ?_
 refine Ops.nil ?_
 refine Ends.seq ?_
 refine Wp.seq ?_
 refine Wp.seq ?_
 refine Wp.region ?_
 refine Ops.ef rfl (ef_callr (tr_rworks) rfl rfl) ?_
 rintro _ _ ⟨rfl, rfl⟩
 refine Ops.pv (pv_not rfl) rfl ?_
 refine Ops.nil ?_
 refine Ends.seq ?_
 refine Wp.cond_false rfl ?_
 refine Wp.skip ?_
 refine Ends.seq ?_
 refine Wp.seq ?_
 refine Wp.region ?_
 refine Ops.pv (pv_move rfl) rfl ?_
 refine Ops.ef rfl (ef_call (tr_rmade G a c l ha hl) rfl rfl) ?_
 rintro _ _ ⟨_, _, ⟨cb1, H1, rfl, hC1, rfl⟩, rfl, rfl⟩
 refine Ops.app ?_
 refine Ops.pv (pv_move rfl) rfl ?_
 refine Ops.ef rfl (ef_call (tr_rmade G a c l ha hl) rfl rfl) ?_
 rintro _ _ ⟨_, _, ⟨cb2, H2, rfl, hC2, rfl⟩, rfl, rfl⟩
 refine Ops.app ?_
 obtain ⟨sb, tb, Ls, Lt, hS, hT, rfl⟩ := hC1
 simp only [List.cons_append, List.append_assoc]
 refine Ops.pv (pv_assign rfl) rfl ?_
 refine Ops.pv (pv_assign rfl) rfl ?_
 refine Ops.nil ?_
 refine Ends.seq ?_
 refine Wp.seq ?_
 refine Wp.region ?_
 refine Ops.pv (pv_move rfl) rfl ?_
 refine Ops.pv (pv_conv rfl (uI_eq steps)) rfl ?_
 refine Ops.pv (pv_rem rfl rfl (by decide) (tmod_nat (b := 5) rfl)) rfl ?_
 refine Ops.pv (pv_conv rfl (w64n (k := uI steps % 5) rfl (by omega))) rfl ?_
 refine Ops.pv (pv_add rfl rfl (w64n (k := K) (by omega) (by omega))) rfl ?_
 refine Ops.pv (pv_assign rfl) rfl ?_
 refine Ops.nil ?_
 refine Ends.seq ?_
 refine Wp.cutK (σ := Nat) [(2, _), (3, _), (5, _), (9, _), (10, _)] (fun s => [(11, .pointer (some ⟨s, 0, none⟩)), (12, .int .i64 (dget (madeP l).l sl).2)]) (fun s => (s, .cells (dget (madeP l).l sl).1.cells.toArray 24) :: (b1, .cells [.int .i64 sl.1, .int .i64 sl.2].toArray 38) :: (cBlk cb1 sb tb :: (Ls ++ (Lt ++ (H2 ++ (G ++ F)))))) (fun s => True) ⟨rfl, rfl, rfl, rfl, rfl, trivial⟩ (fun _ KK hC0 => ?_) ?_
 ·
  dsimp only [List.cons_append, List.nil_append] at hC0
  refine AnyH.start ((b1, .cells [.int .i64 sl.1, .int .i64 sl.2].toArray 38) :: cBlk cb1 sb tb :: []) 13 rfl ?_
  refine Tk 0 rfl rfl (pv_move rfl) rfl ?_
  refine Tk 1 rfl rfl (pv_nilCheck rfl) rfl ?_
  refine Tk 2 rfl rfl (pv_fieldAddr0 rfl rfl) rfl ?_
  refine Tk 3 rfl rfl (pv_fieldAddr0 rfl rfl) rfl ?_
  refine Tk 4 rfl rfl (pv_load rfl rfl rfl) rfl ?_
  refine Tk 5 rfl rfl (pv_loadK [_, _] rfl rfl rfl ⟨rfl, rfl, trivial⟩) rfl ?_
  refine AnyH.two 6 10 (by kernel_rfl) ?_ ?_
  ·
   refine Turn.ef rfl rfl (ef_callr (sf_get hS sl) rfl rfl) ?_ ?_
   ·
    rintro _ _ ⟨rfl, rfl⟩; infer_instance
   rintro _ _ ⟨rfl, rfl⟩
   refine Tk 7 rfl rfl (pv_move rfl) rfl ?_
   refine Tk 8 rfl rfl (pv_extract rfl rfl) rfl ?_
   refine Tk 9 rfl rfl (pv_extract rfl rfl) rfl ?_
   refine AnyH.one 10 (by kernel_rfl) ?_
   refine Turn.ef rfl rfl (ef_allocK tyZ24 rfl) ?_ ?_
   ·
    rintro _ _ ⟨b2, rfl, rfl⟩; infer_instance
   rintro _ _ ⟨b2, rfl, rfl⟩
   refine AnyH.one 11 (by kernel_rfl) ?_
   refine Turn.ef rfl rfl (ef_storeK rfl rfl rfl rfl) ?_ ?_
   ·
    rintro _ _ ⟨rfl, rfl⟩; infer_instance
   rintro _ _ ⟨rfl, rfl⟩
   refine Tk 12 rfl rfl (pv_assign rfl) rfl ?_
   refine AnyH.done (by kernel_rfl) ?_
   refine Ends.goes ?_
   refine Goes.back (hC0 b2 trivial) ⟨rfl, rfl, rfl, rfl, rfl, rfl, rfl, trivial⟩
  refine Turn.ef rfl rfl (ef_allocK tyZ24 rfl) ?_ ?_
  ·
   rintro _ _ ⟨b3, rfl, rfl⟩; infer_instance
  rintro _ _ ⟨b3, rfl, rfl⟩
  refine AnyH.one 6 (by kernel_rfl) ?_
  refine Turn.ef rfl rfl (ef_callr (sf_get hS sl) rfl rfl) ?_ ?_
  ·
   rintro _ _ ⟨rfl, rfl⟩; infer_instance
  rintro _ _ ⟨rfl, rfl⟩
  refine Tk 7 rfl rfl (pv_move rfl) rfl ?_
  refine Tk 8 rfl rfl (pv_extract rfl rfl) rfl ?_
  refine Tk 9 rfl rfl (pv_extract rfl rfl) rfl ?_
  refine AnyH.one 11 (by kernel_rfl) ?_
  refine Turn.ef rfl rfl (ef_storeK rfl rfl rfl rfl) ?_ ?_
  ·
   rintro _ _ ⟨rfl, rfl⟩; infer_instance
  rintro _ _ ⟨rfl, rfl⟩
  refine Tk 12 rfl rfl (pv_assign rfl) rfl ?_
  refine AnyH.done (by kernel_rfl) ?_
  refine Ends.goes ?_
  refine Goes.back (hC0 b3 trivial) ⟨rfl, rfl, rfl, rfl, rfl, rfl, rfl, trivial⟩
 rintro bw _
 dsimp only [List.cons_append, List.nil_append] at ⊢
 refine Wp.seq ?_
 refine Wp.seq ?_
 refine Wp.region ?_
 refine Ops.pv (pv_move rfl) rfl ?_
 refine Ops.pv (pv_neq rfl rfl) rfl ?_
 refine Ops.pv (pv_move rfl) rfl ?_
 refine Ops.pvcn rfl rfl (fun hg => pv_fieldAddr0 rfl rfl) rfl ?_
 refine Ops.pvcn rfl rfl (fun hg => Pv.setE (t := 51) rfl (cv_pos hg) (pv_load rfl rfl rfl)) rfl ?_
 refine Ops.pvcn rfl rfl (fun hg => Pv.setE (t := 51) rfl (cv_pos hg) (Pv.setE (t := 52) rfl (cv_pos hg) (pv_eql rfl rfl))) rfl ?_
 refine Ops.pv (pv_pick_or rfl rfl) rfl ?_
 refine Ops.nil ?_
 refine Ends.seq ?_
 refine Wp.cond_dect rfl (fun h1 => ?_) (fun h1 => ?_)
 ·
  refine Wp.seq ?_
  refine Wp.region ?_
  refine Ops.pv (pv_assign rfl) rfl ?_
  refine Ops.nil ?_
  refine Ends.seq ?_
  refine Wp.ret ?_
  refine Ends.then_ret ?_
  exact Ends.ret (res1 rfl rfl) ⟨rfl, rfl⟩
 have hk0 : (dget (madeP l).l sl).1.kind ≠ 0 := by intro h; simp_all
 refine Wp.skip ?_
 refine Ends.seq ?_
 refine Wp.seq ?_
 refine Wp.region ?_
 refine Ops.pv (pv_move rfl) rfl ?_
 refine Ops.pv (pv_nilCheck rfl) rfl ?_
 refine Ops.pv (pv_fieldAddr0 rfl rfl) rfl ?_
 refine Ops.pv (pv_fieldAddr0 rfl rfl) rfl ?_
 refine Ops.pv (pv_load rfl rfl rfl) rfl ?_
 refine Ops.ef rfl (ef_call (sf_full hS) rfl rfl) ?_
 rintro _ _ ⟨_, _, ⟨C1, hc1, rfl⟩, rfl, rfl⟩
 refine Ops.app ?_
 obtain ⟨pp1, qq1, rfl⟩ := hc1.form
 refine Ops.pv (pv_assign rfl) rfl ?_
 refine Ops.nil ?_
 refine Ends.seq ?_
 refine Wp.seq ?_
 refine Wp.region ?_
 refine Ops.ef rfl (ef_makeMapE CapM.v rfl rfl) ?_
 rintro _ _ ⟨bm, rfl, rfl⟩
 refine Ops.pv (pv_assign rfl) rfl ?_
 refine Ops.nil ?_
 refine Ends.seq ?_
 refine Wp.seq ?_
 refine Wp.region ?_
 refine Ops.pv (pv_assign rfl) rfl ?_
 refine Ops.nil ?_
 refine Ends.seq ?_
 refine Wp.seq ?_
 refine Wp.seq ?_
 refine Wp.region ?_
 refine Ops.pv (pv_assign rfl) rfl ?_
 refine Ops.nil ?_
 refine Ends.seq ?_
 refine Wp.block ?_
 refine Wp.loopK (σ := Nat × List (CapM × Value × Nat) × Nat × List CapM × Option Addr × Nat × Hp) [(2, _), (3, _), (5, _), (9, _), (10, _), (13, _), (14, _)] (fun s => [(15, .slice s.2.2.2.2.1 s.2.2.2.1.length s.2.2.2.2.2.1), (16, .int .i64 s.1)]) (fun s => (bm, mapO CapM.v s.2.1 s.2.2.1) :: (s.2.2.2.2.2.2 ++ (C1 ++ ((b1, .cells [.int .i64 sl.1, .int .i64 sl.2].toArray 38) :: (cBlk cb1 sb tb :: (Ls ++ (Lt ++ (H2 ++ (G ++ F))))))))) (fun s => s.1 ≤ (dfull (madeP l).l).length ∧ AllI s.1 s.2.1 ∧ Slc 24 6 (.slice s.2.2.2.2.1 s.2.2.2.1.length s.2.2.2.2.2.1) s.2.2.2.1.length (cel CapM.cells s.2.2.2.1) s.2.2.2.2.2.2 ∧ s.2.2.2.1.length ≤ s.1 ∧ ∀ x, x ∈ s.2.2.2.1 → dcount (madeP l).l x.kind x.object ≠ 0) (fun s => (dfull (madeP l).l).length - s.1) (0, [], 0, [], none, 0, []) ⟨Nat.zero_le _, fun e he => (by cases he), Slc.nil _ _, Nat.zero_le _, fun x hx => (by cases hx)⟩ ⟨rfl, rfl, rfl, rfl, rfl, rfl, rfl, trivial⟩ ⟨rfl, rfl, trivial⟩ (by intro w ho; (try dsimp only [List.nil_append, List.cons_append]); exact Drop.own ho) ?_
 rintro ⟨i, Mw, clk, keys, pk, qk, Kk⟩ KK ⟨hi, hAll, hsk, hkl, hkeys⟩ hK
 dsimp only [List.cons_append, List.nil_append] at hK ⊢
 dsimp only at hi hAll hsk hkl hkeys ⊢
 refine Wp.seq ?_
 refine Wp.seq ?_
 refine Wp.region ?_
 refine Ops.pv (pv_move rfl) rfl ?_
 refine Ops.pv (pv_move rfl) rfl ?_
 refine Ops.pv (pv_len_slice (T := 41) rfl rfl) rfl ?_
 refine Ops.pv (pv_lss rfl rfl) rfl ?_
 refine Ops.nil ?_
 refine Ends.seq ?_
 refine Wp.cond_dect rfl (fun h2 => ?_) (fun h2 => ?_)
 ·
  obtain ⟨b5, o5, cap5, cc5, T5, f5, hv5, hbv5, hr5⟩ := hc1.view.open (by omega)
  cases hv5
  obtain ⟨z, hz⟩ : ∃ s, (dfull (madeP l).l)[i]? = some s := ⟨_, List.getElem?_eq_getElem (by omega)⟩
  have hrez := hr5.sub (i := i * 2) (l := 2)
  rw [slots_reads hz] at hrez
  obtain ⟨j, hj, hjv⟩ := hAll.get (keyOf (dget (madeP l).l z).1)
  have hkz : dcount (madeP l).l (keyOf (dget (madeP l).l z).1).kind (keyOf (dget (madeP l).l z).1).object ≠ 0 := (dcount_pos hw0.ok.rel).2 ⟨z, (mem_dfull hw0.ok.rel).1 (List.mem_of_getElem? hz), rfl, rfl⟩
  refine Wp.skip ?_
  refine Ends.seq ?_
  refine Wp.seq ?_
  refine Wp.block ?_
  refine Wp.cutK (σ := Nat) [(2, _), (3, _), (5, _), (9, _), (10, _), (13, _), (14, _), (15, _), (16, _)] (fun s => [(17, .pointer (some ⟨s, 0, none⟩))]) (fun s => (s, .cells (dget (madeP l).l z).1.cells.toArray 24) :: (bm, mapO CapM.v Mw clk) :: (Kk ++ (C1 ++ ((b1, .cells [.int .i64 sl.1, .int .i64 sl.2].toArray 38) :: (cBlk cb1 sb tb :: (Ls ++ (Lt ++ (H2 ++ (G ++ F))))))))) (fun s => True) ⟨rfl, rfl, rfl, rfl, rfl, rfl, rfl, rfl, rfl, trivial⟩ (fun _ KK hC0 => ?_) ?_
  ·
   dsimp only [List.cons_append, List.nil_append] at hC0
   refine AnyH.start (C1 ++ (cBlk cb1 sb tb :: [])) 16 rfl ?_
   refine Tk 0 rfl rfl (pv_move rfl) rfl ?_
   refine Tk 1 rfl rfl (pv_nilCheck rfl) rfl ?_
   refine Tk 2 rfl rfl (pv_fieldAddr0 rfl rfl) rfl ?_
   refine Tk 3 rfl rfl (pv_fieldAddr0 rfl rfl) rfl ?_
   refine Tk 4 rfl rfl (pv_load rfl rfl rfl) rfl ?_
   refine Tk 5 rfl rfl (pv_move rfl) rfl ?_
   refine Tk 6 rfl rfl (pv_move rfl) rfl ?_
   refine Tk 7 rfl rfl (pv_indexAddr (i := i) rfl rfl rfl (by omega)) rfl ?_
   refine Tk 8 rfl rfl (pv_loadK [.int .i64 z.1, .int .i64 z.2] rfl rfl rfl hrez) rfl ?_
   refine AnyH.two 9 13 (by kernel_rfl) ?_ ?_
   ·
    refine Turn.ef rfl rfl (ef_callr (sf_get hS z) rfl rfl) ?_ ?_
    ·
     rintro _ _ ⟨rfl, rfl⟩; infer_instance
    rintro _ _ ⟨rfl, rfl⟩
    refine Tk 10 rfl rfl (pv_move rfl) rfl ?_
    refine Tk 11 rfl rfl (pv_extract rfl rfl) rfl ?_
    refine Tk 12 rfl rfl (pv_extract rfl rfl) rfl ?_
    refine AnyH.one 13 (by kernel_rfl) ?_
    refine Turn.ef rfl rfl (ef_allocK tyZ24 rfl) ?_ ?_
    ·
     rintro _ _ ⟨b4, rfl, rfl⟩; infer_instance
    rintro _ _ ⟨b4, rfl, rfl⟩
    refine AnyH.one 14 (by kernel_rfl) ?_
    refine Turn.ef rfl rfl (ef_storeK rfl rfl rfl rfl) ?_ ?_
    ·
     rintro _ _ ⟨rfl, rfl⟩; infer_instance
    rintro _ _ ⟨rfl, rfl⟩
    refine Tk 15 rfl rfl (pv_assign rfl) rfl ?_
    refine AnyH.done (by kernel_rfl) ?_
    refine Ends.goes ?_
    refine Goes.back (hC0 b4 trivial) ⟨rfl, rfl, rfl, rfl, rfl, rfl, rfl, rfl, rfl, rfl, trivial⟩
   refine Turn.ef rfl rfl (ef_allocK tyZ24 rfl) ?_ ?_
   ·
    rintro _ _ ⟨b5, rfl, rfl⟩; infer_instance
   rintro _ _ ⟨b5, rfl, rfl⟩
   refine AnyH.one 9 (by kernel_rfl) ?_
   refine Turn.ef rfl rfl (ef_callr (sf_get hS z) rfl rfl) ?_ ?_
   ·
    rintro _ _ ⟨rfl, rfl⟩; infer_instance
   rintro _ _ ⟨rfl, rfl⟩
   refine Tk 10 rfl rfl (pv_move rfl) rfl ?_
   refine Tk 11 rfl rfl (pv_extract rfl rfl) rfl ?_
   refine Tk 12 rfl rfl (pv_extract rfl rfl) rfl ?_
   refine AnyH.one 14 (by kernel_rfl) ?_
   refine Turn.ef rfl rfl (ef_storeK rfl rfl rfl rfl) ?_ ?_
   ·
    rintro _ _ ⟨rfl, rfl⟩; infer_instance
   rintro _ _ ⟨rfl, rfl⟩
   refine Tk 15 rfl rfl (pv_assign rfl) rfl ?_
   refine AnyH.done (by kernel_rfl) ?_
   refine Ends.goes ?_
   refine Goes.back (hC0 b5 trivial) ⟨rfl, rfl, rfl, rfl, rfl, rfl, rfl, rfl, rfl, rfl, trivial⟩
  rintro bw _
  dsimp only [List.cons_append, List.nil_append] at ⊢
  refine Wp.seq ?_
  refine Wp.region ?_
  refine Ops.pv (pv_fieldAddr0 rfl rfl) rfl ?_
  refine Ops.pv (pv_load rfl rfl rfl) rfl ?_
  refine Ops.pv (pv_fieldAddr0 rfl rfl) rfl ?_
  refine Ops.pv (pv_load rfl rfl rfl) rfl ?_
  refine Ops.pv (pv_build rfl) rfl ?_
  refine Ops.ef rfl (ef_allocK tyZ24 rfl) ?_
  rintro _ _ ⟨b6, rfl, rfl⟩
  refine Ops.ef rfl (ef_storeK rfl rfl rfl rfl) ?_
  rintro _ _ ⟨rfl, rfl⟩
  refine Ops.nil ?_
  refine Ends.seq ?_
  refine Wp.seq ?_
  refine Wp.seq ?_
  refine Wp.region ?_
  refine Ops.pv (pv_move rfl) rfl ?_
  refine Ops.pv (pv_loadK [_, _, _, _, _, _] rfl rfl rfl ⟨rfl, rfl, rfl, rfl, rfl, rfl, trivial⟩) rfl ?_
  refine Ops.pv (pv_lookup (enc := CapM.v) (keyOf (dget (madeP l).l z).1) rfl rfl hjv) rfl ?_
  refine Ops.pv (pv_eql rfl rfl) rfl ?_
  refine Ops.nil ?_
  refine Ends.seq ?_
  refine Wp.cond_dect rfl (fun h89 => ?_) (fun h89 => ?_)
  ·
   refine Wp.region ?_
   refine Ops.pv (pv_move rfl) rfl ?_
   refine Ops.pv (pv_loadK [_, _, _, _, _, _] rfl rfl rfl ⟨rfl, rfl, rfl, rfl, rfl, rfl, trivial⟩) rfl ?_
   refine Ops.ef rfl (ef_buildSlice1 (k := 6) rfl rfl rfl rfl rfl) ?_
   rintro _ _ ⟨b7, rfl, rfl⟩
   refine Ops.ef rfl (ef_append (H := Kk) (xs := (keyOf (dget (madeP l).l z).1).cells) rfl hsk rfl ⟨rfl, rfl, rfl, rfl, rfl, rfl, trivial⟩ rfl rfl rfl (by omega) (by omega) rfl rfl) ?_
   rintro _ _ ⟨u1, K1, hu1, rfl, rfl⟩
   refine Ops.app ?_
   have hsk2 : Slc 24 6 u1 (keys ++ [(keyOf (dget (madeP l).l z).1)]).length (cel CapM.cells (keys ++ [(keyOf (dget (madeP l).l z).1)])) K1 := by rw [cel_app, cel_one1, List.length_append]; exact hu1
   refine Ops.pv (pv_assign rfl) rfl ?_
   refine Ops.nil ?_
   refine Ends.seq ?_
   refine AnyH.start ((b6, .cells [.int .i64 (dget (madeP l).l z).1.kind, .int .i64 (dget (madeP l).l z).1.object, .int .i64 0, .int .u64 0, .int .u64 0, .int .i64 0].toArray 24) :: []) 7 rfl ?_
   refine Tk 0 rfl rfl (pv_move rfl) rfl ?_
   refine Tk 1 rfl rfl (pv_loadK [_, _, _, _, _, _] rfl rfl rfl ⟨rfl, rfl, rfl, rfl, rfl, rfl, trivial⟩) rfl ?_
   refine AnyH.two 2 4 (by kernel_rfl) ?_ ?_
   ·
    refine Turn.ef rfl rfl (ef_pv (pv_lookup (enc := CapM.v) (keyOf (dget (madeP l).l z).1) rfl rfl (r := .int .i64 (j : Int)) (by first | exact hjv | (rw [mget_ment]; exact hjv))) rfl) ?_ ?_
    ·
     rintro _ _ ⟨rfl, rfl⟩; infer_instance
    rintro _ _ ⟨rfl, rfl⟩
    refine Tk 3 rfl rfl (pv_add rfl rfl (w64n (k := j + 1) (by omega) (by omega))) rfl ?_
    refine AnyH.one 4 (by kernel_rfl) ?_
    refine Turn.ef rfl rfl (ef_mapEntry (enc := CapM.v) (zv := .int .i64 0) (keyOf (dget (madeP l).l z).1) rfl rfl rfl hjv) ?_ ?_
    ·
     rintro _ _ ⟨rfl, rfl⟩; infer_instance
    rintro _ _ ⟨rfl, rfl⟩
    refine Tk 5 rfl rfl (pv_extract rfl rfl) rfl ?_
    refine AnyH.one 6 (by kernel_rfl) ?_
    refine Turn.ef rfl rfl (ef_entryStore (enc := CapM.v) (v := .int .i64 ((j + 1 : Nat) : Int)) (s := mborn (keyOf (dget (madeP l).l z).1) clk Mw) rfl rfl rfl (ment_born (keyOf (dget (madeP l).l z).1) _ clk Mw)) ?_ ?_
    ·
     rintro _ _ ⟨rfl, rfl⟩; infer_instance
    rintro _ _ ⟨rfl, rfl⟩
    refine AnyH.done (by kernel_rfl) ?_
    refine Ends.block_normal ?_
    refine Ends.seq ?_
    refine Wp.region ?_
    refine Ops.pv (pv_move rfl) rfl ?_
    refine Ops.pv (pv_add rfl rfl (w64n (k := i + 1) (by omega) (by omega))) rfl ?_
    refine Ops.pv (pv_assign rfl) rfl ?_
    refine Ops.nil ?_
    refine Ends.goes ?_
    obtain ⟨pk2, qk2, rfl⟩ := hsk2.form
    refine Goes.back (hK (i + 1, mst (mborn (keyOf (dget (madeP l).l z).1) clk Mw) (.int .i64 ((j + 1 : Nat) : Int)) (ment (keyOf (dget (madeP l).l z).1) (.int .i64 0) clk Mw), mclk (keyOf (dget (madeP l).l z).1) Mw clk, keys ++ [(keyOf (dget (madeP l).l z).1)], pk2, qk2, K1) ⟨by dsimp only; omega, (hAll.ment _).mst (by omega), hsk2, by dsimp only; rw [List.length_append]; simp only [List.length_singleton]; omega, fun x hx => (by rcases List.mem_append.1 hx with h | h; exact hkeys x h; rw [List.mem_singleton.1 h]; exact hkz)⟩ (by dsimp only; omega)) ⟨rfl, rfl, rfl, rfl, rfl, rfl, rfl, rfl, rfl, trivial⟩
   refine Turn.ef rfl rfl (ef_mapEntry (enc := CapM.v) (zv := .int .i64 0) (keyOf (dget (madeP l).l z).1) rfl rfl rfl hjv) ?_ ?_
   ·
    rintro _ _ ⟨rfl, rfl⟩; infer_instance
   rintro _ _ ⟨rfl, rfl⟩
   refine Tk 5 rfl rfl (pv_extract rfl rfl) rfl ?_
   refine AnyH.one 2 (by kernel_rfl) ?_
   refine Turn.ef rfl rfl (ef_pv (pv_lookup (enc := CapM.v) (keyOf (dget (madeP l).l z).1) rfl rfl (r := .int .i64 (j : Int)) (by first | exact hjv | (rw [mget_ment]; exact hjv))) rfl) ?_ ?_
   ·
    rintro _ _ ⟨rfl, rfl⟩; infer_instance
   rintro _ _ ⟨rfl, rfl⟩
   refine Tk 3 rfl rfl (pv_add rfl rfl (w64n (k := j + 1) (by omega) (by omega))) rfl ?_
   refine AnyH.one 6 (by kernel_rfl) ?_
   refine Turn.ef rfl rfl (ef_entryStore (enc := CapM.v) (v := .int .i64 ((j + 1 : Nat) : Int)) (s := mborn (keyOf (dget (madeP l).l z).1) clk Mw) rfl rfl rfl (ment_born (keyOf (dget (madeP l).l z).1) _ clk Mw)) ?_ ?_
   ·
    rintro _ _ ⟨rfl, rfl⟩; infer_instance
   rintro _ _ ⟨rfl, rfl⟩
   refine AnyH.done (by kernel_rfl) ?_
   refine Ends.block_normal ?_
   refine Ends.seq ?_
   refine Wp.region ?_
   refine Ops.pv (pv_move rfl) rfl ?_
   refine Ops.pv (pv_add rfl rfl (w64n (k := i + 1) (by omega) (by omega))) rfl ?_
   refine Ops.pv (pv_assign rfl) rfl ?_
   refine Ops.nil ?_
   refine Ends.goes ?_
   obtain ⟨pk2, qk2, rfl⟩ := hsk2.form
   refine Goes.back (hK (i + 1, mst (mborn (keyOf (dget (madeP l).l z).1) clk Mw) (.int .i64 ((j + 1 : Nat) : Int)) (ment (keyOf (dget (madeP l).l z).1) (.int .i64 0) clk Mw), mclk (keyOf (dget (madeP l).l z).1) Mw clk, keys ++ [(keyOf (dget (madeP l).l z).1)], pk2, qk2, K1) ⟨by dsimp only; omega, (hAll.ment _).mst (by omega), hsk2, by dsimp only; rw [List.length_append]; simp only [List.length_singleton]; omega, fun x hx => (by rcases List.mem_append.1 hx with h | h; exact hkeys x h; rw [List.mem_singleton.1 h]; exact hkz)⟩ (by dsimp only; omega)) ⟨rfl, rfl, rfl, rfl, rfl, rfl, rfl, rfl, rfl, trivial⟩
  refine Wp.skip ?_
  refine Ends.seq ?_
  refine AnyH.start ((b6, .cells [.int .i64 (dget (madeP l).l z).1.kind, .int .i64 (dget (madeP l).l z).1.object, .int .i64 0, .int .u64 0, .int .u64 0, .int .i64 0].toArray 24) :: []) 7 rfl ?_
  refine Tk 0 rfl rfl (pv_move rfl) rfl ?_
  refine Tk 1 rfl rfl (pv_loadK [_, _, _, _, _, _] rfl rfl rfl ⟨rfl, rfl, rfl, rfl, rfl, rfl, trivial⟩) rfl ?_
  refine AnyH.two 2 4 (by kernel_rfl) ?_ ?_
  ·
   refine Turn.ef rfl rfl (ef_pv (pv_lookup (enc := CapM.v) (keyOf (dget (madeP l).l z).1) rfl rfl (r := .int .i64 (j : Int)) (by first | exact hjv | (rw [mget_ment]; exact hjv))) rfl) ?_ ?_
   ·
    rintro _ _ ⟨rfl, rfl⟩; infer_instance
   rintro _ _ ⟨rfl, rfl⟩
   refine Tk 3 rfl rfl (pv_add rfl rfl (w64n (k := j + 1) (by omega) (by omega))) rfl ?_
   refine AnyH.one 4 (by kernel_rfl) ?_
   refine Turn.ef rfl rfl (ef_mapEntry (enc := CapM.v) (zv := .int .i64 0) (keyOf (dget (madeP l).l z).1) rfl rfl rfl hjv) ?_ ?_
   ·
    rintro _ _ ⟨rfl, rfl⟩; infer_instance
   rintro _ _ ⟨rfl, rfl⟩
   refine Tk 5 rfl rfl (pv_extract rfl rfl) rfl ?_
   refine AnyH.one 6 (by kernel_rfl) ?_
   refine Turn.ef rfl rfl (ef_entryStore (enc := CapM.v) (v := .int .i64 ((j + 1 : Nat) : Int)) (s := mborn (keyOf (dget (madeP l).l z).1) clk Mw) rfl rfl rfl (ment_born (keyOf (dget (madeP l).l z).1) _ clk Mw)) ?_ ?_
   ·
    rintro _ _ ⟨rfl, rfl⟩; infer_instance
   rintro _ _ ⟨rfl, rfl⟩
   refine AnyH.done (by kernel_rfl) ?_
   refine Ends.block_normal ?_
   refine Ends.seq ?_
   refine Wp.region ?_
   refine Ops.pv (pv_move rfl) rfl ?_
   refine Ops.pv (pv_add rfl rfl (w64n (k := i + 1) (by omega) (by omega))) rfl ?_
   refine Ops.pv (pv_assign rfl) rfl ?_
   refine Ops.nil ?_
   refine Ends.goes ?_
   refine Goes.back (hK (i + 1, mst (mborn (keyOf (dget (madeP l).l z).1) clk Mw) (.int .i64 ((j + 1 : Nat) : Int)) (ment (keyOf (dget (madeP l).l z).1) (.int .i64 0) clk Mw), mclk (keyOf (dget (madeP l).l z).1) Mw clk, keys, pk, qk, Kk) ⟨by dsimp only; omega, (hAll.ment _).mst (by omega), hsk, by dsimp only; omega, hkeys⟩ (by dsimp only; omega)) ⟨rfl, rfl, rfl, rfl, rfl, rfl, rfl, rfl, rfl, trivial⟩
  refine Turn.ef rfl rfl (ef_mapEntry (enc := CapM.v) (zv := .int .i64 0) (keyOf (dget (madeP l).l z).1) rfl rfl rfl hjv) ?_ ?_
  ·
   rintro _ _ ⟨rfl, rfl⟩; infer_instance
  rintro _ _ ⟨rfl, rfl⟩
  refine Tk 5 rfl rfl (pv_extract rfl rfl) rfl ?_
  refine AnyH.one 2 (by kernel_rfl) ?_
  refine Turn.ef rfl rfl (ef_pv (pv_lookup (enc := CapM.v) (keyOf (dget (madeP l).l z).1) rfl rfl (r := .int .i64 (j : Int)) (by first | exact hjv | (rw [mget_ment]; exact hjv))) rfl) ?_ ?_
  ·
   rintro _ _ ⟨rfl, rfl⟩; infer_instance
  rintro _ _ ⟨rfl, rfl⟩
  refine Tk 3 rfl rfl (pv_add rfl rfl (w64n (k := j + 1) (by omega) (by omega))) rfl ?_
  refine AnyH.one 6 (by kernel_rfl) ?_
  refine Turn.ef rfl rfl (ef_entryStore (enc := CapM.v) (v := .int .i64 ((j + 1 : Nat) : Int)) (s := mborn (keyOf (dget (madeP l).l z).1) clk Mw) rfl rfl rfl (ment_born (keyOf (dget (madeP l).l z).1) _ clk Mw)) ?_ ?_
  ·
   rintro _ _ ⟨rfl, rfl⟩; infer_instance
  rintro _ _ ⟨rfl, rfl⟩
  refine AnyH.done (by kernel_rfl) ?_
  refine Ends.block_normal ?_
  refine Ends.seq ?_
  refine Wp.region ?_
  refine Ops.pv (pv_move rfl) rfl ?_
  refine Ops.pv (pv_add rfl rfl (w64n (k := i + 1) (by omega) (by omega))) rfl ?_
  refine Ops.pv (pv_assign rfl) rfl ?_
  refine Ops.nil ?_
  refine Ends.goes ?_
  refine Goes.back (hK (i + 1, mst (mborn (keyOf (dget (madeP l).l z).1) clk Mw) (.int .i64 ((j + 1 : Nat) : Int)) (ment (keyOf (dget (madeP l).l z).1) (.int .i64 0) clk Mw), mclk (keyOf (dget (madeP l).l z).1) Mw clk, keys, pk, qk, Kk) ⟨by dsimp only; omega, (hAll.ment _).mst (by omega), hsk, by dsimp only; omega, hkeys⟩ (by dsimp only; omega)) ⟨rfl, rfl, rfl, rfl, rfl, rfl, rfl, rfl, rfl, trivial⟩
 refine Wp.exit ?_
 refine Ends.then_exit ?_
 refine Ends.then_exit ?_
 refine Ends.block_hit ?_
 refine Ends.seq ?_
 refine Wp.seq ?_
 refine Wp.region ?_
 refine Ops.pv (pv_assign rfl) rfl ?_
 refine Ops.pv (pv_assign rfl) rfl ?_
 refine Ops.nil ?_
 refine Ends.seq ?_
 refine Wp.cutK (σ := PS × List CapM × Option Addr × Nat × Hp × Hp) [(3, _), (5, _), (9, _), (10, _), (15, _)] (fun s => [(20, .slice s.2.2.1 s.2.1.length s.2.2.2.1)]) (fun s => s.2.2.2.2.1 ++ (s.2.2.2.2.2 ++ (Kk ++ ((b1, .cells [.int .i64 sl.1, .int .i64 sl.2].toArray 38) :: (H2 ++ (G ++ F)))))) (fun s => Slc 24 6 (.slice s.2.2.1 s.2.1.length s.2.2.2.1) s.2.1.length (cel CapM.cells s.2.1) s.2.2.2.2.1 ∧ CapsH 50 s.1 cb1 s.2.2.2.2.2 ∧ FinI all (madeP l) sl s.1 s.2.1) ⟨rfl, rfl, rfl, rfl, rfl, trivial⟩ (fun _ KK hC0 => ?_) ?_
 ·
  dsimp only [List.cons_append, List.nil_append] at hC0
  refine Wp.seq ?_
  refine Wp.region ?_
  refine Ops.pv (pv_assign rfl) rfl ?_
  refine Ops.nil ?_
  refine Ends.seq ?_
  refine Wp.block ?_
  refine Wp.loopK (σ := Nat × PS × List CapM × Value × Hp × Hp) [(2, _), (3, _), (5, _), (9, _), (10, _), (15, _)] (fun s => [(20, s.2.2.2.1), (22, .int .i64 s.1)]) (fun s => s.2.2.2.2.1 ++ (s.2.2.2.2.2 ++ (Kk ++ ((b1, .cells [.int .i64 sl.1, .int .i64 sl.2].toArray 38) :: (H2 ++ (G ++ F)))))) (fun s => Slc 24 6 s.2.2.2.1 s.2.2.1.length (cel CapM.cells s.2.2.1) s.2.2.2.2.1 ∧ CapsH 50 s.2.1 cb1 s.2.2.2.2.2 ∧ TellI all (madeP l) sl K s.1 s.2.1 s.2.2.1 ∧ (all = true → s.1 * K ≤ (ftKin (madeP l).F sl).length)) (fun s => 100 - s.1) (0, madeP l, [], .slice none 0 0, [], cBlk cb1 sb tb :: (Ls ++ Lt)) ⟨Slc.nil _ _, ⟨_, _, _, _, hS, hT, rfl⟩, tell_start hw0, fun _ => (by dsimp only; rw [Nat.zero_mul]; exact Nat.zero_le _)⟩ ⟨rfl, rfl, rfl, rfl, rfl, rfl, trivial⟩ ⟨rfl, rfl, trivial⟩ (by intro w ho; (try dsimp only [List.nil_append, List.cons_append]); exact Drop.own ho) ?_
  rintro ⟨i, p, told, vt, Kt, Hp0⟩ KK ⟨hsl, hCp, hti, hika⟩ hK
  dsimp only [List.cons_append, List.nil_append] at hK ⊢
  dsimp only at hsl hCp hti hika ⊢
  have hkp : (dget p.l sl).1.kind ≠ 0 := by rw [hti.get]; exact hk0
  have htle := hti.len
  have htfl := hti.full
  have hwp := hti.wok
  refine Wp.seq ?_
  refine Wp.seq ?_
  refine Wp.region ?_
  refine Ops.pv (pv_move rfl) rfl ?_
  refine Ops.pv (pv_lss rfl rfl) rfl ?_
  refine Ops.nil ?_
  refine Ends.seq ?_
  refine Wp.cond_dect rfl (fun h4 => ?_) (fun h4 => (by exfalso; have := hti.full; have := Nat.le_mul_of_pos_right i hK1; omega))
  refine Wp.skip ?_
  refine Ends.seq ?_
  refine Wp.seq ?_
  refine Wp.block ?_
  refine Wp.seq ?_
  refine Wp.region ?_
  refine Ops.pv (pv_assign rfl) rfl ?_
  refine Ops.nil ?_
  refine Ends.seq ?_
  refine Wp.seq ?_
  refine Wp.seq ?_
  refine Wp.region ?_
  refine Ops.pv (pv_move rfl) rfl ?_
  refine Ops.nil ?_
  refine Ends.seq ?_
  refine Wp.cond_t rfl (fun h5 => ?_) (fun h5 => ?_)
  ·
   obtain rfl : all = true := by assumption
   rcases Classical.em ((ftKin p.F sl).length ≤ K) with hb | hb
   ·
    refine Wp.region ?_
    refine Ops.pv (pv_move rfl) rfl ?_
    refine Ops.pv (pv_loadK [_, _] rfl rfl rfl ⟨rfl, rfl, trivial⟩) rfl ?_
    refine Ops.pv (pv_move rfl) rfl ?_
    refine Ops.ef rfl (ef_call (tr_revT hCp hti.wok (by decide) hkp (k := K) (by omega) (by omega) hb) rfl rfl) ?_
    rintro _ _ ⟨_, _, ⟨v2, T2, Hn, hs2, hC2, rfl, rfl⟩, rfl, rfl⟩
    refine Ops.app ?_
    obtain ⟨tq, htq⟩ : ∃ q, q = ([] : List CapM) := ⟨_, rfl⟩
    have hsq : Slc 24 6 v2 tq.length (cel CapM.cells tq) T2 := by rw [htq]; exact hs2
    have htql : tq.length = 0 := by rw [htq]; rfl
    have hfi : FinI true (madeP l) sl (revS p sl (ftKin p.F sl).length) (told ++ tq) := by rw [htq]; exact tellA_T hw0 hti (hika rfl)
    refine Ops.pv (pv_move rfl) rfl ?_
    refine Ops.pv (pv_extract rfl rfl) rfl ?_
    refine Ops.pv (pv_extract rfl rfl) rfl ?_
    refine Ops.pv (pv_extract rfl rfl) rfl ?_
    refine Ops.pv (pv_assign rfl) rfl ?_
    refine Ops.pv (pv_assign rfl) rfl ?_
    refine Ops.nil ?_
    refine Ends.seq ?_
    refine Wp.seq ?_
    refine Wp.region ?_
    refine Ops.pv (pv_move rfl) rfl ?_
    refine Ops.pv (pv_move rfl) rfl ?_
    refine Ops.ef rfl (ef_appendV (H := Kt) rfl hsl rfl (hsq.view.mono (by intro p hp; simp [hp])) (cel_one _) (by omega) (by omega) rfl rfl) ?_
    rintro _ _ ⟨u2, K2, hu2, rfl, rfl⟩
    refine Ops.app ?_
    have hut : Slc 24 6 u2 (told ++ tq).length (cel CapM.cells (told ++ tq)) K2 := by rw [List.length_append, cel_app]; exact hu2
    obtain ⟨pu1, qu1, rfl⟩ := hut.form
    refine Ops.pv (pv_assign rfl) rfl ?_
    refine Ops.nil ?_
    refine Ends.seq ?_
    refine Wp.seq ?_
    refine Wp.region ?_
    refine Ops.pv (pv_move rfl) rfl ?_
    refine Ops.pv ((pv_neq rfl rfl).tru (by first | rfl | decide | omega | assumption | (simp; done) | (simp; omega))) rfl ?_
    refine Ops.nil ?_
    refine Ends.seq ?_
    refine Wp.cond_true rfl ?_
    refine Wp.exit ?_
    refine Ends.block_miss rfl ?_
    refine Ends.then_exit ?_
    refine Ends.then_exit ?_
    refine Ends.block_hit ?_
    refine Ends.goes ?_
    refine Goes.back (hC0 ((revS p sl (ftKin p.F sl).length), (told ++ tq), pu1, qu1, K2, Hn) ⟨hut, hC2, hfi⟩) ⟨rfl, rfl, rfl, rfl, rfl, rfl, trivial⟩
   refine Wp.region ?_
   refine Ops.pv (pv_move rfl) rfl ?_
   refine Ops.pv (pv_loadK [_, _] rfl rfl rfl ⟨rfl, rfl, trivial⟩) rfl ?_
   refine Ops.pv (pv_move rfl) rfl ?_
   refine Ops.ef rfl (ef_call (tr_revF hCp hti.wok (by decide) hkp (k := K) (by omega) (by omega) hb) rfl rfl) ?_
   rintro _ _ ⟨_, _, ⟨v2, T2, Hn, hs2, hC2, rfl, rfl⟩, rfl, rfl⟩
   refine Ops.app ?_
   obtain ⟨tq, htq⟩ : ∃ q, q = ([] : List CapM) := ⟨_, rfl⟩
   have hsq : Slc 24 6 v2 tq.length (cel CapM.cells tq) T2 := by rw [htq]; exact hs2
   have htql : tq.length = 0 := by rw [htq]; rfl
   have htn : TellI true (madeP l) sl K (i + 1) (revS p sl K) (told ++ tq) := by rw [htq]; exact tellA_F hw0 hti hb
   have hkn := tellA_kin hw0 hti
   refine Ops.pv (pv_move rfl) rfl ?_
   refine Ops.pv (pv_extract rfl rfl) rfl ?_
   refine Ops.pv (pv_extract rfl rfl) rfl ?_
   refine Ops.pv (pv_extract rfl rfl) rfl ?_
   refine Ops.pv (pv_assign rfl) rfl ?_
   refine Ops.pv (pv_assign rfl) rfl ?_
   refine Ops.nil ?_
   refine Ends.seq ?_
   refine Wp.seq ?_
   refine Wp.region ?_
   refine Ops.pv (pv_move rfl) rfl ?_
   refine Ops.pv (pv_move rfl) rfl ?_
   refine Ops.ef rfl (ef_appendV (H := Kt) rfl hsl rfl (hsq.view.mono (by intro p hp; simp [hp])) (cel_one _) (by omega) (by omega) rfl rfl) ?_
   rintro _ _ ⟨u3, K3, hu3, rfl, rfl⟩
   refine Ops.app ?_
   have hut : Slc 24 6 u3 (told ++ tq).length (cel CapM.cells (told ++ tq)) K3 := by rw [List.length_append, cel_app]; exact hu3
   obtain ⟨pu2, qu2, rfl⟩ := hut.form
   refine Ops.pv (pv_assign rfl) rfl ?_
   refine Ops.nil ?_
   refine Ends.seq ?_
   refine Wp.seq ?_
   refine Wp.region ?_
   refine Ops.pv (pv_move rfl) rfl ?_
   refine Ops.pv ((pv_neq rfl rfl).fls (by first | exact fun h => h rfl | decide | omega | assumption)) rfl ?_
   refine Ops.nil ?_
   refine Ends.seq ?_
   refine Wp.cond_false rfl ?_
   refine Wp.skip ?_
   refine Ends.block_normal ?_
   refine Ends.seq ?_
   refine Wp.region ?_
   refine Ops.pv (pv_move rfl) rfl ?_
   refine Ops.pv (pv_add rfl rfl (w64n (k := i + 1) (by omega) (by omega))) rfl ?_
   refine Ops.pv (pv_assign rfl) rfl ?_
   refine Ops.nil ?_
   refine Ends.goes ?_
   refine Goes.back (hK (i + 1, (revS p sl K), (told ++ tq), .slice pu2 (told ++ tq).length qu2, K3, Hn) ⟨hut, hC2, htn, fun _ => (by dsimp only; rw [Nat.succ_mul]; omega)⟩ (by dsimp only; omega)) ⟨rfl, rfl, rfl, rfl, rfl, rfl, rfl, rfl, trivial⟩
  obtain rfl : all = false := by assumption
  rcases Classical.em (∃ t, Away ⟨p, [], K⟩ [sl] sl true t) with ⟨tb2, hb⟩ | hb
  ·
   refine Wp.region ?_
   refine Ops.pv (pv_move rfl) rfl ?_
   refine Ops.pv (pv_loadK [_, _] rfl rfl rfl ⟨rfl, rfl, trivial⟩) rfl ?_
   refine Ops.pv (pv_move rfl) rfl ?_
   refine Ops.ef rfl (ef_call (tr_delT hCp hti.wok (by decide) hkp (k := K) (by omega) (by omega) hb) rfl rfl) ?_
   rintro _ _ ⟨_, _, ⟨v2, T2, Hn, hs2, hC2, rfl, rfl⟩, rfl, rfl⟩
   refine Ops.app ?_
   obtain ⟨tq, htq⟩ : ∃ q, q = tb2.told := ⟨_, rfl⟩
   have hsq : Slc 24 6 v2 tq.length (cel CapM.cells tq) T2 := by rw [htq]; exact hs2
   have hfi : FinI false (madeP l) sl tb2.p (told ++ tq) := by rw [htq]; exact tellD_T hti hb (by omega)
   have htl9 := hfi.len
   rw [List.length_append] at htl9
   refine Ops.pv (pv_move rfl) rfl ?_
   refine Ops.pv (pv_extract rfl rfl) rfl ?_
   refine Ops.pv (pv_extract rfl rfl) rfl ?_
   refine Ops.pv (pv_extract rfl rfl) rfl ?_
   refine Ops.pv (pv_assign rfl) rfl ?_
   refine Ops.pv (pv_assign rfl) rfl ?_
   refine Ops.nil ?_
   refine Ends.seq ?_
   refine Wp.seq ?_
   refine Wp.region ?_
   refine Ops.pv (pv_move rfl) rfl ?_
   refine Ops.pv (pv_move rfl) rfl ?_
   refine Ops.ef rfl (ef_appendV (H := Kt) rfl hsl rfl (hsq.view.mono (by intro p hp; simp [hp])) (cel_one _) (by omega) (by omega) rfl rfl) ?_
   rintro _ _ ⟨u4, K4, hu4, rfl, rfl⟩
   refine Ops.app ?_
   have hut : Slc 24 6 u4 (told ++ tq).length (cel CapM.cells (told ++ tq)) K4 := by rw [List.length_append, cel_app]; exact hu4
   obtain ⟨pu3, qu3, rfl⟩ := hut.form
   refine Ops.pv (pv_assign rfl) rfl ?_
   refine Ops.nil ?_
   refine Ends.seq ?_
   refine Wp.seq ?_
   refine Wp.region ?_
   refine Ops.pv (pv_move rfl) rfl ?_
   refine Ops.pv ((pv_neq rfl rfl).tru (by first | rfl | decide | omega | assumption | (simp; done) | (simp; omega))) rfl ?_
   refine Ops.nil ?_
   refine Ends.seq ?_
   refine Wp.cond_true rfl ?_
   refine Wp.exit ?_
   refine Ends.block_miss rfl ?_
   refine Ends.then_exit ?_
   refine Ends.then_exit ?_
   refine Ends.block_hit ?_
   refine Ends.goes ?_
   refine Goes.back (hC0 (tb2.p, (told ++ tq), pu3, qu3, K4, Hn) ⟨hut, hC2, hfi⟩) ⟨rfl, rfl, rfl, rfl, rfl, rfl, trivial⟩
  refine Wp.region ?_
  refine Ops.pv (pv_move rfl) rfl ?_
  refine Ops.pv (pv_loadK [_, _] rfl rfl rfl ⟨rfl, rfl, trivial⟩) rfl ?_
  refine Ops.pv (pv_move rfl) rfl ?_
  refine Ops.ef rfl (ef_call (tr_delF hCp hti.wok (by decide) hkp (k := K) (by omega) (by omega) hb) rfl rfl) ?_
  rintro _ _ ⟨_, _, ⟨tb2, v2, T2, Hn, hA, hs2, hC2, rfl, rfl⟩, rfl, rfl⟩
  refine Ops.app ?_
  obtain ⟨tq, htq⟩ : ∃ q, q = tb2.told := ⟨_, rfl⟩
  have hsq : Slc 24 6 v2 tq.length (cel CapM.cells tq) T2 := by rw [htq]; exact hs2
  have htn : TellI false (madeP l) sl K (i + 1) tb2.p (told ++ tq) := by rw [htq]; exact tellD_F hti hk0 hA
  have htl9 := htn.len
  have htl8 := htn.full
  rw [List.length_append] at htl9
  refine Ops.pv (pv_move rfl) rfl ?_
  refine Ops.pv (pv_extract rfl rfl) rfl ?_
  refine Ops.pv (pv_extract rfl rfl) rfl ?_
  refine Ops.pv (pv_extract rfl rfl) rfl ?_
  refine Ops.pv (pv_assign rfl) rfl ?_
  refine Ops.pv (pv_assign rfl) rfl ?_
  refine Ops.nil ?_
  refine Ends.seq ?_
  refine Wp.seq ?_
  refine Wp.region ?_
  refine Ops.pv (pv_move rfl) rfl ?_
  refine Ops.pv (pv_move rfl) rfl ?_
  refine Ops.ef rfl (ef_appendV (H := Kt) rfl hsl rfl (hsq.view.mono (by intro p hp; simp [hp])) (cel_one _) (by omega) (by omega) rfl rfl) ?_
  rintro _ _ ⟨u5, K5, hu5, rfl, rfl⟩
  refine Ops.app ?_
  have hut : Slc 24 6 u5 (told ++ tq).length (cel CapM.cells (told ++ tq)) K5 := by rw [List.length_append, cel_app]; exact hu5
  obtain ⟨pu4, qu4, rfl⟩ := hut.form
  refine Ops.pv (pv_assign rfl) rfl ?_
  refine Ops.nil ?_
  refine Ends.seq ?_
  refine Wp.seq ?_
  refine Wp.region ?_
  refine Ops.pv (pv_move rfl) rfl ?_
  refine Ops.pv ((pv_neq rfl rfl).fls (by first | exact fun h => h rfl | decide | omega | assumption)) rfl ?_
  refine Ops.nil ?_
  refine Ends.seq ?_
  refine Wp.cond_false rfl ?_
  refine Wp.skip ?_
  refine Ends.block_normal ?_
  refine Ends.seq ?_
  refine Wp.region ?_
  refine Ops.pv (pv_move rfl) rfl ?_
  refine Ops.pv (pv_add rfl rfl (w64n (k := i + 1) (by omega) (by omega))) rfl ?_
  refine Ops.pv (pv_assign rfl) rfl ?_
  refine Ops.nil ?_
  refine Ends.goes ?_
  refine Goes.back (hK (i + 1, tb2.p, (told ++ tq), .slice pu4 (told ++ tq).length qu4, K5, Hn) ⟨hut, hC2, htn, fun e => (by cases e)⟩ (by dsimp only; omega)) ⟨rfl, rfl, rfl, rfl, rfl, rfl, rfl, rfl, trivial⟩
 rintro ⟨q, told, pt, qt, Kt, Ha⟩ ⟨hst, hCa, hfi⟩
 dsimp only [List.cons_append, List.nil_append] at ⊢
 dsimp only at hst hCa hfi ⊢
 have htl := hfi.len
 have hwq := hfi.wok
 have hlaw := fun k o hc => fin_law hw0 hk0 hfi (k := k) (o := o) hc
 refine Wp.cutK (σ := Option Addr × Nat × Hp × Hp) [(9, _), (10, _), (15, _), (20, _)] (fun s => [(21, .slice s.1 told.length s.2.1)]) (fun s => Kt ++ (s.2.2.1 ++ (Ha ++ (s.2.2.2 ++ (Kk ++ (G ++ F)))))) (fun s => Slc 24 6 (.slice s.1 told.length s.2.1) told.length (cel CapM.cells told) s.2.2.1 ∧ CapsH 50 q cb2 s.2.2.2) ⟨rfl, rfl, rfl, rfl, trivial⟩ (fun _ KK hC0 => ?_) ?_
 ·
  dsimp only [List.cons_append, List.nil_append] at hC0
  refine Wp.seq ?_
  refine Wp.region ?_
  refine Ops.pv (pv_move rfl) rfl ?_
  refine Ops.nil ?_
  refine Ends.seq ?_
  refine Wp.cond_t rfl (fun h6 => ?_) (fun h6 => ?_)
  ·
   obtain rfl : all = true := by assumption
   have hlw := hfi.law
   rw [if_pos rfl] at hlw
   refine Wp.region ?_
   refine Ops.pv (pv_move rfl) rfl ?_
   refine Ops.pv (pv_loadK [_, _] rfl rfl rfl ⟨rfl, rfl, trivial⟩) rfl ?_
   refine Ops.ef rfl (ef_call (tr_rev1000F (all := true) hC2 hw0 (by decide) hk0 (by omega) hlw) rfl rfl) ?_
   rintro _ _ ⟨_, _, ⟨v3, T3, H3, hs3, hC3, rfl, rfl⟩, rfl, rfl⟩
   refine Ops.app ?_
   refine Ops.pv (pv_move rfl) rfl ?_
   refine Ops.pv (pv_extract rfl rfl) rfl ?_
   refine Ops.pv (pv_extract rfl rfl) rfl ?_
   refine Ops.pv (pv_extract rfl rfl) rfl ?_
   refine Ops.pv (pv_assign rfl) rfl ?_
   refine Ops.nil ?_
   refine Ends.goes ?_
   obtain ⟨p3, q3, rfl⟩ := hs3.form
   refine Goes.back (hC0 (p3, q3, T3, H3) ⟨hs3, hC3⟩) ⟨rfl, rfl, rfl, rfl, rfl, trivial⟩
  obtain rfl : all = false := by assumption
  have hlw := hfi.law
  rw [if_neg (by decide)] at hlw
  refine Wp.region ?_
  refine Ops.pv (pv_move rfl) rfl ?_
  refine Ops.pv (pv_loadK [_, _] rfl rfl rfl ⟨rfl, rfl, trivial⟩) rfl ?_
  refine Ops.ef rfl (ef_call (tr_del1000 hC2 hw0 (by decide) hk0 hlw) rfl rfl) ?_
  rintro _ _ ⟨_, _, ⟨v3, T3, H3, hs3, hC3, rfl, rfl⟩, rfl, rfl⟩
  refine Ops.app ?_
  refine Ops.pv (pv_move rfl) rfl ?_
  refine Ops.pv (pv_extract rfl rfl) rfl ?_
  refine Ops.pv (pv_extract rfl rfl) rfl ?_
  refine Ops.pv (pv_extract rfl rfl) rfl ?_
  refine Ops.pv (pv_assign rfl) rfl ?_
  refine Ops.nil ?_
  refine Ends.goes ?_
  obtain ⟨p3, q3, rfl⟩ := hs3.form
  refine Goes.back (hC0 (p3, q3, T3, H3) ⟨hs3, hC3⟩) ⟨rfl, rfl, rfl, rfl, rfl, trivial⟩
 rintro ⟨po, qo, Ko, Hb⟩ ⟨hso, hCb⟩
 dsimp only [List.cons_append, List.nil_append] at ⊢
 dsimp only at hso hCb ⊢
 obtain ⟨sba, tba, Lsa, Lta, hSa, hTa, rfl⟩ := hCa
 obtain ⟨sbb, tbb, Lsb, Ltb, hSb, hTb, rfl⟩ := hCb
 simp only [List.cons_append, List.append_assoc]
 refine Wp.seq ?_
 refine Wp.seq ?_
 refine AnyH.start (cBlk cb1 sba tba :: cBlk cb2 sbb tbb :: (Kt ++ Ko)) 20 rfl ?_
 refine Tk 0 rfl rfl (pv_move rfl) rfl ?_
 refine Tk 1 rfl rfl (pv_move rfl) rfl ?_
 refine AnyH.one 2 (by kernel_rfl) ?_
 refine Turn.ef rfl rfl (ef_callr ((tr_sameCaps (Kt ++ Ko) _ _ _ _ told told (hst.view.mono (by intro p hp; simp [hp])) (hso.view.mono (by intro p hp; simp [hp])) (by omega)).eq (r' := .bool true) (by rw [decide_eq_true rfl])) rfl rfl) ?_ ?_
 ·
  rintro _ _ ⟨rfl, rfl⟩; infer_instance
 rintro _ _ ⟨rfl, rfl⟩
 refine Tk 3 rfl rfl (pv_not rfl) rfl ?_
 refine Tk 4 rfl rfl (pv_move rfl) rfl ?_
 refine Tk 5 rfl ⟨_, _, rfl, rfl, rfl⟩ (pv_move rfl) rfl ?_
 refine Tk 6 rfl ⟨_, _, rfl, rfl, rfl⟩ (pv_nilCheck rfl) rfl ?_
 refine Tk 7 rfl ⟨_, _, rfl, rfl, rfl⟩ (pv_fieldAddr0 rfl rfl) rfl ?_
 refine Tk 8 rfl ⟨_, _, rfl, rfl, rfl⟩ (pv_fieldAddr0 rfl rfl) rfl ?_
 refine Tk 9 rfl ⟨_, _, rfl, rfl, rfl⟩ (pv_load rfl rfl rfl) rfl ?_
 refine Tk 11 rfl ⟨_, _, rfl, rfl, rfl⟩ (pv_move rfl) rfl ?_
 refine Tk 12 rfl ⟨_, _, rfl, rfl, rfl⟩ (pv_nilCheck rfl) rfl ?_
 refine Tk 13 rfl ⟨_, _, rfl, rfl, rfl⟩ (pv_fieldAddr0 rfl rfl) rfl ?_
 refine Tk 14 rfl ⟨_, _, rfl, rfl, rfl⟩ (pv_fieldAddr0 rfl rfl) rfl ?_
 refine Tk 15 rfl ⟨_, _, rfl, rfl, rfl⟩ (pv_load rfl rfl rfl) rfl ?_
 refine AnyH.one 10 (by kernel_rfl) ?_
 refine Turn.ef rfl ⟨_, _, rfl, rfl, rfl⟩ (ef_call (sf_full hSa) rfl rfl) ?_ ?_
 ·
  rintro _ _ ⟨_, _, ⟨C2, hc2, rfl⟩, rfl, rfl⟩; infer_instance
 rintro _ _ ⟨_, _, ⟨C2, hc2, rfl⟩, rfl, rfl⟩
 refine AnyH.app ?_
 obtain ⟨pp2, qq2, rfl⟩ := hc2.form
 refine AnyH.one 16 (by kernel_rfl) ?_
 refine Turn.ef rfl ⟨_, _, rfl, rfl, rfl⟩ (ef_call (sf_full hSb) rfl rfl) ?_ ?_
 ·
  rintro _ _ ⟨_, _, ⟨C3, hc3, rfl⟩, rfl, rfl⟩; infer_instance
 rintro _ _ ⟨_, _, ⟨C3, hc3, rfl⟩, rfl, rfl⟩
 refine AnyH.app ?_
 obtain ⟨pp3, qq3, rfl⟩ := hc3.form
 refine AnyH.one 17 (by kernel_rfl) ?_
 refine Turn.ef rfl ⟨_, _, rfl, rfl, rfl⟩ (ef_callr ((tr_sameSlots (C2 ++ C3) _ _ _ _ (dfull q.l) (dfull q.l) (hc2.view.mono (by intro p hp; simp [hp])) (hc3.view.mono (by intro p hp; simp [hp])) (by have := dfull_1024 hwq.ok.rel; omega)).eq (r' := .bool true) (by rw [decide_eq_true rfl])) rfl rfl) ?_ ?_
 ·
  rintro _ _ ⟨rfl, rfl⟩; infer_instance
 rintro _ _ ⟨rfl, rfl⟩
 refine Tk 18 rfl ⟨_, _, rfl, rfl, rfl⟩ (pv_not rfl) rfl ?_
 refine Tk 19 rfl rfl (pv_pick_false rfl rfl) rfl ?_
 refine AnyH.done (by kernel_rfl) ?_
 refine Ends.seq ?_
 refine Wp.cond_false rfl ?_
 refine Wp.skip ?_
 refine Ends.seq ?_
 refine Wp.seq ?_
 refine Wp.seq ?_
 refine Wp.region ?_
 refine Ops.pv (pv_assign rfl) rfl ?_
 refine Ops.nil ?_
 refine Ends.seq ?_
 refine Wp.block ?_
 refine Wp.loopK (σ := Nat) [(9, _), (15, _), (20, _)] (fun s => [(24, .int .i64 s)]) (fun s => Kt ++ (Kk ++ (cBlk cb1 sba tba :: (Lsa ++ (Lta ++ (G ++ F)))))) (fun s => s ≤ keys.length) (fun s => keys.length - s) 0 (Nat.zero_le _) ⟨rfl, rfl, rfl, trivial⟩ ⟨rfl, trivial⟩ (by intro w ho; (try dsimp only [List.nil_append, List.cons_append]); exact Drop.own ho) ?_
 rintro i KK hi hK
 dsimp only [List.cons_append, List.nil_append] at hK ⊢
 refine Wp.seq ?_
 refine Wp.seq ?_
 refine Wp.region ?_
 refine Ops.pv (pv_move rfl) rfl ?_
 refine Ops.pv (pv_move rfl) rfl ?_
 refine Ops.pv (pv_len_slice (T := 63) rfl rfl) rfl ?_
 refine Ops.pv (pv_lss rfl rfl) rfl ?_
 refine Ops.nil ?_
 refine Ends.seq ?_
 refine Wp.cond_dect rfl (fun h7 => ?_) (fun h7 => ?_)
 ·
  obtain ⟨b6, o6, cap6, cc6, T6, f6, hv6, hbv6, hr6⟩ := hsk.view.open (by omega)
  cases hv6
  obtain ⟨x, hx⟩ : ∃ s, keys[i]? = some s := ⟨_, List.getElem?_eq_getElem (by omega)⟩
  have hrex := cel_reads hr6 hx
  have hlx := hlaw _ _ (hkeys x (List.mem_of_getElem? hx))
  refine Wp.skip ?_
  refine Ends.seq ?_
  refine Wp.seq ?_
  refine Wp.block ?_
  refine Wp.seq ?_
  refine Wp.region ?_
  refine Ops.pv (pv_assign rfl) rfl ?_
  refine Ops.nil ?_
  refine Ends.seq ?_
  refine Wp.seq ?_
  refine Wp.seq ?_
  refine Wp.region ?_
  refine Ops.pv (pv_assign rfl) rfl ?_
  refine Ops.nil ?_
  refine Ends.seq ?_
  refine Wp.block ?_
  refine Wp.loopK (σ := Nat × Nat) [(9, _), (15, _), (20, _), (24, _)] (fun s => [(25, .int .i64 s.2), (26, .int .i64 s.1)]) (fun s => Kt ++ (Kk ++ (cBlk cb1 sba tba :: (Lsa ++ (Lta ++ (G ++ F)))))) (fun s => s.1 ≤ told.length ∧ s.2 ≤ s.1 ∧ s.2 = toldN (told.take s.1) x.kind x.object) (fun s => told.length - s.1) (0, 0) ⟨Nat.zero_le _, Nat.le_refl _, rfl⟩ ⟨rfl, rfl, rfl, rfl, trivial⟩ ⟨rfl, rfl, trivial⟩ (by intro w ho; (try dsimp only [List.nil_append, List.cons_append]); exact Drop.own ho) ?_
  rintro ⟨j, m⟩ KK ⟨hj, hmj, hm⟩ hK1
  dsimp only [List.cons_append, List.nil_append] at hK1 ⊢
  dsimp only at hj hmj hm ⊢
  refine Wp.seq ?_
  refine Wp.seq ?_
  refine Wp.region ?_
  refine Ops.pv (pv_move rfl) rfl ?_
  refine Ops.pv (pv_move rfl) rfl ?_
  refine Ops.pv (pv_len_slice (T := 63) rfl rfl) rfl ?_
  refine Ops.pv (pv_lss rfl rfl) rfl ?_
  refine Ops.nil ?_
  refine Ends.seq ?_
  refine Wp.cond_dect rfl (fun h8 => ?_) (fun h8 => ?_)
  ·
   obtain ⟨b7, o7, cap7, cc7, T7, f7, hv7, hbv7, hr7⟩ := hst.view.open (by omega)
   cases hv7
   obtain ⟨y, hy⟩ : ∃ s, told[j]? = some s := ⟨_, List.getElem?_eq_getElem (by omega)⟩
   have hrey := cel_reads hr7 hy
   have hty := toldN_take (k := x.kind) (o := x.object) hy
   refine Wp.skip ?_
   refine Ends.seq ?_
   refine Wp.seq ?_
   refine Wp.block ?_
   refine Wp.seq ?_
   refine AnyH.start (Kt ++ Kk) 24 rfl ?_
   refine Tk 0 rfl rfl (pv_move rfl) rfl ?_
   refine Tk 1 rfl rfl (pv_move rfl) rfl ?_
   refine Tk 2 rfl rfl (pv_indexAddr (i := j) rfl rfl rfl (by omega)) rfl ?_
   refine Tk 3 rfl rfl (pv_fieldAddr rfl rfl) rfl ?_
   refine Tk 4 rfl rfl (pv_load rfl rfl hrey.1) rfl ?_
   refine Tk 5 rfl rfl (pv_move rfl) rfl ?_
   refine Tk 6 rfl rfl (pv_move rfl) rfl ?_
   refine Tk 7 rfl rfl (pv_indexAddr (i := i) rfl rfl rfl (by omega)) rfl ?_
   refine Tk 8 rfl rfl (pv_fieldAddr rfl rfl) rfl ?_
   refine Tk 9 rfl rfl (pv_load rfl rfl hrex.1) rfl ?_
   refine Tk 10 rfl rfl (pv_eql rfl rfl) rfl ?_
   refine Tk 11 rfl rfl (pv_move rfl) rfl ?_
   refine AnyH.takec 12 rfl (by kernel_rfl) (by kernel_rfl) (by kernel_rfl) PF.pf rfl rfl (fun hg => pv_move rfl) rfl ?_
   refine AnyH.takec 13 rfl (by kernel_rfl) (by kernel_rfl) (by kernel_rfl) PF.pf rfl rfl (fun hg => Pv.setE (t := 185) rfl (cv_pos hg) (pv_move rfl)) rfl ?_
   refine AnyH.takec 14 rfl (by kernel_rfl) (by kernel_rfl) (by kernel_rfl) PF.pf rfl rfl (fun hg => Pv.setE (t := 185) rfl (cv_pos hg) (Pv.setE (t := 186) rfl (cv_pos hg) (pv_indexAddr (i := j) rfl rfl rfl (by omega)))) rfl ?_
   refine AnyH.takec 15 rfl (by kernel_rfl) (by kernel_rfl) (by kernel_rfl) PF.pf rfl rfl (fun hg => Pv.setE (t := 185) rfl (cv_pos hg) (Pv.setE (t := 186) rfl (cv_pos hg) (Pv.setE (t := 187) rfl (cv_pos hg) (pv_fieldAddr rfl rfl)))) rfl ?_
   refine AnyH.takec 16 rfl (by kernel_rfl) (by kernel_rfl) (by kernel_rfl) PF.pf rfl rfl (fun hg => Pv.setE (t := 185) rfl (cv_pos hg) (Pv.setE (t := 186) rfl (cv_pos hg) (Pv.setE (t := 187) rfl (cv_pos hg) (Pv.setE (t := 188) rfl (cv_pos hg) (pv_load rfl rfl hrey.2.1))))) rfl ?_
   refine AnyH.takec 17 rfl (by kernel_rfl) (by kernel_rfl) (by kernel_rfl) PF.pf rfl rfl (fun hg => Pv.setE (t := 185) rfl (cv_pos hg) (Pv.setE (t := 186) rfl (cv_pos hg) (Pv.setE (t := 187) rfl (cv_pos hg) (Pv.setE (t := 188) rfl (cv_pos hg) (Pv.setE (t := 189) rfl (cv_pos hg) (pv_move rfl)))))) rfl ?_
   refine AnyH.takec 18 rfl (by kernel_rfl) (by kernel_rfl) (by kernel_rfl) PF.pf rfl rfl (fun hg => Pv.setE (t := 185) rfl (cv_pos hg) (Pv.setE (t := 186) rfl (cv_pos hg) (Pv.setE (t := 187) rfl (cv_pos hg) (Pv.setE (t := 188) rfl (cv_pos hg) (Pv.setE (t := 189) rfl (cv_pos hg) (Pv.setE (t := 190) rfl (cv_pos hg) (pv_move rfl))))))) rfl ?_
   refine AnyH.takec 19 rfl (by kernel_rfl) (by kernel_rfl) (by kernel_rfl) PF.pf rfl rfl (fun hg => Pv.setE (t := 185) rfl (cv_pos hg) (Pv.setE (t := 186) rfl (cv_pos hg) (Pv.setE (t := 187) rfl (cv_pos hg) (Pv.setE (t := 188) rfl (cv_pos hg) (Pv.setE (t := 189) rfl (cv_pos hg) (Pv.setE (t := 190) rfl (cv_pos hg) (Pv.setE (t := 191) rfl (cv_pos hg) (pv_indexAddr (i := i) rfl rfl rfl (by omega))))))))) rfl ?_
   refine AnyH.takec 20 rfl (by kernel_rfl) (by kernel_rfl) (by kernel_rfl) PF.pf rfl rfl (fun hg => Pv.setE (t := 185) rfl (cv_pos hg) (Pv.setE (t := 186) rfl (cv_pos hg) (Pv.setE (t := 187) rfl (cv_pos hg) (Pv.setE (t := 188) rfl (cv_pos hg) (Pv.setE (t := 189) rfl (cv_pos hg) (Pv.setE (t := 190) rfl (cv_pos hg) (Pv.setE (t := 191) rfl (cv_pos hg) (Pv.setE (t := 192) rfl (cv_pos hg) (pv_fieldAddr rfl rfl))))))))) rfl ?_
   refine AnyH.takec 21 rfl (by kernel_rfl) (by kernel_rfl) (by kernel_rfl) PF.pf rfl rfl (fun hg => Pv.setE (t := 185) rfl (cv_pos hg) (Pv.setE (t := 186) rfl (cv_pos hg) (Pv.setE (t := 187) rfl (cv_pos hg) (Pv.setE (t := 188) rfl (cv_pos hg) (Pv.setE (t := 189) rfl (cv_pos hg) (Pv.setE (t := 190) rfl (cv_pos hg) (Pv.setE (t := 191) rfl (cv_pos hg) (Pv.setE (t := 192) rfl (cv_pos hg) (Pv.setE (t := 193) rfl (cv_pos hg) (pv_load rfl rfl hrex.2.1)))))))))) rfl ?_
   refine AnyH.takec 22 rfl (by kernel_rfl) (by kernel_rfl) (by kernel_rfl) PF.pf rfl rfl (fun hg => Pv.setE (t := 185) rfl (cv_pos hg) (Pv.setE (t := 186) rfl (cv_pos hg) (Pv.setE (t := 187) rfl (cv_pos hg) (Pv.setE (t := 188) rfl (cv_pos hg) (Pv.setE (t := 189) rfl (cv_pos hg) (Pv.setE (t := 190) rfl (cv_pos hg) (Pv.setE (t := 191) rfl (cv_pos hg) (Pv.setE (t := 192) rfl (cv_pos hg) (Pv.setE (t := 193) rfl (cv_pos hg) (Pv.setE (t := 194) rfl (cv_pos hg) (pv_eql rfl rfl))))))))))) rfl ?_
   refine Tk 23 rfl rfl (pv_pick_and rfl rfl) rfl ?_
   refine AnyH.done (by kernel_rfl) ?_
   refine Ends.seq ?_
   refine Wp.cond_dect rfl (fun h196 => ?_) (fun h196 => ?_)
   ·
    rw [if_pos h196, ← hm] at hty
    refine Wp.region ?_
    refine Ops.pv (pv_move rfl) rfl ?_
    refine Ops.pv (pv_add rfl rfl (w64n (k := m + 1) (by omega) (by omega))) rfl ?_
    refine Ops.pv (pv_assign rfl) rfl ?_
    refine Ops.nil ?_
    refine Ends.block_normal ?_
    refine Ends.seq ?_
    refine Wp.region ?_
    refine Ops.pv (pv_move rfl) rfl ?_
    refine Ops.pv (pv_add rfl rfl (w64n (k := j + 1) (by omega) (by omega))) rfl ?_
    refine Ops.pv (pv_assign rfl) rfl ?_
    refine Ops.nil ?_
    refine Ends.goes ?_
    refine Goes.back (hK1 (j + 1, m + 1) ⟨by dsimp only; omega, by dsimp only; omega, hty.symm⟩ (by dsimp only; omega)) ⟨rfl, rfl, rfl, rfl, rfl, rfl, trivial⟩
   rw [if_neg h196, ← hm] at hty
   refine Wp.skip ?_
   refine Ends.block_normal ?_
   refine Ends.seq ?_
   refine Wp.region ?_
   refine Ops.pv (pv_move rfl) rfl ?_
   refine Ops.pv (pv_add rfl rfl (w64n (k := j + 1) (by omega) (by omega))) rfl ?_
   refine Ops.pv (pv_assign rfl) rfl ?_
   refine Ops.nil ?_
   refine Ends.goes ?_
   refine Goes.back (hK1 (j + 1, m) ⟨by dsimp only; omega, by dsimp only; omega, hty.symm⟩ (by dsimp only; omega)) ⟨rfl, rfl, rfl, rfl, rfl, rfl, trivial⟩
  have hme : m = toldN told x.kind x.object := by rw [hm, show j = told.length by omega, List.take_length]
  rw [← hme] at hlx
  have hm1 : m ≤ 1 := by omega
  have hbb : (decide ((m : Int) = 1) == decide ((dcount q.l x.kind x.object : Int) = 0)) = true := by rw [beq_iff_eq, decide_eq_decide]; split at hlx <;> omega
  refine Wp.exit ?_
  refine Ends.then_exit ?_
  refine Ends.then_exit ?_
  refine Ends.block_hit ?_
  refine Ends.seq ?_
  refine Wp.seq ?_
  refine AnyH.start (Kk ++ (cBlk cb1 sba tba :: [])) 24 rfl ?_
  refine Tk 0 rfl rfl (pv_move rfl) rfl ?_
  refine Tk 1 rfl rfl (pv_eql rfl rfl) rfl ?_
  refine Tk 2 rfl rfl (pv_move rfl) rfl ?_
  refine Tk 3 rfl rfl (pv_nilCheck rfl) rfl ?_
  refine Tk 4 rfl rfl (pv_fieldAddr0 rfl rfl) rfl ?_
  refine Tk 5 rfl rfl (pv_fieldAddr0 rfl rfl) rfl ?_
  refine Tk 6 rfl rfl (pv_load rfl rfl rfl) rfl ?_
  refine Tk 7 rfl rfl (pv_move rfl) rfl ?_
  refine Tk 8 rfl rfl (pv_move rfl) rfl ?_
  refine Tk 9 rfl rfl (pv_indexAddr (i := i) rfl rfl rfl (by omega)) rfl ?_
  refine Tk 10 rfl rfl (pv_fieldAddr rfl rfl) rfl ?_
  refine Tk 11 rfl rfl (pv_load rfl rfl hrex.1) rfl ?_
  refine Tk 12 rfl rfl (pv_move rfl) rfl ?_
  refine Tk 13 rfl rfl (pv_move rfl) rfl ?_
  refine Tk 14 rfl rfl (pv_indexAddr (i := i) rfl rfl rfl (by omega)) rfl ?_
  refine Tk 15 rfl rfl (pv_fieldAddr rfl rfl) rfl ?_
  refine Tk 16 rfl rfl (pv_load rfl rfl hrex.2.1) rfl ?_
  refine AnyH.one 17 (by kernel_rfl) ?_
  refine Turn.ef rfl rfl (ef_callr (sf_count hSa x.kind x.object) rfl rfl) ?_ ?_
  ·
   rintro _ _ ⟨rfl, rfl⟩; infer_instance
  rintro _ _ ⟨rfl, rfl⟩
  refine Tk 18 rfl rfl (pv_eql rfl rfl) rfl ?_
  refine Tk 19 rfl rfl ((pv_neq_bool rfl rfl).fls2 hbb) rfl ?_
  refine Tk 20 rfl rfl (pv_move rfl) rfl ?_
  refine Tk 21 rfl ⟨_, _, rfl, rfl, rfl⟩ (pv_move rfl) rfl ?_
  refine Tk 22 rfl ⟨_, _, rfl, rfl, rfl⟩ ((pv_gtr rfl rfl).fls (by first | exact fun h => h rfl | decide | omega | assumption)) rfl ?_
  refine Tk 23 rfl rfl (pv_pick_false rfl rfl) rfl ?_
  refine AnyH.done (by kernel_rfl) ?_
  refine Ends.seq ?_
  refine Wp.cond_false rfl ?_
  refine Wp.skip ?_
  refine Ends.block_normal ?_
  refine Ends.seq ?_
  refine Wp.region ?_
  refine Ops.pv (pv_move rfl) rfl ?_
  refine Ops.pv (pv_add rfl rfl (w64n (k := i + 1) (by omega) (by omega))) rfl ?_
  refine Ops.pv (pv_assign rfl) rfl ?_
  refine Ops.nil ?_
  refine Ends.goes ?_
  refine Goes.back (hK (i + 1) (by omega) (by omega)) ⟨rfl, rfl, rfl, rfl, trivial⟩
 refine Wp.exit ?_
 refine Ends.then_exit ?_
 refine Ends.then_exit ?_
 refine Ends.block_hit ?_
 refine Ends.seq ?_
 refine Wp.seq ?_
 refine Wp.region ?_
 refine Ops.pv (pv_assign rfl) rfl ?_
 refine Ops.nil ?_
 refine Ends.seq ?_
 refine Wp.ret ?_
 exact Ends.ret (res1 rfl rfl) ⟨rfl, rfl⟩
end Go.Proofs.Ytdodfnjmkpgdbaa
end
section
set_option linter.unusedVariables false
set_option linter.unusedSimpArgs false
namespace Go.Proofs.Ytdodfnjmkpgdbaa
open Go.SL
theorem as_opR {x : List Value} (h : FlatV [some .i64, some .i64, some .i64, some .i64, some .i64, some .i64, some .i64, some .i64, some .i64, some .i64, some .u64, some .u64, some .i64, some .i64, some .i64, some .u64, some .u64, some .i64, some .i64] x) : ∃ o : OpR, x = o.cells ∧ OpC.Rg o.o := by
 obtain ⟨a0, l, rfl, _, h⟩ := h.int
 obtain ⟨a1, l, rfl, _, h⟩ := h.int
 obtain ⟨a2, l, rfl, _, h⟩ := h.int
 obtain ⟨a3, l, rfl, _, h⟩ := h.int
 obtain ⟨a4, l, rfl, _, h⟩ := h.int
 obtain ⟨a5, l, rfl, _, h⟩ := h.int
 obtain ⟨a6, l, rfl, _, h⟩ := h.int
 obtain ⟨a7, l, rfl, _, h⟩ := h.int
 obtain ⟨a8, l, rfl, _, h⟩ := h.int
 obtain ⟨a9, l, rfl, w9, h⟩ := h.int
 obtain ⟨a10, l, rfl, w10, h⟩ := h.int
 obtain ⟨a11, l, rfl, w11, h⟩ := h.int
 obtain ⟨a12, l, rfl, _, h⟩ := h.int
 obtain ⟨a13, l, rfl, _, h⟩ := h.int
 obtain ⟨a14, l, rfl, w14, h⟩ := h.int
 obtain ⟨a15, l, rfl, w15, h⟩ := h.int
 obtain ⟨a16, l, rfl, w16, h⟩ := h.int
 obtain ⟨a17, l, rfl, _, h⟩ := h.int
 obtain ⟨a18, l, rfl, _, h⟩ := h.int
 obtain rfl := h.nil
 exact ⟨⟨⟨a0, (a1, a2), (a3, a4), (a5, a6), ⟨a7, a8, a9, a10, a11, a12⟩, a13, a14, a15, a16, a17⟩, a18⟩, rfl, ⟨wfI w9, wfU w10, wfU w11⟩, wfI w14, wfU w15, wfU w16⟩
theorem as_opRs {els : List (List Value)} (h : ∀ x, x ∈ els → FlatV [some .i64, some .i64, some .i64, some .i64, some .i64, some .i64, some .i64, some .i64, some .i64, some .i64, some .u64, some .u64, some .i64, some .i64, some .i64, some .u64, some .u64, some .i64, some .i64] x) : ∃ l : List OpR, els = l.map OpR.cells ∧ ∀ o, o ∈ l → (fun o : OpR => OpC.Rg o.o) o :=
  map_of fun x hx => as_opR (h x hx)
theorem as_slot11 {cs : Array Value} (h : FlatV [some .i64, some .i64] cs.toList) : ∃ s : SlotM, cs = #[.int .i64 s.1, .int .i64 s.2] ∧ (fun _ => True) s := by
 obtain ⟨a, l, e, _, h⟩ := h.int
 obtain ⟨b, m, e2, _, h⟩ := h.int
 obtain rfl := h.nil
 refine ⟨(a, b), ?_, trivial⟩
 apply Array.ext'
 rw [e, e2]
end Go.Proofs.Ytdodfnjmkpgdbaa
end
