/- Walks of layer 19's laws: each returns true, whatever the input. No condition. -/
import Derived.Test.YtpjodkcghiklcaaW19
set_option linter.unusedVariables false
set_option linter.unusedSimpArgs false
namespace Go.Proofs.Ytpjodkcghiklcaa
open Go.SL

set_option maxHeartbeats 2000000 in
theorem tr_works19  : TrR Try.prog 48 [] ([]) (.bool true) := by
  refine Tr.enter Try.func48 rfl Try.ntmps48 rfl (fun W F => ?_)
  refine Wp.app ?_
  refine Wp.seq ?_
  refine Wp.region ?_
  refine Ops.pv (pv_assign rfl) rfl ?_
  refine Ops.nil ?_
  refine Ends.seq ?_
  refine Wp.seq ?_
  refine Wp.region ?_
  refine Ops.ef rfl (ef_call (tr_ntNew) rfl rfl) ?_
  rintro _ _ ⟨_, _, ⟨nb1, rfl, hR1⟩, rfl, rfl⟩
  refine Ops.app ?_
  refine Ops.pv (pv_assign rfl) rfl ?_
  refine Ops.nil ?_
  refine Ends.seq ?_
  refine Wp.seq ?_
  refine Wp.seq ?_
  refine Wp.region ?_
  refine Ops.pv (pv_move rfl) rfl ?_
  refine Ops.pv (pv_eql_nil rfl rfl) rfl ?_
  refine Ops.nil ?_
  refine Ends.seq ?_
  refine Wp.cond_false rfl ?_
  refine Wp.skip ?_
  refine Ends.seq ?_
  refine Wp.seq ?_
  refine Wp.region ?_
  refine Ops.pv (pv_move rfl) rfl ?_
  refine Ops.ef rfl (ef_call (tr_ntSignal _ _ (⟨0, [], []⟩ : Nt) hR1 (by decide) (by decide) 1 false) rfl rfl) ?_
  rintro _ _ ⟨_, _, ⟨rfl, hR2⟩, rfl, rfl⟩
  refine Ops.app ?_
  rw [show sgV (⟨0, [], []⟩ : Nt) false = 0 from rfl, show sgW (⟨0, [], []⟩ : Nt) 1 false = 0 from rfl, show sgB (⟨0, [], []⟩ : Nt) false = false from rfl]
  rw [show sgS (⟨0, [], []⟩ : Nt) 1 false = (⟨1, [], []⟩ : Nt) from rfl] at hR2
  refine Ops.pv (pv_move rfl) rfl ?_
  refine Ops.pv (pv_extract rfl rfl) rfl ?_
  refine Ops.pv (pv_extract rfl rfl) rfl ?_
  refine Ops.pv (pv_extract rfl rfl) rfl ?_
  refine Ops.pv (pv_assign rfl) rfl ?_
  refine Ops.pv (pv_assign rfl) rfl ?_
  refine Ops.pv (pv_assign rfl) rfl ?_
  refine Ops.nil ?_
  refine Ends.seq ?_
  refine Wp.seq ?_
  refine Wp.region ?_
  refine Ops.pv (pv_move rfl) rfl ?_
  refine Ops.ef rfl (ef_call (tr_ntSignal _ _ (⟨1, [], []⟩ : Nt) hR2 (by decide) (by decide) 4 false) rfl rfl) ?_
  rintro _ _ ⟨_, _, ⟨rfl, hR3⟩, rfl, rfl⟩
  refine Ops.app ?_
  rw [show sgV (⟨1, [], []⟩ : Nt) false = 0 from rfl, show sgW (⟨1, [], []⟩ : Nt) 4 false = 0 from rfl, show sgB (⟨1, [], []⟩ : Nt) false = false from rfl]
  rw [show sgS (⟨1, [], []⟩ : Nt) 4 false = (⟨5, [], []⟩ : Nt) from rfl] at hR3
  refine Ops.pv (pv_move rfl) rfl ?_
  refine Ops.pv (pv_extract rfl rfl) rfl ?_
  refine Ops.pv (pv_extract rfl rfl) rfl ?_
  refine Ops.pv (pv_extract rfl rfl) rfl ?_
  refine Ops.pv (pv_assign rfl) rfl ?_
  refine Ops.pv (pv_assign rfl) rfl ?_
  refine Ops.pv (pv_assign rfl) rfl ?_
  refine Ops.nil ?_
  refine Ends.seq ?_
  refine Wp.seq ?_
  refine Wp.region ?_
  refine Ops.pv (pv_move rfl) rfl ?_
  refine Ops.ef rfl (ef_call (tr_ntWait _ _ (⟨5, [], []⟩ : Nt) hR3 (by decide) (by decide) 3 true) rfl rfl) ?_
  rintro _ _ ⟨_, _, ⟨rfl, hR4⟩, rfl, rfl⟩
  refine Ops.app ?_
  rw [show wtW (⟨5, [], []⟩ : Nt) 3 = 5 from rfl, show wtB (⟨5, [], []⟩ : Nt) 3 = true from rfl, show wtE (⟨5, [], []⟩ : Nt) 3 = 0 from rfl]
  rw [show wtS (⟨5, [], []⟩ : Nt) 3 true = (⟨0, [], []⟩ : Nt) from rfl] at hR4
  refine Ops.pv (pv_move rfl) rfl ?_
  refine Ops.pv (pv_extract rfl rfl) rfl ?_
  refine Ops.pv (pv_extract rfl rfl) rfl ?_
  refine Ops.pv (pv_extract rfl rfl) rfl ?_
  refine Ops.pv (pv_assign rfl) rfl ?_
  refine Ops.pv (pv_assign rfl) rfl ?_
  refine Ops.pv (pv_assign rfl) rfl ?_
  refine Ops.nil ?_
  refine Ends.seq ?_
  refine Wp.seq ?_
  refine Wp.region ?_
  refine Ops.pv (pv_move rfl) rfl ?_
  refine Ops.ef rfl (ef_call (tr_ntWait _ _ (⟨0, [], []⟩ : Nt) hR4 (by decide) (by decide) 3 true) rfl rfl) ?_
  rintro _ _ ⟨_, _, ⟨rfl, hR5⟩, rfl, rfl⟩
  refine Ops.app ?_
  rw [show wtW (⟨0, [], []⟩ : Nt) 3 = 0 from rfl, show wtB (⟨0, [], []⟩ : Nt) 3 = false from rfl, show wtE (⟨0, [], []⟩ : Nt) 3 = 0 from rfl]
  rw [show wtS (⟨0, [], []⟩ : Nt) 3 true = (⟨0, [3], []⟩ : Nt) from rfl] at hR5
  refine Ops.pv (pv_move rfl) rfl ?_
  refine Ops.pv (pv_extract rfl rfl) rfl ?_
  refine Ops.pv (pv_extract rfl rfl) rfl ?_
  refine Ops.pv (pv_extract rfl rfl) rfl ?_
  refine Ops.pv (pv_assign rfl) rfl ?_
  refine Ops.pv (pv_assign rfl) rfl ?_
  refine Ops.pv (pv_assign rfl) rfl ?_
  refine Ops.nil ?_
  refine Ends.seq ?_
  refine Wp.seq ?_
  refine Wp.region ?_
  refine Ops.pv (pv_move rfl) rfl ?_
  refine Ops.ef rfl (ef_call (tr_ntWait _ _ (⟨0, [3], []⟩ : Nt) hR5 (by decide) (by decide) 3 true) rfl rfl) ?_
  rintro _ _ ⟨_, _, ⟨rfl, hR6⟩, rfl, rfl⟩
  refine Ops.app ?_
  rw [show wtW (⟨0, [3], []⟩ : Nt) 3 = 0 from rfl, show wtB (⟨0, [3], []⟩ : Nt) 3 = false from rfl, show wtE (⟨0, [3], []⟩ : Nt) 3 = 4 from rfl]
  rw [show wtS (⟨0, [3], []⟩ : Nt) 3 true = (⟨0, [3], []⟩ : Nt) from rfl] at hR6
  refine Ops.pv (pv_move rfl) rfl ?_
  refine Ops.pv (pv_extract rfl rfl) rfl ?_
  refine Ops.pv (pv_extract rfl rfl) rfl ?_
  refine Ops.pv (pv_extract rfl rfl) rfl ?_
  refine Ops.pv (pv_assign rfl) rfl ?_
  refine Ops.pv (pv_assign rfl) rfl ?_
  refine Ops.pv (pv_assign rfl) rfl ?_
  refine Ops.nil ?_
  refine Ends.seq ?_
  refine Wp.seq ?_
  refine Wp.region ?_
  refine Ops.pv (pv_move rfl) rfl ?_
  refine Ops.ef rfl (ef_call (tr_ntSignal _ _ (⟨0, [3], []⟩ : Nt) hR6 (by decide) (by decide) 2 false) rfl rfl) ?_
  rintro _ _ ⟨_, _, ⟨rfl, hR7⟩, rfl, rfl⟩
  refine Ops.app ?_
  rw [show sgV (⟨0, [3], []⟩ : Nt) false = 3 from rfl, show sgW (⟨0, [3], []⟩ : Nt) 2 false = 2 from rfl, show sgB (⟨0, [3], []⟩ : Nt) false = true from rfl]
  rw [show sgS (⟨0, [3], []⟩ : Nt) 2 false = (⟨0, [], []⟩ : Nt) from rfl] at hR7
  refine Ops.pv (pv_move rfl) rfl ?_
  refine Ops.pv (pv_extract rfl rfl) rfl ?_
  refine Ops.pv (pv_extract rfl rfl) rfl ?_
  refine Ops.pv (pv_extract rfl rfl) rfl ?_
  refine Ops.pv (pv_assign rfl) rfl ?_
  refine Ops.pv (pv_assign rfl) rfl ?_
  refine Ops.pv (pv_assign rfl) rfl ?_
  refine Ops.nil ?_
  refine Ends.seq ?_
  refine Wp.seq ?_
  refine Wp.region ?_
  refine Ops.pv (pv_move rfl) rfl ?_
  refine Ops.ef rfl (ef_call (tr_ntBind _ _ (⟨0, [], []⟩ : Nt) hR7 (by decide) (by decide) 9) rfl rfl) ?_
  rintro _ _ ⟨_, _, ⟨rfl, hR8⟩, rfl, rfl⟩
  refine Ops.app ?_
  rw [show bdE (⟨0, [], []⟩ : Nt) 9 = 0 from rfl]
  rw [show bdS (⟨0, [], []⟩ : Nt) 9 = (⟨0, [], [9]⟩ : Nt) from rfl] at hR8
  refine Ops.pv (pv_assign rfl) rfl ?_
  refine Ops.nil ?_
  refine Ends.seq ?_
  refine Wp.seq ?_
  refine Wp.region ?_
  refine Ops.pv (pv_move rfl) rfl ?_
  refine Ops.ef rfl (ef_call (tr_ntSignal _ _ (⟨0, [], [9]⟩ : Nt) hR8 (by decide) (by decide) 8 true) rfl rfl) ?_
  rintro _ _ ⟨_, _, ⟨rfl, hR9⟩, rfl, rfl⟩
  refine Ops.app ?_
  rw [show sgV (⟨0, [], [9]⟩ : Nt) true = 9 from rfl, show sgW (⟨0, [], [9]⟩ : Nt) 8 true = 8 from rfl, show sgB (⟨0, [], [9]⟩ : Nt) true = true from rfl]
  rw [show sgS (⟨0, [], [9]⟩ : Nt) 8 true = (⟨0, [], [9]⟩ : Nt) from rfl] at hR9
  refine Ops.pv (pv_move rfl) rfl ?_
  refine Ops.pv (pv_extract rfl rfl) rfl ?_
  refine Ops.pv (pv_extract rfl rfl) rfl ?_
  refine Ops.pv (pv_extract rfl rfl) rfl ?_
  refine Ops.pv (pv_assign rfl) rfl ?_
  refine Ops.pv (pv_assign rfl) rfl ?_
  refine Ops.pv (pv_assign rfl) rfl ?_
  refine Ops.nil ?_
  refine Ends.seq ?_
  refine Wp.seq ?_
  refine Wp.region ?_
  refine Ops.pv (pv_move rfl) rfl ?_
  first | refine Ops.pv (pv_not_dec rfl) rfl ?_ | refine Ops.pv (pv_not rfl) rfl ?_
  refine Ops.pv (pv_move rfl) rfl ?_
  refine Ops.pvg ⟨_, _, rfl, rfl, rfl⟩ (pv_move rfl) rfl ?_
  first | refine Ops.pvg ⟨_, _, rfl, rfl, rfl⟩ (pv_not_dec rfl) rfl ?_ | refine Ops.pvg ⟨_, _, rfl, rfl, rfl⟩ (pv_not rfl) rfl ?_
  refine Ops.pv (pv_pick_true rfl rfl) rfl ?_
  refine Ops.pv (pv_move rfl) rfl ?_
  refine Ops.pvg ⟨_, _, rfl, rfl, rfl⟩ (pv_move rfl) rfl ?_
  refine Ops.pvg ⟨_, _, rfl, rfl, rfl⟩ ((pv_eql rfl rfl).tru (by first | rfl | decide | omega | assumption | (simp; done) | (simp; omega))) rfl ?_
  refine Ops.pv (pv_pick_true rfl rfl) rfl ?_
  refine Ops.pv (pv_move rfl) rfl ?_
  refine Ops.pvg ⟨_, _, rfl, rfl, rfl⟩ (pv_move rfl) rfl ?_
  refine Ops.pv (pv_pick_true rfl rfl) rfl ?_
  refine Ops.pv (pv_move rfl) rfl ?_
  refine Ops.pvg ⟨_, _, rfl, rfl, rfl⟩ (pv_move rfl) rfl ?_
  refine Ops.pvg ⟨_, _, rfl, rfl, rfl⟩ ((pv_eql rfl rfl).tru (by first | rfl | decide | omega | assumption | (simp; done) | (simp; omega))) rfl ?_
  refine Ops.pv (pv_pick_true rfl rfl) rfl ?_
  refine Ops.pv (pv_move rfl) rfl ?_
  refine Ops.pvg ⟨_, _, rfl, rfl, rfl⟩ (pv_move rfl) rfl ?_
  first | refine Ops.pvg ⟨_, _, rfl, rfl, rfl⟩ (pv_not_dec rfl) rfl ?_ | refine Ops.pvg ⟨_, _, rfl, rfl, rfl⟩ (pv_not rfl) rfl ?_
  refine Ops.pv (pv_pick_true rfl rfl) rfl ?_
  refine Ops.pv (pv_move rfl) rfl ?_
  refine Ops.pvg ⟨_, _, rfl, rfl, rfl⟩ (pv_move rfl) rfl ?_
  refine Ops.pvg ⟨_, _, rfl, rfl, rfl⟩ ((pv_eql rfl rfl).tru (by first | rfl | decide | omega | assumption | (simp; done) | (simp; omega))) rfl ?_
  refine Ops.pv (pv_pick_true rfl rfl) rfl ?_
  refine Ops.pv (pv_move rfl) rfl ?_
  refine Ops.pvg ⟨_, _, rfl, rfl, rfl⟩ (pv_move rfl) rfl ?_
  refine Ops.pvg ⟨_, _, rfl, rfl, rfl⟩ ((pv_eql rfl rfl).tru (by first | rfl | decide | omega | assumption | (simp; done) | (simp; omega))) rfl ?_
  refine Ops.pv (pv_pick_true rfl rfl) rfl ?_
  refine Ops.pv (pv_move rfl) rfl ?_
  refine Ops.pvg ⟨_, _, rfl, rfl, rfl⟩ (pv_move rfl) rfl ?_
  refine Ops.pvg ⟨_, _, rfl, rfl, rfl⟩ ((pv_eql rfl rfl).tru (by first | rfl | decide | omega | assumption | (simp; done) | (simp; omega))) rfl ?_
  refine Ops.pv (pv_pick_true rfl rfl) rfl ?_
  refine Ops.pv (pv_move rfl) rfl ?_
  refine Ops.pvg ⟨_, _, rfl, rfl, rfl⟩ (pv_move rfl) rfl ?_
  refine Ops.pv (pv_pick_true rfl rfl) rfl ?_
  refine Ops.pv (pv_move rfl) rfl ?_
  refine Ops.pvg ⟨_, _, rfl, rfl, rfl⟩ (pv_move rfl) rfl ?_
  refine Ops.pvg ⟨_, _, rfl, rfl, rfl⟩ ((pv_eql rfl rfl).tru (by first | rfl | decide | omega | assumption | (simp; done) | (simp; omega))) rfl ?_
  refine Ops.pv (pv_pick_true rfl rfl) rfl ?_
  refine Ops.pv (pv_move rfl) rfl ?_
  refine Ops.pvg ⟨_, _, rfl, rfl, rfl⟩ (pv_move rfl) rfl ?_
  refine Ops.pvg ⟨_, _, rfl, rfl, rfl⟩ ((pv_eql rfl rfl).tru (by first | rfl | decide | omega | assumption | (simp; done) | (simp; omega))) rfl ?_
  refine Ops.pv (pv_pick_true rfl rfl) rfl ?_
  refine Ops.pv (pv_move rfl) rfl ?_
  refine Ops.pvg ⟨_, _, rfl, rfl, rfl⟩ (pv_move rfl) rfl ?_
  refine Ops.pvg ⟨_, _, rfl, rfl, rfl⟩ ((pv_eql rfl rfl).tru (by first | rfl | decide | omega | assumption | (simp; done) | (simp; omega))) rfl ?_
  refine Ops.pv (pv_pick_true rfl rfl) rfl ?_
  refine Ops.pv (pv_move rfl) rfl ?_
  refine Ops.pvg ⟨_, _, rfl, rfl, rfl⟩ (pv_move rfl) rfl ?_
  refine Ops.pv (pv_pick_true rfl rfl) rfl ?_
  refine Ops.pv (pv_move rfl) rfl ?_
  refine Ops.pvg ⟨_, _, rfl, rfl, rfl⟩ (pv_move rfl) rfl ?_
  refine Ops.efg ⟨_, _, rfl, rfl, rfl⟩ (ef_call (tr_ntBind _ _ (⟨0, [], [9]⟩ : Nt) hR9 (by decide) (by decide) 1) rfl rfl) ?_
  rintro _ _ ⟨_, _, ⟨rfl, hR10⟩, rfl, rfl⟩
  refine Ops.app ?_
  rw [show bdE (⟨0, [], [9]⟩ : Nt) 1 = 4 from rfl]
  rw [show bdS (⟨0, [], [9]⟩ : Nt) 1 = (⟨0, [], [9]⟩ : Nt) from rfl] at hR10
  refine Ops.pvg ⟨_, _, rfl, rfl, rfl⟩ ((pv_eql rfl rfl).tru (by first | rfl | decide | omega | assumption | (simp; done) | (simp; omega))) rfl ?_
  refine Ops.pv (pv_pick_true rfl rfl) rfl ?_
  refine Ops.pv (pv_assign rfl) rfl ?_
  refine Ops.nil ?_
  refine Ends.seq ?_
  refine Wp.ret ?_
  exact Ends.ret (res1 rfl rfl) ⟨rfl, rfl⟩

set_option maxHeartbeats 4000000 in
theorem tr_noticeDoes (G : Hp) (a : Option Addr) (c : Nat) (ops : List OpN) (ha : ArgS G 4 a (ops.map OpN.cells)) (hol : ops.length ≤ maxLen) : TrR Try.prog 13 [.slice a ops.length c] (G) (.bool true) := by
  refine Tr.enter Try.func13 rfl Try.ntmps13 rfl (fun W F => ?_)
  refine Wp.app ?_
  refine Wp.seq ?_
  refine Wp.region ?_
  refine Ops.pv (pv_assign rfl) rfl ?_
  refine Ops.nil ?_
  refine Ends.seq ?_
  refine Wp.seq ?_
  refine Wp.region ?_
  refine Ops.ef rfl (ef_call (tr_ntNew) rfl rfl) ?_
  rintro _ _ ⟨_, _, ⟨nb1, rfl, hZ1⟩, rfl, rfl⟩
  refine Ops.app ?_
  refine Ops.pv (pv_build rfl) rfl ?_
  refine Ops.ef rfl (ef_boxK rfl rfl) ?_
  rintro _ _ ⟨b1, rfl, rfl⟩
  refine Ops.pv (pv_assign rfl) rfl ?_
  refine Ops.pv (pv_assign rfl) rfl ?_
  refine Ops.nil ?_
  refine Ends.seq ?_
  refine Wp.seq ?_
  refine Wp.seq ?_
  refine Wp.region ?_
  refine Ops.pv (pv_move rfl) rfl ?_
  refine Ops.pv (pv_eql_nil rfl rfl) rfl ?_
  refine Ops.nil ?_
  refine Ends.seq ?_
  refine Wp.cond_false rfl ?_
  refine Wp.skip ?_
  refine Ends.seq ?_
  refine Wp.seq ?_
  refine Wp.seq ?_
  refine Wp.region ?_
  refine Ops.pv (pv_assign rfl) rfl ?_
  refine Ops.nil ?_
  refine Ends.seq ?_
  refine Wp.block ?_
  refine Wp.loopK (σ := Nat × Nt × Hp × Int × Bool × Value × Hp) [(0, _), (3, _), (4, _)] (fun s => [(5, .int .i64 s.1)]) (fun s => s.2.2.1 ++ ((b1, .cells [.int .u64 s.2.1.w, s.2.2.2.2.2.1, .int .i64 s.2.2.2.1, .bool s.2.2.2.2.1].toArray 82) :: (s.2.2.2.2.2.2 ++ (G ++ F)))) (fun s => s.2.1.l.length ≤ s.1 ∧ s.1 ≤ 100 ∧ NtH s.2.1 nb1 s.2.2.1 ∧ s.2.1.b = bdOf s.2.2.2.1 s.2.2.2.2.1 ∧ Slc 3 1 s.2.2.2.2.2.1 s.2.1.l.length (intsC s.2.1.l) s.2.2.2.2.2.2) (fun s => ops.length - s.1) (0, ⟨0, [], []⟩, _, 0, false, .slice none 0 0, []) ⟨Nat.le_refl _, Nat.zero_le _, hZ1, rfl, Slc.nil _ _⟩ ⟨rfl, rfl, rfl, trivial⟩ ⟨rfl, trivial⟩ (by intro w ho; (try dsimp only [List.nil_append, List.cons_append]); exact Drop.own ho) ?_
  rintro ⟨i, S, H, id0, has, v, K⟩ KK ⟨hll, hi, hA, hbd, ht⟩ hK
  dsimp only [List.cons_append, List.nil_append] at hK ⊢
  dsimp only at hll hi hA hbd ht ⊢
  have eS : (⟨S.w, S.l, bdOf id0 has⟩ : Nt) = S := by rw [← hbd]
  have hb1 : S.b.length ≤ 1 := by rw [hbd]; cases has <;> simp [bdOf]
  refine Wp.seq ?_
  refine Wp.seq ?_
  refine Wp.region ?_
  refine Ops.pv (pv_move rfl) rfl ?_
  refine Ops.pv (pv_move rfl) rfl ?_
  refine Ops.pv (pv_len_slice (T := 79) rfl rfl) rfl ?_
  refine Ops.pv (pv_lss rfl rfl) rfl ?_
  refine Ops.pv (pv_move rfl) rfl ?_
  refine Ops.pvc rfl rfl (fun hg => pv_move rfl) rfl ?_
  refine Ops.pvc rfl rfl (fun hg => Pv.setE (t := 39) rfl (cv_pos hg) (pv_lss rfl rfl)) rfl ?_
  refine Ops.pv (pv_pick_and rfl rfl) rfl ?_
  refine Ops.nil ?_
  refine Ends.seq ?_
  first | refine Wp.cond_dect rfl (fun h1 => ?_) (fun h1 => ?_) | refine Wp.cond_t rfl (fun h1 => ?_) (fun h1 => ?_)
  · obtain ⟨x, hq⟩ : ∃ x, ops[i]? = some x := ⟨_, List.getElem?_eq_getElem (by omega)⟩
    obtain ⟨_, b, o, cc, T, f, rfl, hm, hr⟩ := ha i x.cells (by rw [List.getElem?_map, hq]; rfl)
    have hbg : Blk G b (.cells cc.toArray T f) := ⟨hm⟩
    refine Wp.skip ?_
    refine Ends.seq ?_
    refine Wp.seq ?_
    refine Wp.block ?_
    refine Wp.seq ?_
    refine Wp.region ?_
    refine Ops.pv (pv_move rfl) rfl ?_
    refine Ops.pv (pv_move rfl) rfl ?_
    refine Ops.pv (pv_indexAddr rfl rfl rfl (by omega)) rfl ?_
    refine Ops.pv (pv_loadK x.cells rfl rfl rfl hr) rfl ?_
    refine Ops.ef rfl (ef_allocK tyZ84 rfl) ?_
    rintro _ _ ⟨b2, rfl, rfl⟩
    refine Ops.ef rfl (ef_storeK rfl rfl rfl rfl) ?_
    rintro _ _ ⟨rfl, rfl⟩
    refine Ops.nil ?_
    refine Ends.seq ?_
    refine Wp.seq ?_
    refine Wp.seq ?_
    refine Wp.region ?_
    first | refine Ops.pv (pv_fieldAddr0 rfl rfl) rfl ?_ | refine Ops.pv (pv_fieldAddr rfl rfl) rfl ?_
    first | refine Ops.pv (pv_load rfl rfl rfl) rfl ?_ | refine Ops.pv (pv_load rfl rfl (by assumption)) rfl ?_
    refine Ops.nil ?_
    refine Ends.seq ?_
    refine Wp.block ?_
    refine Wp.seq ?_
    refine Wp.region ?_
    refine Ops.pv (pv_eql rfl rfl) rfl ?_
    refine Ops.pv (pv_assign rfl) rfl ?_
    refine Ops.nil ?_
    refine Ends.seq ?_
    first | refine Wp.cond_dect rfl (fun h2 => ?_) (fun h2 => ?_) | refine Wp.cond_t rfl (fun h2 => ?_) (fun h2 => ?_)
    · refine Wp.seq ?_
      refine Wp.region ?_
      refine Ops.pv (pv_move rfl) rfl ?_
      first | refine Ops.pv (pv_fieldAddr0 rfl rfl) rfl ?_ | refine Ops.pv (pv_fieldAddr rfl rfl) rfl ?_
      first | refine Ops.pv (pv_load rfl rfl rfl) rfl ?_ | refine Ops.pv (pv_load rfl rfl (by assumption)) rfl ?_
      first | refine Ops.pv (pv_fieldAddr0 rfl rfl) rfl ?_ | refine Ops.pv (pv_fieldAddr rfl rfl) rfl ?_
      first | refine Ops.pv (pv_load rfl rfl rfl) rfl ?_ | refine Ops.pv (pv_load rfl rfl (by assumption)) rfl ?_
      refine Ops.ef rfl (ef_call (tr_ntSignal _ _ S hA (by omega) hb1 x.badge x.flag) rfl rfl) ?_
      rintro _ _ ⟨_, _, ⟨rfl, hA1⟩, rfl, rfl⟩
      refine Ops.app ?_
      refine Ops.pv (pv_move rfl) rfl ?_
      refine Ops.pv (pv_extract rfl rfl) rfl ?_
      refine Ops.pv (pv_extract rfl rfl) rfl ?_
      refine Ops.pv (pv_extract rfl rfl) rfl ?_
      refine Ops.pv (pv_assign rfl) rfl ?_
      refine Ops.pv (pv_assign rfl) rfl ?_
      refine Ops.pv (pv_assign rfl) rfl ?_
      refine Ops.nil ?_
      refine Ends.seq ?_
      refine Wp.seq ?_
      refine Wp.region ?_
      refine Ops.pv (pv_move rfl) rfl ?_
      first | refine Ops.pv (pv_fieldAddr0 rfl rfl) rfl ?_ | refine Ops.pv (pv_fieldAddr rfl rfl) rfl ?_
      first | refine Ops.pv (pv_load rfl rfl rfl) rfl ?_ | refine Ops.pv (pv_load rfl rfl (by assumption)) rfl ?_
      first | refine Ops.pv (pv_fieldAddr0 rfl rfl) rfl ?_ | refine Ops.pv (pv_fieldAddr rfl rfl) rfl ?_
      first | refine Ops.pv (pv_load rfl rfl rfl) rfl ?_ | refine Ops.pv (pv_load rfl rfl (by assumption)) rfl ?_
      refine Ops.ef rfl (ef_call (tr_dnSignal b1 S.w _ K S.l id0 has ht (by omega) x.badge x.flag) rfl rfl) ?_
      rintro _ _ ⟨_, _, ⟨rfl, v1, K1, ht1, rfl⟩, rfl, rfl⟩
      refine Ops.app ?_
      rw [eS] at ht1 ⊢
      refine Ops.pv (pv_move rfl) rfl ?_
      refine Ops.pv (pv_extract rfl rfl) rfl ?_
      refine Ops.pv (pv_extract rfl rfl) rfl ?_
      refine Ops.pv (pv_extract rfl rfl) rfl ?_
      refine Ops.pv (pv_assign rfl) rfl ?_
      refine Ops.pv (pv_assign rfl) rfl ?_
      refine Ops.pv (pv_assign rfl) rfl ?_
      refine Ops.nil ?_
      refine Ends.seq ?_
      refine Wp.seq ?_
      refine Wp.region ?_
      refine Ops.pv (pv_move rfl) rfl ?_
      refine Ops.pv (pv_move rfl) rfl ?_
      refine Ops.pv ((pv_neq rfl rfl).fls (by first | exact fun h => h rfl | decide | omega | assumption)) rfl ?_
      refine Ops.pv (pv_move rfl) rfl ?_
      refine Ops.pvg ⟨_, _, rfl, rfl, rfl⟩ (pv_move rfl) rfl ?_
      refine Ops.pvg ⟨_, _, rfl, rfl, rfl⟩ (pv_move rfl) rfl ?_
      refine Ops.pvg ⟨_, _, rfl, rfl, rfl⟩ ((pv_neq rfl rfl).fls (by first | exact fun h => h rfl | decide | omega | assumption)) rfl ?_
      refine Ops.pv (pv_pick_false rfl rfl) rfl ?_
      refine Ops.pv (pv_move rfl) rfl ?_
      refine Ops.pvg ⟨_, _, rfl, rfl, rfl⟩ (pv_move rfl) rfl ?_
      refine Ops.pvg ⟨_, _, rfl, rfl, rfl⟩ (pv_move rfl) rfl ?_
      refine Ops.pvg ⟨_, _, rfl, rfl, rfl⟩ ((pv_neq_bool rfl rfl).is (u := .bool false) (by first | rfl | (simp; done) | simp_all)) rfl ?_
      refine Ops.pv (pv_pick_false rfl rfl) rfl ?_
      refine Ops.nil ?_
      refine Ends.seq ?_
      refine Wp.cond_false rfl ?_
      refine Wp.skip ?_
      refine Ends.block_normal ?_
      refine Ends.seq ?_
      refine Wp.seq ?_
      refine Wp.region ?_
      refine Ops.pv (pv_move rfl) rfl ?_
      refine Ops.ef rfl (ef_callr ((tr_ntBound _ _ (sgS S x.badge x.flag) hA1 (by have := (sgS_len S x.badge x.flag).1; omega) (by rw [show (sgS S x.badge x.flag).b = bdOf id0 has from (by rw [(sgS_len S x.badge x.flag).2]; exact hbd)]; cases has <;> simp [bdOf])).eq (r' := .tuple #[.int .i64 ((bdOf id0 has).headD 0), .bool (!(bdOf id0 has).isEmpty)]) (by rw [show (sgS S x.badge x.flag).b = bdOf id0 has from (by rw [(sgS_len S x.badge x.flag).2]; exact hbd)])) rfl rfl) ?_
      rintro _ _ ⟨rfl, rfl⟩
      refine Ops.pv (pv_move rfl) rfl ?_
      refine Ops.pv (pv_extract rfl rfl) rfl ?_
      refine Ops.pv (pv_extract rfl rfl) rfl ?_
      refine Ops.pv (pv_assign rfl) rfl ?_
      refine Ops.pv (pv_assign rfl) rfl ?_
      refine Ops.nil ?_
      refine Ends.seq ?_
      refine Wp.seq ?_
      refine Wp.region ?_
      refine Ops.pv (pv_move rfl) rfl ?_
      refine Ops.ef rfl (ef_callr (tr_dnBound b1 (sgS S x.badge x.flag).w _ K1 (sgS S x.badge x.flag).l id0 has ht1 (by have := (sgS_len S x.badge x.flag).1; omega)) rfl rfl) ?_
      rintro _ _ ⟨rfl, rfl⟩
      refine Ops.pv (pv_move rfl) rfl ?_
      refine Ops.pv (pv_extract rfl rfl) rfl ?_
      refine Ops.pv (pv_extract rfl rfl) rfl ?_
      refine Ops.pv (pv_assign rfl) rfl ?_
      refine Ops.pv (pv_assign rfl) rfl ?_
      refine Ops.nil ?_
      refine Ends.seq ?_
      refine Wp.seq ?_
      refine Wp.region ?_
      refine Ops.pv (pv_move rfl) rfl ?_
      refine Ops.ef rfl (ef_call (tr_ntState _ _ (sgS S x.badge x.flag) hA1 (by have := (sgS_len S x.badge x.flag).1; omega) (by rw [show (sgS S x.badge x.flag).b = bdOf id0 has from (by rw [(sgS_len S x.badge x.flag).2]; exact hbd)]; cases has <;> simp [bdOf])) rfl rfl) ?_
      rintro _ _ ⟨_, _, ⟨w1, C1, rfl, hc1, rfl⟩, rfl, rfl⟩
      refine Ops.app ?_
      obtain ⟨p1, q1, rfl⟩ := hc1.form
      have hd1 := ht1
      obtain ⟨u1, t1, e9⟩ := hd1.form
      rw [e9] at hd1
      rw [e9]
      refine Ops.pv (pv_move rfl) rfl ?_
      refine Ops.pv (pv_extract rfl rfl) rfl ?_
      refine Ops.pv (pv_extract rfl rfl) rfl ?_
      refine Ops.pv (pv_assign rfl) rfl ?_
      refine Ops.pv (pv_assign rfl) rfl ?_
      refine Ops.nil ?_
      refine Ends.seq ?_
      refine Wp.seq ?_
      refine Wp.region ?_
      refine Ops.pv (pv_move rfl) rfl ?_
      refine Ops.pv (pv_move rfl) rfl ?_
      refine Ops.pv ((pv_neq rfl rfl).fls (by first | exact fun h => h rfl | decide | omega | assumption)) rfl ?_
      refine Ops.pv (pv_move rfl) rfl ?_
      refine Ops.pvg ⟨_, _, rfl, rfl, rfl⟩ (pv_move rfl) rfl ?_
      refine Ops.pvg ⟨_, _, rfl, rfl, rfl⟩ (pv_move rfl) rfl ?_
      refine Ops.pvg ⟨_, _, rfl, rfl, rfl⟩ ((pv_neq_bool rfl rfl).is (u := .bool false) (by first | rfl | (simp; done) | simp_all)) rfl ?_
      refine Ops.pv (pv_pick_false rfl rfl) rfl ?_
      refine Ops.pv (pv_move rfl) rfl ?_
      refine Ops.pvg ⟨_, _, rfl, rfl, rfl⟩ (pv_move rfl) rfl ?_
      refine Ops.pvg ⟨_, _, rfl, rfl, rfl⟩ (pv_move rfl) rfl ?_
      first | refine Ops.pvg ⟨_, _, rfl, rfl, rfl⟩ (pv_nilCheck rfl) rfl ?_ | refine Ops.pvg ⟨_, _, rfl, rfl, rfl⟩ (pv_nilCheck_func rfl rfl) rfl ?_
      first | refine Ops.pvg ⟨_, _, rfl, rfl, rfl⟩ (pv_fieldAddr0 rfl rfl) rfl ?_ | refine Ops.pvg ⟨_, _, rfl, rfl, rfl⟩ (pv_fieldAddr rfl rfl) rfl ?_
      first | refine Ops.pvg ⟨_, _, rfl, rfl, rfl⟩ (pv_load rfl rfl rfl) rfl ?_ | refine Ops.pvg ⟨_, _, rfl, rfl, rfl⟩ (pv_load rfl rfl (by assumption)) rfl ?_
      refine Ops.pvg ⟨_, _, rfl, rfl, rfl⟩ ((pv_neq rfl rfl).fls (by first | exact fun h => h rfl | decide | omega | assumption)) rfl ?_
      refine Ops.pv (pv_pick_false rfl rfl) rfl ?_
      refine Ops.pv (pv_move rfl) rfl ?_
      refine Ops.pvg ⟨_, _, rfl, rfl, rfl⟩ (pv_move rfl) rfl ?_
      refine Ops.pvg ⟨_, _, rfl, rfl, rfl⟩ (pv_move rfl) rfl ?_
      first | refine Ops.pvg ⟨_, _, rfl, rfl, rfl⟩ (pv_nilCheck rfl) rfl ?_ | refine Ops.pvg ⟨_, _, rfl, rfl, rfl⟩ (pv_nilCheck_func rfl rfl) rfl ?_
      first | refine Ops.pvg ⟨_, _, rfl, rfl, rfl⟩ (pv_fieldAddr0 rfl rfl) rfl ?_ | refine Ops.pvg ⟨_, _, rfl, rfl, rfl⟩ (pv_fieldAddr rfl rfl) rfl ?_
      first | refine Ops.pvg ⟨_, _, rfl, rfl, rfl⟩ (pv_load rfl rfl rfl) rfl ?_ | refine Ops.pvg ⟨_, _, rfl, rfl, rfl⟩ (pv_load rfl rfl (by assumption)) rfl ?_
      refine Ops.efg ⟨_, _, rfl, rfl, rfl⟩ (ef_callr (tr_same C1 _ _ _ _ _ (sgS S x.badge x.flag).l hc1.view hd1.view (by have := (sgS_len S x.badge x.flag).1; omega)) rfl rfl) ?_
      rintro _ _ ⟨rfl, rfl⟩
      first | refine Ops.pvg ⟨_, _, rfl, rfl, rfl⟩ (pv_not_dec rfl) rfl ?_ | refine Ops.pvg ⟨_, _, rfl, rfl, rfl⟩ (pv_not rfl) rfl ?_
      refine Ops.pv (pv_pick_false rfl rfl) rfl ?_
      refine Ops.nil ?_
      refine Ends.seq ?_
      refine Wp.cond_false rfl ?_
      refine Wp.skip ?_
      refine Ends.block_normal ?_
      refine Ends.seq ?_
      refine Wp.region ?_
      refine Ops.pv (pv_move rfl) rfl ?_
      first | refine Ops.pv (pv_add rfl rfl (w64 (by omega) (by omega))) rfl ?_ | refine Ops.pv (pv_add rfl rfl rfl) rfl ?_
      refine Ops.pv (pv_assign rfl) rfl ?_
      refine Ops.nil ?_
      refine Ends.goes ?_
      refine Goes.back (hK (i + 1, (sgS S x.badge x.flag), _, id0, has, .slice u1 (sgS S x.badge x.flag).l.length t1, K1) ⟨by dsimp only; exact Nat.le_trans (Nat.le_succ_of_le (sgS_len S x.badge x.flag).1) (Nat.succ_le_succ hll), by dsimp only; omega, hA1, (by rw [(sgS_len S x.badge x.flag).2]; exact hbd), hd1⟩ (by dsimp only; omega)) ⟨rfl, rfl, rfl, rfl, trivial⟩
    · refine Wp.seq ?_
      refine Wp.region ?_
      refine Ops.pv (pv_eql rfl rfl) rfl ?_
      refine Ops.pv (pv_assign rfl) rfl ?_
      refine Ops.nil ?_
      refine Ends.seq ?_
      first | refine Wp.cond_dect rfl (fun h3 => ?_) (fun h3 => ?_) | refine Wp.cond_t rfl (fun h3 => ?_) (fun h3 => ?_)
      · refine Wp.seq ?_
        refine Wp.region ?_
        refine Ops.pv (pv_move rfl) rfl ?_
        first | refine Ops.pv (pv_fieldAddr0 rfl rfl) rfl ?_ | refine Ops.pv (pv_fieldAddr rfl rfl) rfl ?_
        first | refine Ops.pv (pv_load rfl rfl rfl) rfl ?_ | refine Ops.pv (pv_load rfl rfl (by assumption)) rfl ?_
        first | refine Ops.pv (pv_fieldAddr0 rfl rfl) rfl ?_ | refine Ops.pv (pv_fieldAddr rfl rfl) rfl ?_
        first | refine Ops.pv (pv_load rfl rfl rfl) rfl ?_ | refine Ops.pv (pv_load rfl rfl (by assumption)) rfl ?_
        refine Ops.ef rfl (ef_call (tr_ntWait _ _ S hA (by omega) hb1 x.id x.flag) rfl rfl) ?_
        rintro _ _ ⟨_, _, ⟨rfl, hA2⟩, rfl, rfl⟩
        refine Ops.app ?_
        refine Ops.pv (pv_move rfl) rfl ?_
        refine Ops.pv (pv_extract rfl rfl) rfl ?_
        refine Ops.pv (pv_extract rfl rfl) rfl ?_
        refine Ops.pv (pv_extract rfl rfl) rfl ?_
        refine Ops.pv (pv_assign rfl) rfl ?_
        refine Ops.pv (pv_assign rfl) rfl ?_
        refine Ops.pv (pv_assign rfl) rfl ?_
        refine Ops.nil ?_
        refine Ends.seq ?_
        refine Wp.seq ?_
        refine Wp.region ?_
        refine Ops.pv (pv_move rfl) rfl ?_
        first | refine Ops.pv (pv_fieldAddr0 rfl rfl) rfl ?_ | refine Ops.pv (pv_fieldAddr rfl rfl) rfl ?_
        first | refine Ops.pv (pv_load rfl rfl rfl) rfl ?_ | refine Ops.pv (pv_load rfl rfl (by assumption)) rfl ?_
        first | refine Ops.pv (pv_fieldAddr0 rfl rfl) rfl ?_ | refine Ops.pv (pv_fieldAddr rfl rfl) rfl ?_
        first | refine Ops.pv (pv_load rfl rfl rfl) rfl ?_ | refine Ops.pv (pv_load rfl rfl (by assumption)) rfl ?_
        refine Ops.ef rfl (ef_call (tr_dnWait b1 S.w _ K S.l id0 has ht (by omega) x.id x.flag) rfl rfl) ?_
        rintro _ _ ⟨_, _, ⟨rfl, v2, K2, ht2, rfl⟩, rfl, rfl⟩
        refine Ops.app ?_
        rw [eS] at ht2 ⊢
        refine Ops.pv (pv_move rfl) rfl ?_
        refine Ops.pv (pv_extract rfl rfl) rfl ?_
        refine Ops.pv (pv_extract rfl rfl) rfl ?_
        refine Ops.pv (pv_extract rfl rfl) rfl ?_
        refine Ops.pv (pv_assign rfl) rfl ?_
        refine Ops.pv (pv_assign rfl) rfl ?_
        refine Ops.pv (pv_assign rfl) rfl ?_
        refine Ops.nil ?_
        refine Ends.seq ?_
        refine Wp.seq ?_
        refine Wp.region ?_
        refine Ops.pv (pv_move rfl) rfl ?_
        refine Ops.pv (pv_move rfl) rfl ?_
        refine Ops.pv ((pv_neq rfl rfl).fls (by first | exact fun h => h rfl | decide | omega | assumption)) rfl ?_
        refine Ops.pv (pv_move rfl) rfl ?_
        refine Ops.pvg ⟨_, _, rfl, rfl, rfl⟩ (pv_move rfl) rfl ?_
        refine Ops.pvg ⟨_, _, rfl, rfl, rfl⟩ (pv_move rfl) rfl ?_
        refine Ops.pvg ⟨_, _, rfl, rfl, rfl⟩ ((pv_neq_bool rfl rfl).is (u := .bool false) (by first | rfl | (simp; done) | simp_all)) rfl ?_
        refine Ops.pv (pv_pick_false rfl rfl) rfl ?_
        refine Ops.pv (pv_move rfl) rfl ?_
        refine Ops.pvg ⟨_, _, rfl, rfl, rfl⟩ (pv_move rfl) rfl ?_
        refine Ops.pvg ⟨_, _, rfl, rfl, rfl⟩ (pv_move rfl) rfl ?_
        refine Ops.pvg ⟨_, _, rfl, rfl, rfl⟩ ((pv_neq rfl rfl).fls (by first | exact fun h => h rfl | decide | omega | assumption)) rfl ?_
        refine Ops.pv (pv_pick_false rfl rfl) rfl ?_
        refine Ops.nil ?_
        refine Ends.seq ?_
        refine Wp.cond_false rfl ?_
        refine Wp.skip ?_
        refine Ends.block_normal ?_
        refine Ends.seq ?_
        refine Wp.seq ?_
        refine Wp.region ?_
        refine Ops.pv (pv_move rfl) rfl ?_
        refine Ops.ef rfl (ef_callr ((tr_ntBound _ _ (wtS S x.id x.flag) hA2 (by have := (wtS_len S x.id x.flag).1; omega) (by rw [show (wtS S x.id x.flag).b = bdOf id0 has from (by rw [(wtS_len S x.id x.flag).2]; exact hbd)]; cases has <;> simp [bdOf])).eq (r' := .tuple #[.int .i64 ((bdOf id0 has).headD 0), .bool (!(bdOf id0 has).isEmpty)]) (by rw [show (wtS S x.id x.flag).b = bdOf id0 has from (by rw [(wtS_len S x.id x.flag).2]; exact hbd)])) rfl rfl) ?_
        rintro _ _ ⟨rfl, rfl⟩
        refine Ops.pv (pv_move rfl) rfl ?_
        refine Ops.pv (pv_extract rfl rfl) rfl ?_
        refine Ops.pv (pv_extract rfl rfl) rfl ?_
        refine Ops.pv (pv_assign rfl) rfl ?_
        refine Ops.pv (pv_assign rfl) rfl ?_
        refine Ops.nil ?_
        refine Ends.seq ?_
        refine Wp.seq ?_
        refine Wp.region ?_
        refine Ops.pv (pv_move rfl) rfl ?_
        refine Ops.ef rfl (ef_callr (tr_dnBound b1 (wtS S x.id x.flag).w _ K2 (wtS S x.id x.flag).l id0 has ht2 (by have := (wtS_len S x.id x.flag).1; omega)) rfl rfl) ?_
        rintro _ _ ⟨rfl, rfl⟩
        refine Ops.pv (pv_move rfl) rfl ?_
        refine Ops.pv (pv_extract rfl rfl) rfl ?_
        refine Ops.pv (pv_extract rfl rfl) rfl ?_
        refine Ops.pv (pv_assign rfl) rfl ?_
        refine Ops.pv (pv_assign rfl) rfl ?_
        refine Ops.nil ?_
        refine Ends.seq ?_
        refine Wp.seq ?_
        refine Wp.region ?_
        refine Ops.pv (pv_move rfl) rfl ?_
        refine Ops.ef rfl (ef_call (tr_ntState _ _ (wtS S x.id x.flag) hA2 (by have := (wtS_len S x.id x.flag).1; omega) (by rw [show (wtS S x.id x.flag).b = bdOf id0 has from (by rw [(wtS_len S x.id x.flag).2]; exact hbd)]; cases has <;> simp [bdOf])) rfl rfl) ?_
        rintro _ _ ⟨_, _, ⟨w2, C2, rfl, hc2, rfl⟩, rfl, rfl⟩
        refine Ops.app ?_
        obtain ⟨p2, q2, rfl⟩ := hc2.form
        have hd2 := ht2
        obtain ⟨u2, t2, e9⟩ := hd2.form
        rw [e9] at hd2
        rw [e9]
        refine Ops.pv (pv_move rfl) rfl ?_
        refine Ops.pv (pv_extract rfl rfl) rfl ?_
        refine Ops.pv (pv_extract rfl rfl) rfl ?_
        refine Ops.pv (pv_assign rfl) rfl ?_
        refine Ops.pv (pv_assign rfl) rfl ?_
        refine Ops.nil ?_
        refine Ends.seq ?_
        refine Wp.seq ?_
        refine Wp.region ?_
        refine Ops.pv (pv_move rfl) rfl ?_
        refine Ops.pv (pv_move rfl) rfl ?_
        refine Ops.pv ((pv_neq rfl rfl).fls (by first | exact fun h => h rfl | decide | omega | assumption)) rfl ?_
        refine Ops.pv (pv_move rfl) rfl ?_
        refine Ops.pvg ⟨_, _, rfl, rfl, rfl⟩ (pv_move rfl) rfl ?_
        refine Ops.pvg ⟨_, _, rfl, rfl, rfl⟩ (pv_move rfl) rfl ?_
        refine Ops.pvg ⟨_, _, rfl, rfl, rfl⟩ ((pv_neq_bool rfl rfl).is (u := .bool false) (by first | rfl | (simp; done) | simp_all)) rfl ?_
        refine Ops.pv (pv_pick_false rfl rfl) rfl ?_
        refine Ops.pv (pv_move rfl) rfl ?_
        refine Ops.pvg ⟨_, _, rfl, rfl, rfl⟩ (pv_move rfl) rfl ?_
        refine Ops.pvg ⟨_, _, rfl, rfl, rfl⟩ (pv_move rfl) rfl ?_
        first | refine Ops.pvg ⟨_, _, rfl, rfl, rfl⟩ (pv_nilCheck rfl) rfl ?_ | refine Ops.pvg ⟨_, _, rfl, rfl, rfl⟩ (pv_nilCheck_func rfl rfl) rfl ?_
        first | refine Ops.pvg ⟨_, _, rfl, rfl, rfl⟩ (pv_fieldAddr0 rfl rfl) rfl ?_ | refine Ops.pvg ⟨_, _, rfl, rfl, rfl⟩ (pv_fieldAddr rfl rfl) rfl ?_
        first | refine Ops.pvg ⟨_, _, rfl, rfl, rfl⟩ (pv_load rfl rfl rfl) rfl ?_ | refine Ops.pvg ⟨_, _, rfl, rfl, rfl⟩ (pv_load rfl rfl (by assumption)) rfl ?_
        refine Ops.pvg ⟨_, _, rfl, rfl, rfl⟩ ((pv_neq rfl rfl).fls (by first | exact fun h => h rfl | decide | omega | assumption)) rfl ?_
        refine Ops.pv (pv_pick_false rfl rfl) rfl ?_
        refine Ops.pv (pv_move rfl) rfl ?_
        refine Ops.pvg ⟨_, _, rfl, rfl, rfl⟩ (pv_move rfl) rfl ?_
        refine Ops.pvg ⟨_, _, rfl, rfl, rfl⟩ (pv_move rfl) rfl ?_
        first | refine Ops.pvg ⟨_, _, rfl, rfl, rfl⟩ (pv_nilCheck rfl) rfl ?_ | refine Ops.pvg ⟨_, _, rfl, rfl, rfl⟩ (pv_nilCheck_func rfl rfl) rfl ?_
        first | refine Ops.pvg ⟨_, _, rfl, rfl, rfl⟩ (pv_fieldAddr0 rfl rfl) rfl ?_ | refine Ops.pvg ⟨_, _, rfl, rfl, rfl⟩ (pv_fieldAddr rfl rfl) rfl ?_
        first | refine Ops.pvg ⟨_, _, rfl, rfl, rfl⟩ (pv_load rfl rfl rfl) rfl ?_ | refine Ops.pvg ⟨_, _, rfl, rfl, rfl⟩ (pv_load rfl rfl (by assumption)) rfl ?_
        refine Ops.efg ⟨_, _, rfl, rfl, rfl⟩ (ef_callr (tr_same C2 _ _ _ _ _ (wtS S x.id x.flag).l hc2.view hd2.view (by have := (wtS_len S x.id x.flag).1; omega)) rfl rfl) ?_
        rintro _ _ ⟨rfl, rfl⟩
        first | refine Ops.pvg ⟨_, _, rfl, rfl, rfl⟩ (pv_not_dec rfl) rfl ?_ | refine Ops.pvg ⟨_, _, rfl, rfl, rfl⟩ (pv_not rfl) rfl ?_
        refine Ops.pv (pv_pick_false rfl rfl) rfl ?_
        refine Ops.nil ?_
        refine Ends.seq ?_
        refine Wp.cond_false rfl ?_
        refine Wp.skip ?_
        refine Ends.block_normal ?_
        refine Ends.seq ?_
        refine Wp.region ?_
        refine Ops.pv (pv_move rfl) rfl ?_
        first | refine Ops.pv (pv_add rfl rfl (w64 (by omega) (by omega))) rfl ?_ | refine Ops.pv (pv_add rfl rfl rfl) rfl ?_
        refine Ops.pv (pv_assign rfl) rfl ?_
        refine Ops.nil ?_
        refine Ends.goes ?_
        refine Goes.back (hK (i + 1, (wtS S x.id x.flag), _, id0, has, .slice u2 (wtS S x.id x.flag).l.length t2, K2) ⟨by dsimp only; exact Nat.le_trans (wtS_len S x.id x.flag).1 (Nat.succ_le_succ hll), by dsimp only; omega, hA2, (by rw [(wtS_len S x.id x.flag).2]; exact hbd), hd2⟩ (by dsimp only; omega)) ⟨rfl, rfl, rfl, rfl, trivial⟩
      · refine Wp.seq ?_
        refine Wp.region ?_
        refine Ops.pv (pv_eql rfl rfl) rfl ?_
        refine Ops.pv (pv_assign rfl) rfl ?_
        refine Ops.nil ?_
        refine Ends.seq ?_
        first | refine Wp.cond_dect rfl (fun h4 => ?_) (fun h4 => ?_) | refine Wp.cond_t rfl (fun h4 => ?_) (fun h4 => ?_)
        · refine Wp.seq ?_
          refine AnyH.start [(b2, .cells x.cells.toArray 84)] 9 rfl ?_
          refine AnyH.take 0 rfl (by kernel_rfl) (by kernel_rfl) (by kernel_rfl) PF.pf rfl (pv_move rfl) rfl ?_
          first | refine AnyH.take 1 rfl (by kernel_rfl) (by kernel_rfl) (by kernel_rfl) PF.pf rfl (pv_fieldAddr0 rfl rfl) rfl ?_ | refine AnyH.take 1 rfl (by kernel_rfl) (by kernel_rfl) (by kernel_rfl) PF.pf rfl (pv_fieldAddr rfl rfl) rfl ?_
          first | refine AnyH.take 2 rfl (by kernel_rfl) (by kernel_rfl) (by kernel_rfl) PF.pf rfl (pv_load rfl rfl rfl) rfl ?_ | refine AnyH.take 2 rfl (by kernel_rfl) (by kernel_rfl) (by kernel_rfl) PF.pf rfl (pv_load rfl rfl (by assumption)) rfl ?_
          refine AnyH.take 4 rfl (by kernel_rfl) (by kernel_rfl) (by kernel_rfl) PF.pf rfl (pv_move rfl) rfl ?_
          first | refine AnyH.take 5 rfl (by kernel_rfl) (by kernel_rfl) (by kernel_rfl) PF.pf rfl (pv_fieldAddr0 rfl rfl) rfl ?_ | refine AnyH.take 5 rfl (by kernel_rfl) (by kernel_rfl) (by kernel_rfl) PF.pf rfl (pv_fieldAddr rfl rfl) rfl ?_
          first | refine AnyH.take 6 rfl (by kernel_rfl) (by kernel_rfl) (by kernel_rfl) PF.pf rfl (pv_load rfl rfl rfl) rfl ?_ | refine AnyH.take 6 rfl (by kernel_rfl) (by kernel_rfl) (by kernel_rfl) PF.pf rfl (pv_load rfl rfl (by assumption)) rfl ?_
          refine AnyH.one 3 (by kernel_rfl) ?_
          refine Turn.ef rfl rfl (ef_call (tr_ntCancel _ _ S hA (by omega) hb1 x.id) rfl rfl) ?_ ?_
          · rintro _ _ ⟨_, _, ⟨rfl, hA3⟩, rfl, rfl⟩; infer_instance
          rintro _ _ ⟨_, _, ⟨rfl, hA3⟩, rfl, rfl⟩
          refine AnyH.app ?_
          refine AnyH.one 7 (by kernel_rfl) ?_
          refine Turn.ef rfl rfl (ef_call (tr_dnCancel b1 S.w _ K S.l id0 has ht (by omega) x.id) rfl rfl) ?_ ?_
          · rintro _ _ ⟨_, _, ⟨rfl, v3, K3, ht3, rfl⟩, rfl, rfl⟩; infer_instance
          rintro _ _ ⟨_, _, ⟨rfl, v3, K3, ht3, rfl⟩, rfl, rfl⟩
          refine AnyH.app ?_
          refine AnyH.take 8 rfl (by kernel_rfl) (by kernel_rfl) (by kernel_rfl) PF.pf rfl ((pv_neq_bool rfl rfl).is (u := .bool false) (by first | rfl | (simp; done) | simp_all)) rfl ?_
          refine AnyH.done (by kernel_rfl) ?_
          refine Ends.seq ?_
          refine Wp.cond_false rfl ?_
          refine Wp.skip ?_
          refine Ends.block_normal ?_
          refine Ends.seq ?_
          refine Wp.seq ?_
          refine Wp.region ?_
          refine Ops.pv (pv_move rfl) rfl ?_
          refine Ops.ef rfl (ef_callr ((tr_ntBound _ _ (⟨S.w, remL S.l x.id, S.b⟩ : Nt) hA3 (by have := remL_len S.l x.id; dsimp only; omega) (by rw [show (⟨S.w, remL S.l x.id, S.b⟩ : Nt).b = bdOf id0 has from hbd]; cases has <;> simp [bdOf])).eq (r' := .tuple #[.int .i64 ((bdOf id0 has).headD 0), .bool (!(bdOf id0 has).isEmpty)]) (by rw [show (⟨S.w, remL S.l x.id, S.b⟩ : Nt).b = bdOf id0 has from hbd])) rfl rfl) ?_
          rintro _ _ ⟨rfl, rfl⟩
          refine Ops.pv (pv_move rfl) rfl ?_
          refine Ops.pv (pv_extract rfl rfl) rfl ?_
          refine Ops.pv (pv_extract rfl rfl) rfl ?_
          refine Ops.pv (pv_assign rfl) rfl ?_
          refine Ops.pv (pv_assign rfl) rfl ?_
          refine Ops.nil ?_
          refine Ends.seq ?_
          refine Wp.seq ?_
          refine Wp.region ?_
          refine Ops.pv (pv_move rfl) rfl ?_
          refine Ops.ef rfl (ef_callr (tr_dnBound b1 (⟨S.w, remL S.l x.id, S.b⟩ : Nt).w _ K3 (⟨S.w, remL S.l x.id, S.b⟩ : Nt).l id0 has ht3 (by have := remL_len S.l x.id; dsimp only; omega)) rfl rfl) ?_
          rintro _ _ ⟨rfl, rfl⟩
          refine Ops.pv (pv_move rfl) rfl ?_
          refine Ops.pv (pv_extract rfl rfl) rfl ?_
          refine Ops.pv (pv_extract rfl rfl) rfl ?_
          refine Ops.pv (pv_assign rfl) rfl ?_
          refine Ops.pv (pv_assign rfl) rfl ?_
          refine Ops.nil ?_
          refine Ends.seq ?_
          refine Wp.seq ?_
          refine Wp.region ?_
          refine Ops.pv (pv_move rfl) rfl ?_
          refine Ops.ef rfl (ef_call (tr_ntState _ _ (⟨S.w, remL S.l x.id, S.b⟩ : Nt) hA3 (by have := remL_len S.l x.id; dsimp only; omega) (by rw [show (⟨S.w, remL S.l x.id, S.b⟩ : Nt).b = bdOf id0 has from hbd]; cases has <;> simp [bdOf])) rfl rfl) ?_
          rintro _ _ ⟨_, _, ⟨w3, C3, rfl, hc3, rfl⟩, rfl, rfl⟩
          refine Ops.app ?_
          obtain ⟨p3, q3, rfl⟩ := hc3.form
          have hd3 := ht3
          obtain ⟨u3, t3, e9⟩ := hd3.form
          rw [e9] at hd3
          rw [e9]
          refine Ops.pv (pv_move rfl) rfl ?_
          refine Ops.pv (pv_extract rfl rfl) rfl ?_
          refine Ops.pv (pv_extract rfl rfl) rfl ?_
          refine Ops.pv (pv_assign rfl) rfl ?_
          refine Ops.pv (pv_assign rfl) rfl ?_
          refine Ops.nil ?_
          refine Ends.seq ?_
          refine Wp.seq ?_
          refine Wp.region ?_
          refine Ops.pv (pv_move rfl) rfl ?_
          refine Ops.pv (pv_move rfl) rfl ?_
          refine Ops.pv ((pv_neq rfl rfl).fls (by first | exact fun h => h rfl | decide | omega | assumption)) rfl ?_
          refine Ops.pv (pv_move rfl) rfl ?_
          refine Ops.pvg ⟨_, _, rfl, rfl, rfl⟩ (pv_move rfl) rfl ?_
          refine Ops.pvg ⟨_, _, rfl, rfl, rfl⟩ (pv_move rfl) rfl ?_
          refine Ops.pvg ⟨_, _, rfl, rfl, rfl⟩ ((pv_neq_bool rfl rfl).is (u := .bool false) (by first | rfl | (simp; done) | simp_all)) rfl ?_
          refine Ops.pv (pv_pick_false rfl rfl) rfl ?_
          refine Ops.pv (pv_move rfl) rfl ?_
          refine Ops.pvg ⟨_, _, rfl, rfl, rfl⟩ (pv_move rfl) rfl ?_
          refine Ops.pvg ⟨_, _, rfl, rfl, rfl⟩ (pv_move rfl) rfl ?_
          first | refine Ops.pvg ⟨_, _, rfl, rfl, rfl⟩ (pv_nilCheck rfl) rfl ?_ | refine Ops.pvg ⟨_, _, rfl, rfl, rfl⟩ (pv_nilCheck_func rfl rfl) rfl ?_
          first | refine Ops.pvg ⟨_, _, rfl, rfl, rfl⟩ (pv_fieldAddr0 rfl rfl) rfl ?_ | refine Ops.pvg ⟨_, _, rfl, rfl, rfl⟩ (pv_fieldAddr rfl rfl) rfl ?_
          first | refine Ops.pvg ⟨_, _, rfl, rfl, rfl⟩ (pv_load rfl rfl rfl) rfl ?_ | refine Ops.pvg ⟨_, _, rfl, rfl, rfl⟩ (pv_load rfl rfl (by assumption)) rfl ?_
          refine Ops.pvg ⟨_, _, rfl, rfl, rfl⟩ ((pv_neq rfl rfl).fls (by first | exact fun h => h rfl | decide | omega | assumption)) rfl ?_
          refine Ops.pv (pv_pick_false rfl rfl) rfl ?_
          refine Ops.pv (pv_move rfl) rfl ?_
          refine Ops.pvg ⟨_, _, rfl, rfl, rfl⟩ (pv_move rfl) rfl ?_
          refine Ops.pvg ⟨_, _, rfl, rfl, rfl⟩ (pv_move rfl) rfl ?_
          first | refine Ops.pvg ⟨_, _, rfl, rfl, rfl⟩ (pv_nilCheck rfl) rfl ?_ | refine Ops.pvg ⟨_, _, rfl, rfl, rfl⟩ (pv_nilCheck_func rfl rfl) rfl ?_
          first | refine Ops.pvg ⟨_, _, rfl, rfl, rfl⟩ (pv_fieldAddr0 rfl rfl) rfl ?_ | refine Ops.pvg ⟨_, _, rfl, rfl, rfl⟩ (pv_fieldAddr rfl rfl) rfl ?_
          first | refine Ops.pvg ⟨_, _, rfl, rfl, rfl⟩ (pv_load rfl rfl rfl) rfl ?_ | refine Ops.pvg ⟨_, _, rfl, rfl, rfl⟩ (pv_load rfl rfl (by assumption)) rfl ?_
          refine Ops.efg ⟨_, _, rfl, rfl, rfl⟩ (ef_callr (tr_same C3 _ _ _ _ _ (⟨S.w, remL S.l x.id, S.b⟩ : Nt).l hc3.view hd3.view (by have := remL_len S.l x.id; dsimp only; omega)) rfl rfl) ?_
          rintro _ _ ⟨rfl, rfl⟩
          first | refine Ops.pvg ⟨_, _, rfl, rfl, rfl⟩ (pv_not_dec rfl) rfl ?_ | refine Ops.pvg ⟨_, _, rfl, rfl, rfl⟩ (pv_not rfl) rfl ?_
          refine Ops.pv (pv_pick_false rfl rfl) rfl ?_
          refine Ops.nil ?_
          refine Ends.seq ?_
          refine Wp.cond_false rfl ?_
          refine Wp.skip ?_
          refine Ends.block_normal ?_
          refine Ends.seq ?_
          refine Wp.region ?_
          refine Ops.pv (pv_move rfl) rfl ?_
          first | refine Ops.pv (pv_add rfl rfl (w64 (by omega) (by omega))) rfl ?_ | refine Ops.pv (pv_add rfl rfl rfl) rfl ?_
          refine Ops.pv (pv_assign rfl) rfl ?_
          refine Ops.nil ?_
          refine Ends.goes ?_
          refine Goes.back (hK (i + 1, (⟨S.w, remL S.l x.id, S.b⟩ : Nt), _, id0, has, .slice u3 (⟨S.w, remL S.l x.id, S.b⟩ : Nt).l.length t3, K3) ⟨by dsimp only; exact Nat.le_trans (Nat.le_succ_of_le (remL_len S.l x.id)) (Nat.succ_le_succ hll), by dsimp only; omega, hA3, hbd, hd3⟩ (by dsimp only; omega)) ⟨rfl, rfl, rfl, rfl, trivial⟩
        · refine Wp.seq ?_
          refine Wp.region ?_
          refine Ops.pv (pv_eql rfl rfl) rfl ?_
          refine Ops.pv (pv_assign rfl) rfl ?_
          refine Ops.nil ?_
          refine Ends.seq ?_
          first | refine Wp.cond_dect rfl (fun h5 => ?_) (fun h5 => ?_) | refine Wp.cond_t rfl (fun h5 => ?_) (fun h5 => ?_)
          · refine Wp.seq ?_
            refine AnyH.start [(b2, .cells x.cells.toArray 84)] 9 rfl ?_
            refine AnyH.take 0 rfl (by kernel_rfl) (by kernel_rfl) (by kernel_rfl) PF.pf rfl (pv_move rfl) rfl ?_
            first | refine AnyH.take 1 rfl (by kernel_rfl) (by kernel_rfl) (by kernel_rfl) PF.pf rfl (pv_fieldAddr0 rfl rfl) rfl ?_ | refine AnyH.take 1 rfl (by kernel_rfl) (by kernel_rfl) (by kernel_rfl) PF.pf rfl (pv_fieldAddr rfl rfl) rfl ?_
            first | refine AnyH.take 2 rfl (by kernel_rfl) (by kernel_rfl) (by kernel_rfl) PF.pf rfl (pv_load rfl rfl rfl) rfl ?_ | refine AnyH.take 2 rfl (by kernel_rfl) (by kernel_rfl) (by kernel_rfl) PF.pf rfl (pv_load rfl rfl (by assumption)) rfl ?_
            refine AnyH.take 4 rfl (by kernel_rfl) (by kernel_rfl) (by kernel_rfl) PF.pf rfl (pv_move rfl) rfl ?_
            first | refine AnyH.take 5 rfl (by kernel_rfl) (by kernel_rfl) (by kernel_rfl) PF.pf rfl (pv_fieldAddr0 rfl rfl) rfl ?_ | refine AnyH.take 5 rfl (by kernel_rfl) (by kernel_rfl) (by kernel_rfl) PF.pf rfl (pv_fieldAddr rfl rfl) rfl ?_
            first | refine AnyH.take 6 rfl (by kernel_rfl) (by kernel_rfl) (by kernel_rfl) PF.pf rfl (pv_load rfl rfl rfl) rfl ?_ | refine AnyH.take 6 rfl (by kernel_rfl) (by kernel_rfl) (by kernel_rfl) PF.pf rfl (pv_load rfl rfl (by assumption)) rfl ?_
            refine AnyH.one 3 (by kernel_rfl) ?_
            refine Turn.ef rfl rfl (ef_call (tr_ntBind _ _ S hA (by omega) hb1 x.id) rfl rfl) ?_ ?_
            · rintro _ _ ⟨_, _, ⟨rfl, hA4⟩, rfl, rfl⟩; infer_instance
            rintro _ _ ⟨_, _, ⟨rfl, hA4⟩, rfl, rfl⟩
            refine AnyH.app ?_
            rw [bdS_eq S x.id] at hA4
            refine AnyH.one 7 (by kernel_rfl) ?_
            refine Turn.ef rfl rfl (ef_call (tr_dnBind b1 S.w _ K S.l id0 has ht (by omega) x.id) rfl rfl) ?_ ?_
            · rintro _ _ ⟨_, _, ⟨rfl, id9, has9, hbd9, rfl⟩, rfl, rfl⟩; infer_instance
            rintro _ _ ⟨_, _, ⟨rfl, id9, has9, hbd9, rfl⟩, rfl, rfl⟩
            refine AnyH.app ?_
            rw [eS] at hbd9 ⊢
            refine AnyH.take 8 rfl (by kernel_rfl) (by kernel_rfl) (by kernel_rfl) PF.pf rfl ((pv_neq rfl rfl).fls (by first | exact fun h => h rfl | decide | omega | assumption)) rfl ?_
            refine AnyH.done (by kernel_rfl) ?_
            refine Ends.seq ?_
            refine Wp.cond_false rfl ?_
            refine Wp.skip ?_
            refine Ends.block_normal ?_
            refine Ends.seq ?_
            refine Wp.seq ?_
            refine Wp.region ?_
            refine Ops.pv (pv_move rfl) rfl ?_
            refine Ops.ef rfl (ef_callr ((tr_ntBound _ _ (⟨S.w, S.l, (bdS S x.id).b⟩ : Nt) hA4 (by dsimp only; omega) (by rw [show (⟨S.w, S.l, (bdS S x.id).b⟩ : Nt).b = bdOf id9 has9 from hbd9.symm]; cases has9 <;> simp [bdOf])).eq (r' := .tuple #[.int .i64 ((bdOf id9 has9).headD 0), .bool (!(bdOf id9 has9).isEmpty)]) (by rw [show (⟨S.w, S.l, (bdS S x.id).b⟩ : Nt).b = bdOf id9 has9 from hbd9.symm])) rfl rfl) ?_
            rintro _ _ ⟨rfl, rfl⟩
            refine Ops.pv (pv_move rfl) rfl ?_
            refine Ops.pv (pv_extract rfl rfl) rfl ?_
            refine Ops.pv (pv_extract rfl rfl) rfl ?_
            refine Ops.pv (pv_assign rfl) rfl ?_
            refine Ops.pv (pv_assign rfl) rfl ?_
            refine Ops.nil ?_
            refine Ends.seq ?_
            refine Wp.seq ?_
            refine Wp.region ?_
            refine Ops.pv (pv_move rfl) rfl ?_
            refine Ops.ef rfl (ef_callr (tr_dnBound b1 (⟨S.w, S.l, (bdS S x.id).b⟩ : Nt).w _ K (⟨S.w, S.l, (bdS S x.id).b⟩ : Nt).l id9 has9 ht (by dsimp only; omega)) rfl rfl) ?_
            rintro _ _ ⟨rfl, rfl⟩
            refine Ops.pv (pv_move rfl) rfl ?_
            refine Ops.pv (pv_extract rfl rfl) rfl ?_
            refine Ops.pv (pv_extract rfl rfl) rfl ?_
            refine Ops.pv (pv_assign rfl) rfl ?_
            refine Ops.pv (pv_assign rfl) rfl ?_
            refine Ops.nil ?_
            refine Ends.seq ?_
            refine Wp.seq ?_
            refine Wp.region ?_
            refine Ops.pv (pv_move rfl) rfl ?_
            refine Ops.ef rfl (ef_call (tr_ntState _ _ (⟨S.w, S.l, (bdS S x.id).b⟩ : Nt) hA4 (by dsimp only; omega) (by rw [show (⟨S.w, S.l, (bdS S x.id).b⟩ : Nt).b = bdOf id9 has9 from hbd9.symm]; cases has9 <;> simp [bdOf])) rfl rfl) ?_
            rintro _ _ ⟨_, _, ⟨w4, C4, rfl, hc4, rfl⟩, rfl, rfl⟩
            refine Ops.app ?_
            obtain ⟨p4, q4, rfl⟩ := hc4.form
            have hd4 := ht
            obtain ⟨u4, t4, e9⟩ := hd4.form
            rw [e9] at hd4
            rw [e9]
            refine Ops.pv (pv_move rfl) rfl ?_
            refine Ops.pv (pv_extract rfl rfl) rfl ?_
            refine Ops.pv (pv_extract rfl rfl) rfl ?_
            refine Ops.pv (pv_assign rfl) rfl ?_
            refine Ops.pv (pv_assign rfl) rfl ?_
            refine Ops.nil ?_
            refine Ends.seq ?_
            refine Wp.seq ?_
            refine Wp.region ?_
            refine Ops.pv (pv_move rfl) rfl ?_
            refine Ops.pv (pv_move rfl) rfl ?_
            refine Ops.pv ((pv_neq rfl rfl).fls (by first | exact fun h => h rfl | decide | omega | assumption)) rfl ?_
            refine Ops.pv (pv_move rfl) rfl ?_
            refine Ops.pvg ⟨_, _, rfl, rfl, rfl⟩ (pv_move rfl) rfl ?_
            refine Ops.pvg ⟨_, _, rfl, rfl, rfl⟩ (pv_move rfl) rfl ?_
            refine Ops.pvg ⟨_, _, rfl, rfl, rfl⟩ ((pv_neq_bool rfl rfl).is (u := .bool false) (by first | rfl | (simp; done) | simp_all)) rfl ?_
            refine Ops.pv (pv_pick_false rfl rfl) rfl ?_
            refine Ops.pv (pv_move rfl) rfl ?_
            refine Ops.pvg ⟨_, _, rfl, rfl, rfl⟩ (pv_move rfl) rfl ?_
            refine Ops.pvg ⟨_, _, rfl, rfl, rfl⟩ (pv_move rfl) rfl ?_
            first | refine Ops.pvg ⟨_, _, rfl, rfl, rfl⟩ (pv_nilCheck rfl) rfl ?_ | refine Ops.pvg ⟨_, _, rfl, rfl, rfl⟩ (pv_nilCheck_func rfl rfl) rfl ?_
            first | refine Ops.pvg ⟨_, _, rfl, rfl, rfl⟩ (pv_fieldAddr0 rfl rfl) rfl ?_ | refine Ops.pvg ⟨_, _, rfl, rfl, rfl⟩ (pv_fieldAddr rfl rfl) rfl ?_
            first | refine Ops.pvg ⟨_, _, rfl, rfl, rfl⟩ (pv_load rfl rfl rfl) rfl ?_ | refine Ops.pvg ⟨_, _, rfl, rfl, rfl⟩ (pv_load rfl rfl (by assumption)) rfl ?_
            refine Ops.pvg ⟨_, _, rfl, rfl, rfl⟩ ((pv_neq rfl rfl).fls (by first | exact fun h => h rfl | decide | omega | assumption)) rfl ?_
            refine Ops.pv (pv_pick_false rfl rfl) rfl ?_
            refine Ops.pv (pv_move rfl) rfl ?_
            refine Ops.pvg ⟨_, _, rfl, rfl, rfl⟩ (pv_move rfl) rfl ?_
            refine Ops.pvg ⟨_, _, rfl, rfl, rfl⟩ (pv_move rfl) rfl ?_
            first | refine Ops.pvg ⟨_, _, rfl, rfl, rfl⟩ (pv_nilCheck rfl) rfl ?_ | refine Ops.pvg ⟨_, _, rfl, rfl, rfl⟩ (pv_nilCheck_func rfl rfl) rfl ?_
            first | refine Ops.pvg ⟨_, _, rfl, rfl, rfl⟩ (pv_fieldAddr0 rfl rfl) rfl ?_ | refine Ops.pvg ⟨_, _, rfl, rfl, rfl⟩ (pv_fieldAddr rfl rfl) rfl ?_
            first | refine Ops.pvg ⟨_, _, rfl, rfl, rfl⟩ (pv_load rfl rfl rfl) rfl ?_ | refine Ops.pvg ⟨_, _, rfl, rfl, rfl⟩ (pv_load rfl rfl (by assumption)) rfl ?_
            refine Ops.efg ⟨_, _, rfl, rfl, rfl⟩ (ef_callr (tr_same C4 _ _ _ _ _ (⟨S.w, S.l, (bdS S x.id).b⟩ : Nt).l hc4.view hd4.view (by dsimp only; omega)) rfl rfl) ?_
            rintro _ _ ⟨rfl, rfl⟩
            first | refine Ops.pvg ⟨_, _, rfl, rfl, rfl⟩ (pv_not_dec rfl) rfl ?_ | refine Ops.pvg ⟨_, _, rfl, rfl, rfl⟩ (pv_not rfl) rfl ?_
            refine Ops.pv (pv_pick_false rfl rfl) rfl ?_
            refine Ops.nil ?_
            refine Ends.seq ?_
            refine Wp.cond_false rfl ?_
            refine Wp.skip ?_
            refine Ends.block_normal ?_
            refine Ends.seq ?_
            refine Wp.region ?_
            refine Ops.pv (pv_move rfl) rfl ?_
            first | refine Ops.pv (pv_add rfl rfl (w64 (by omega) (by omega))) rfl ?_ | refine Ops.pv (pv_add rfl rfl rfl) rfl ?_
            refine Ops.pv (pv_assign rfl) rfl ?_
            refine Ops.nil ?_
            refine Ends.goes ?_
            refine Goes.back (hK (i + 1, (⟨S.w, S.l, (bdS S x.id).b⟩ : Nt), _, id9, has9, .slice u4 (⟨S.w, S.l, (bdS S x.id).b⟩ : Nt).l.length t4, K) ⟨by dsimp only; exact Nat.le_trans (Nat.le_succ _) (Nat.succ_le_succ hll), by dsimp only; omega, hA4, hbd9.symm, hd4⟩ (by dsimp only; omega)) ⟨rfl, rfl, rfl, rfl, trivial⟩
          · refine Wp.seq ?_
            refine Wp.region ?_
            refine Ops.pv (pv_eql rfl rfl) rfl ?_
            refine Ops.pv (pv_assign rfl) rfl ?_
            refine Ops.nil ?_
            refine Ends.seq ?_
            first | refine Wp.cond_dect rfl (fun h6 => ?_) (fun h6 => ?_) | refine Wp.cond_t rfl (fun h6 => ?_) (fun h6 => ?_)
            · refine Wp.seq ?_
              refine Wp.region ?_
              refine Ops.pv (pv_move rfl) rfl ?_
              refine Ops.ef rfl (ef_call (tr_ntUnbind _ _ S hA (by omega) hb1) rfl rfl) ?_
              rintro _ _ ⟨_, _, ⟨rfl, hA5⟩, rfl, rfl⟩
              refine Ops.app ?_
              rw [show popV S.b = (bdOf id0 has).headD 0 by rw [hbd]; rfl, show popB S.b = !(bdOf id0 has).isEmpty by rw [hbd]; rfl]
              refine Ops.pv (pv_move rfl) rfl ?_
              refine Ops.pv (pv_extract rfl rfl) rfl ?_
              refine Ops.pv (pv_extract rfl rfl) rfl ?_
              refine Ops.pv (pv_assign rfl) rfl ?_
              refine Ops.pv (pv_assign rfl) rfl ?_
              refine Ops.nil ?_
              refine Ends.seq ?_
              refine Wp.seq ?_
              refine Wp.region ?_
              refine Ops.pv (pv_move rfl) rfl ?_
              refine Ops.ef rfl (ef_call (tr_dnUnbind b1 S.w _ K S.l id0 has ht (by omega)) rfl rfl) ?_
              rintro _ _ ⟨_, _, ⟨rfl, rfl⟩, rfl, rfl⟩
              refine Ops.app ?_
              refine Ops.pv (pv_move rfl) rfl ?_
              refine Ops.pv (pv_extract rfl rfl) rfl ?_
              refine Ops.pv (pv_extract rfl rfl) rfl ?_
              refine Ops.pv (pv_assign rfl) rfl ?_
              refine Ops.pv (pv_assign rfl) rfl ?_
              refine Ops.nil ?_
              refine Ends.seq ?_
              refine Wp.seq ?_
              refine Wp.region ?_
              refine Ops.pv (pv_move rfl) rfl ?_
              refine Ops.pv (pv_move rfl) rfl ?_
              refine Ops.pv ((pv_neq rfl rfl).fls (by first | exact fun h => h rfl | decide | omega | assumption)) rfl ?_
              refine Ops.pv (pv_move rfl) rfl ?_
              refine Ops.pvg ⟨_, _, rfl, rfl, rfl⟩ (pv_move rfl) rfl ?_
              refine Ops.pvg ⟨_, _, rfl, rfl, rfl⟩ (pv_move rfl) rfl ?_
              refine Ops.pvg ⟨_, _, rfl, rfl, rfl⟩ ((pv_neq_bool rfl rfl).is (u := .bool false) (by first | rfl | (simp; done) | simp_all)) rfl ?_
              refine Ops.pv (pv_pick_false rfl rfl) rfl ?_
              refine Ops.nil ?_
              refine Ends.seq ?_
              refine Wp.cond_false rfl ?_
              refine Wp.skip ?_
              refine Ends.block_normal ?_
              refine Ends.seq ?_
              refine Wp.seq ?_
              refine Wp.region ?_
              refine Ops.pv (pv_move rfl) rfl ?_
              refine Ops.ef rfl (ef_callr ((tr_ntBound _ _ (⟨S.w, S.l, S.b.tail⟩ : Nt) hA5 (by dsimp only; omega) (by rw [show (⟨S.w, S.l, S.b.tail⟩ : Nt).b = bdOf id0 false from (by dsimp only; rw [hbd]; cases has <;> rfl)]; cases false <;> simp [bdOf])).eq (r' := .tuple #[.int .i64 ((bdOf id0 false).headD 0), .bool (!(bdOf id0 false).isEmpty)]) (by rw [show (⟨S.w, S.l, S.b.tail⟩ : Nt).b = bdOf id0 false from (by dsimp only; rw [hbd]; cases has <;> rfl)])) rfl rfl) ?_
              rintro _ _ ⟨rfl, rfl⟩
              refine Ops.pv (pv_move rfl) rfl ?_
              refine Ops.pv (pv_extract rfl rfl) rfl ?_
              refine Ops.pv (pv_extract rfl rfl) rfl ?_
              refine Ops.pv (pv_assign rfl) rfl ?_
              refine Ops.pv (pv_assign rfl) rfl ?_
              refine Ops.nil ?_
              refine Ends.seq ?_
              refine Wp.seq ?_
              refine Wp.region ?_
              refine Ops.pv (pv_move rfl) rfl ?_
              refine Ops.ef rfl (ef_callr (tr_dnBound b1 (⟨S.w, S.l, S.b.tail⟩ : Nt).w _ K (⟨S.w, S.l, S.b.tail⟩ : Nt).l id0 false ht (by dsimp only; omega)) rfl rfl) ?_
              rintro _ _ ⟨rfl, rfl⟩
              refine Ops.pv (pv_move rfl) rfl ?_
              refine Ops.pv (pv_extract rfl rfl) rfl ?_
              refine Ops.pv (pv_extract rfl rfl) rfl ?_
              refine Ops.pv (pv_assign rfl) rfl ?_
              refine Ops.pv (pv_assign rfl) rfl ?_
              refine Ops.nil ?_
              refine Ends.seq ?_
              refine Wp.seq ?_
              refine Wp.region ?_
              refine Ops.pv (pv_move rfl) rfl ?_
              refine Ops.ef rfl (ef_call (tr_ntState _ _ (⟨S.w, S.l, S.b.tail⟩ : Nt) hA5 (by dsimp only; omega) (by rw [show (⟨S.w, S.l, S.b.tail⟩ : Nt).b = bdOf id0 false from (by dsimp only; rw [hbd]; cases has <;> rfl)]; cases false <;> simp [bdOf])) rfl rfl) ?_
              rintro _ _ ⟨_, _, ⟨w5, C5, rfl, hc5, rfl⟩, rfl, rfl⟩
              refine Ops.app ?_
              obtain ⟨p5, q5, rfl⟩ := hc5.form
              have hd5 := ht
              obtain ⟨u5, t5, e9⟩ := hd5.form
              rw [e9] at hd5
              rw [e9]
              refine Ops.pv (pv_move rfl) rfl ?_
              refine Ops.pv (pv_extract rfl rfl) rfl ?_
              refine Ops.pv (pv_extract rfl rfl) rfl ?_
              refine Ops.pv (pv_assign rfl) rfl ?_
              refine Ops.pv (pv_assign rfl) rfl ?_
              refine Ops.nil ?_
              refine Ends.seq ?_
              refine Wp.seq ?_
              refine Wp.region ?_
              refine Ops.pv (pv_move rfl) rfl ?_
              refine Ops.pv (pv_move rfl) rfl ?_
              refine Ops.pv ((pv_neq rfl rfl).fls (by first | exact fun h => h rfl | decide | omega | assumption)) rfl ?_
              refine Ops.pv (pv_move rfl) rfl ?_
              refine Ops.pvg ⟨_, _, rfl, rfl, rfl⟩ (pv_move rfl) rfl ?_
              refine Ops.pvg ⟨_, _, rfl, rfl, rfl⟩ (pv_move rfl) rfl ?_
              refine Ops.pvg ⟨_, _, rfl, rfl, rfl⟩ ((pv_neq_bool rfl rfl).is (u := .bool false) (by first | rfl | (simp; done) | simp_all)) rfl ?_
              refine Ops.pv (pv_pick_false rfl rfl) rfl ?_
              refine Ops.pv (pv_move rfl) rfl ?_
              refine Ops.pvg ⟨_, _, rfl, rfl, rfl⟩ (pv_move rfl) rfl ?_
              refine Ops.pvg ⟨_, _, rfl, rfl, rfl⟩ (pv_move rfl) rfl ?_
              first | refine Ops.pvg ⟨_, _, rfl, rfl, rfl⟩ (pv_nilCheck rfl) rfl ?_ | refine Ops.pvg ⟨_, _, rfl, rfl, rfl⟩ (pv_nilCheck_func rfl rfl) rfl ?_
              first | refine Ops.pvg ⟨_, _, rfl, rfl, rfl⟩ (pv_fieldAddr0 rfl rfl) rfl ?_ | refine Ops.pvg ⟨_, _, rfl, rfl, rfl⟩ (pv_fieldAddr rfl rfl) rfl ?_
              first | refine Ops.pvg ⟨_, _, rfl, rfl, rfl⟩ (pv_load rfl rfl rfl) rfl ?_ | refine Ops.pvg ⟨_, _, rfl, rfl, rfl⟩ (pv_load rfl rfl (by assumption)) rfl ?_
              refine Ops.pvg ⟨_, _, rfl, rfl, rfl⟩ ((pv_neq rfl rfl).fls (by first | exact fun h => h rfl | decide | omega | assumption)) rfl ?_
              refine Ops.pv (pv_pick_false rfl rfl) rfl ?_
              refine Ops.pv (pv_move rfl) rfl ?_
              refine Ops.pvg ⟨_, _, rfl, rfl, rfl⟩ (pv_move rfl) rfl ?_
              refine Ops.pvg ⟨_, _, rfl, rfl, rfl⟩ (pv_move rfl) rfl ?_
              first | refine Ops.pvg ⟨_, _, rfl, rfl, rfl⟩ (pv_nilCheck rfl) rfl ?_ | refine Ops.pvg ⟨_, _, rfl, rfl, rfl⟩ (pv_nilCheck_func rfl rfl) rfl ?_
              first | refine Ops.pvg ⟨_, _, rfl, rfl, rfl⟩ (pv_fieldAddr0 rfl rfl) rfl ?_ | refine Ops.pvg ⟨_, _, rfl, rfl, rfl⟩ (pv_fieldAddr rfl rfl) rfl ?_
              first | refine Ops.pvg ⟨_, _, rfl, rfl, rfl⟩ (pv_load rfl rfl rfl) rfl ?_ | refine Ops.pvg ⟨_, _, rfl, rfl, rfl⟩ (pv_load rfl rfl (by assumption)) rfl ?_
              refine Ops.efg ⟨_, _, rfl, rfl, rfl⟩ (ef_callr (tr_same C5 _ _ _ _ _ (⟨S.w, S.l, S.b.tail⟩ : Nt).l hc5.view hd5.view (by dsimp only; omega)) rfl rfl) ?_
              rintro _ _ ⟨rfl, rfl⟩
              first | refine Ops.pvg ⟨_, _, rfl, rfl, rfl⟩ (pv_not_dec rfl) rfl ?_ | refine Ops.pvg ⟨_, _, rfl, rfl, rfl⟩ (pv_not rfl) rfl ?_
              refine Ops.pv (pv_pick_false rfl rfl) rfl ?_
              refine Ops.nil ?_
              refine Ends.seq ?_
              refine Wp.cond_false rfl ?_
              refine Wp.skip ?_
              refine Ends.block_normal ?_
              refine Ends.seq ?_
              refine Wp.region ?_
              refine Ops.pv (pv_move rfl) rfl ?_
              first | refine Ops.pv (pv_add rfl rfl (w64 (by omega) (by omega))) rfl ?_ | refine Ops.pv (pv_add rfl rfl rfl) rfl ?_
              refine Ops.pv (pv_assign rfl) rfl ?_
              refine Ops.nil ?_
              refine Ends.goes ?_
              refine Goes.back (hK (i + 1, (⟨S.w, S.l, S.b.tail⟩ : Nt), _, id0, false, .slice u5 (⟨S.w, S.l, S.b.tail⟩ : Nt).l.length t5, K) ⟨by dsimp only; exact Nat.le_trans (Nat.le_succ _) (Nat.succ_le_succ hll), by dsimp only; omega, hA5, (by dsimp only; rw [hbd]; cases has <;> rfl), hd5⟩ (by dsimp only; omega)) ⟨rfl, rfl, rfl, rfl, trivial⟩
            · refine Wp.skip ?_
              refine Ends.block_normal ?_
              refine Ends.seq ?_
              refine Wp.seq ?_
              refine Wp.region ?_
              refine Ops.pv (pv_move rfl) rfl ?_
              refine Ops.ef rfl (ef_callr ((tr_ntBound _ _ S hA (by omega) (by rw [show S.b = bdOf id0 has from hbd]; cases has <;> simp [bdOf])).eq (r' := .tuple #[.int .i64 ((bdOf id0 has).headD 0), .bool (!(bdOf id0 has).isEmpty)]) (by rw [show S.b = bdOf id0 has from hbd])) rfl rfl) ?_
              rintro _ _ ⟨rfl, rfl⟩
              refine Ops.pv (pv_move rfl) rfl ?_
              refine Ops.pv (pv_extract rfl rfl) rfl ?_
              refine Ops.pv (pv_extract rfl rfl) rfl ?_
              refine Ops.pv (pv_assign rfl) rfl ?_
              refine Ops.pv (pv_assign rfl) rfl ?_
              refine Ops.nil ?_
              refine Ends.seq ?_
              refine Wp.seq ?_
              refine Wp.region ?_
              refine Ops.pv (pv_move rfl) rfl ?_
              refine Ops.ef rfl (ef_callr (tr_dnBound b1 S.w _ K S.l id0 has ht (by omega)) rfl rfl) ?_
              rintro _ _ ⟨rfl, rfl⟩
              refine Ops.pv (pv_move rfl) rfl ?_
              refine Ops.pv (pv_extract rfl rfl) rfl ?_
              refine Ops.pv (pv_extract rfl rfl) rfl ?_
              refine Ops.pv (pv_assign rfl) rfl ?_
              refine Ops.pv (pv_assign rfl) rfl ?_
              refine Ops.nil ?_
              refine Ends.seq ?_
              refine Wp.seq ?_
              refine Wp.region ?_
              refine Ops.pv (pv_move rfl) rfl ?_
              refine Ops.ef rfl (ef_call (tr_ntState _ _ S hA (by omega) (by rw [show S.b = bdOf id0 has from hbd]; cases has <;> simp [bdOf])) rfl rfl) ?_
              rintro _ _ ⟨_, _, ⟨w6, C6, rfl, hc6, rfl⟩, rfl, rfl⟩
              refine Ops.app ?_
              obtain ⟨p6, q6, rfl⟩ := hc6.form
              have hd6 := ht
              obtain ⟨u6, t6, e9⟩ := hd6.form
              rw [e9] at hd6
              rw [e9]
              refine Ops.pv (pv_move rfl) rfl ?_
              refine Ops.pv (pv_extract rfl rfl) rfl ?_
              refine Ops.pv (pv_extract rfl rfl) rfl ?_
              refine Ops.pv (pv_assign rfl) rfl ?_
              refine Ops.pv (pv_assign rfl) rfl ?_
              refine Ops.nil ?_
              refine Ends.seq ?_
              refine Wp.seq ?_
              refine Wp.region ?_
              refine Ops.pv (pv_move rfl) rfl ?_
              refine Ops.pv (pv_move rfl) rfl ?_
              refine Ops.pv ((pv_neq rfl rfl).fls (by first | exact fun h => h rfl | decide | omega | assumption)) rfl ?_
              refine Ops.pv (pv_move rfl) rfl ?_
              refine Ops.pvg ⟨_, _, rfl, rfl, rfl⟩ (pv_move rfl) rfl ?_
              refine Ops.pvg ⟨_, _, rfl, rfl, rfl⟩ (pv_move rfl) rfl ?_
              refine Ops.pvg ⟨_, _, rfl, rfl, rfl⟩ ((pv_neq_bool rfl rfl).is (u := .bool false) (by first | rfl | (simp; done) | simp_all)) rfl ?_
              refine Ops.pv (pv_pick_false rfl rfl) rfl ?_
              refine Ops.pv (pv_move rfl) rfl ?_
              refine Ops.pvg ⟨_, _, rfl, rfl, rfl⟩ (pv_move rfl) rfl ?_
              refine Ops.pvg ⟨_, _, rfl, rfl, rfl⟩ (pv_move rfl) rfl ?_
              first | refine Ops.pvg ⟨_, _, rfl, rfl, rfl⟩ (pv_nilCheck rfl) rfl ?_ | refine Ops.pvg ⟨_, _, rfl, rfl, rfl⟩ (pv_nilCheck_func rfl rfl) rfl ?_
              first | refine Ops.pvg ⟨_, _, rfl, rfl, rfl⟩ (pv_fieldAddr0 rfl rfl) rfl ?_ | refine Ops.pvg ⟨_, _, rfl, rfl, rfl⟩ (pv_fieldAddr rfl rfl) rfl ?_
              first | refine Ops.pvg ⟨_, _, rfl, rfl, rfl⟩ (pv_load rfl rfl rfl) rfl ?_ | refine Ops.pvg ⟨_, _, rfl, rfl, rfl⟩ (pv_load rfl rfl (by assumption)) rfl ?_
              refine Ops.pvg ⟨_, _, rfl, rfl, rfl⟩ ((pv_neq rfl rfl).fls (by first | exact fun h => h rfl | decide | omega | assumption)) rfl ?_
              refine Ops.pv (pv_pick_false rfl rfl) rfl ?_
              refine Ops.pv (pv_move rfl) rfl ?_
              refine Ops.pvg ⟨_, _, rfl, rfl, rfl⟩ (pv_move rfl) rfl ?_
              refine Ops.pvg ⟨_, _, rfl, rfl, rfl⟩ (pv_move rfl) rfl ?_
              first | refine Ops.pvg ⟨_, _, rfl, rfl, rfl⟩ (pv_nilCheck rfl) rfl ?_ | refine Ops.pvg ⟨_, _, rfl, rfl, rfl⟩ (pv_nilCheck_func rfl rfl) rfl ?_
              first | refine Ops.pvg ⟨_, _, rfl, rfl, rfl⟩ (pv_fieldAddr0 rfl rfl) rfl ?_ | refine Ops.pvg ⟨_, _, rfl, rfl, rfl⟩ (pv_fieldAddr rfl rfl) rfl ?_
              first | refine Ops.pvg ⟨_, _, rfl, rfl, rfl⟩ (pv_load rfl rfl rfl) rfl ?_ | refine Ops.pvg ⟨_, _, rfl, rfl, rfl⟩ (pv_load rfl rfl (by assumption)) rfl ?_
              refine Ops.efg ⟨_, _, rfl, rfl, rfl⟩ (ef_callr (tr_same C6 _ _ _ _ _ S.l hc6.view hd6.view (by omega)) rfl rfl) ?_
              rintro _ _ ⟨rfl, rfl⟩
              first | refine Ops.pvg ⟨_, _, rfl, rfl, rfl⟩ (pv_not_dec rfl) rfl ?_ | refine Ops.pvg ⟨_, _, rfl, rfl, rfl⟩ (pv_not rfl) rfl ?_
              refine Ops.pv (pv_pick_false rfl rfl) rfl ?_
              refine Ops.nil ?_
              refine Ends.seq ?_
              refine Wp.cond_false rfl ?_
              refine Wp.skip ?_
              refine Ends.block_normal ?_
              refine Ends.seq ?_
              refine Wp.region ?_
              refine Ops.pv (pv_move rfl) rfl ?_
              first | refine Ops.pv (pv_add rfl rfl (w64 (by omega) (by omega))) rfl ?_ | refine Ops.pv (pv_add rfl rfl rfl) rfl ?_
              refine Ops.pv (pv_assign rfl) rfl ?_
              refine Ops.nil ?_
              refine Ends.goes ?_
              refine Goes.back (hK (i + 1, S, _, id0, has, .slice u6 S.l.length t6, K) ⟨by dsimp only; exact Nat.le_trans (Nat.le_succ _) (Nat.succ_le_succ hll), by dsimp only; omega, hA, hbd, hd6⟩ (by dsimp only; omega)) ⟨rfl, rfl, rfl, rfl, trivial⟩
  · refine Wp.exit ?_
    refine Ends.then_exit ?_
    refine Ends.then_exit ?_
    refine Ends.block_hit ?_
    refine Ends.seq ?_
    refine Wp.seq ?_
    refine Wp.region ?_
    refine Ops.pv (pv_assign rfl) rfl ?_
    refine Ops.nil ?_
    refine Ends.seq ?_
    refine Wp.ret ?_
    exact Ends.ret (res1 rfl rfl) ⟨rfl, rfl⟩

set_option maxHeartbeats 4000000 in
theorem tr_noticeKeeps (G : Hp) (a : Option Addr) (c : Nat) (ops : List OpN) (ha : ArgS G 4 a (ops.map OpN.cells)) (hol : ops.length ≤ maxLen) (hw : ∀ o, o ∈ ops → OpN.wf o) : TrR Try.prog 14 [.slice a ops.length c] (G) (.bool true) := by
  refine Tr.enter Try.func14 rfl Try.ntmps14 rfl (fun W F => ?_)
  refine Wp.app ?_
  refine Wp.seq ?_
  refine Wp.region ?_
  refine Ops.pv (pv_assign rfl) rfl ?_
  refine Ops.nil ?_
  refine Ends.seq ?_
  refine Wp.seq ?_
  refine Wp.seq ?_
  refine Wp.region ?_
  refine Ops.ef rfl (ef_callr (tr_works19) rfl rfl) ?_
  rintro _ _ ⟨rfl, rfl⟩
  first | refine Ops.pv (pv_not_dec rfl) rfl ?_ | refine Ops.pv (pv_not rfl) rfl ?_
  refine Ops.nil ?_
  refine Ends.seq ?_
  refine Wp.cond_false rfl ?_
  refine Wp.skip ?_
  refine Ends.seq ?_
  refine Wp.seq ?_
  refine Wp.region ?_
  refine Ops.ef rfl (ef_call (tr_ntNew) rfl rfl) ?_
  rintro _ _ ⟨_, _, ⟨nb1, rfl, hZ1⟩, rfl, rfl⟩
  refine Ops.app ?_
  refine Ops.pv (pv_assign rfl) rfl ?_
  refine Ops.nil ?_
  refine Ends.seq ?_
  refine Wp.seq ?_
  refine Wp.region ?_
  refine Ops.pv (pv_assign rfl) rfl ?_
  refine Ops.nil ?_
  refine Ends.seq ?_
  refine Wp.seq ?_
  refine Wp.seq ?_
  refine Wp.region ?_
  refine Ops.pv (pv_assign rfl) rfl ?_
  refine Ops.nil ?_
  refine Ends.seq ?_
  refine Wp.block ?_
  refine Wp.loopK (σ := Nat × Nt × Hp × Int) [(0, _), (3, _)] (fun s => [(4, .int .u64 s.2.2.2), (5, .int .i64 s.1)]) (fun s => s.2.2.1 ++ (G ++ F)) (fun s => s.2.1.l.length ≤ s.1 ∧ s.1 ≤ 100 ∧ NtH s.2.1 nb1 s.2.2.1 ∧ s.2.1.b.length ≤ 1 ∧ s.2.2.2 = s.2.1.w ∧ (s.2.1.l ≠ [] → s.2.1.w = 0)) (fun s => ops.length - s.1) (0, ⟨0, [], []⟩, _, 0) ⟨Nat.le_refl _, Nat.zero_le _, hZ1, Nat.zero_le _, rfl, fun e => absurd rfl e⟩ ⟨rfl, rfl, trivial⟩ ⟨rfl, rfl, trivial⟩ (by intro w ho; (try dsimp only [List.nil_append, List.cons_append]); exact Drop.own ho) ?_
  rintro ⟨i, S, H, o⟩ KK ⟨hll, hi, hA, hb1, ho, hsw⟩ hK
  dsimp only [List.cons_append, List.nil_append] at hK ⊢
  dsimp only at hll hi hA hb1 ho hsw ⊢
  subst ho
  refine Wp.seq ?_
  refine Wp.seq ?_
  refine Wp.region ?_
  refine Ops.pv (pv_move rfl) rfl ?_
  refine Ops.pv (pv_move rfl) rfl ?_
  refine Ops.pv (pv_len_slice (T := 79) rfl rfl) rfl ?_
  refine Ops.pv (pv_lss rfl rfl) rfl ?_
  refine Ops.pv (pv_move rfl) rfl ?_
  refine Ops.pvc rfl rfl (fun hg => pv_move rfl) rfl ?_
  refine Ops.pvc rfl rfl (fun hg => Pv.setE (t := 23) rfl (cv_pos hg) (pv_lss rfl rfl)) rfl ?_
  refine Ops.pv (pv_pick_and rfl rfl) rfl ?_
  refine Ops.nil ?_
  refine Ends.seq ?_
  first | refine Wp.cond_dect rfl (fun h1 => ?_) (fun h1 => ?_) | refine Wp.cond_t rfl (fun h1 => ?_) (fun h1 => ?_)
  · obtain ⟨x, hq⟩ : ∃ x, ops[i]? = some x := ⟨_, List.getElem?_eq_getElem (by omega)⟩
    obtain ⟨_, b, o, cc, T, f, rfl, hm, hr⟩ := ha i x.cells (by rw [List.getElem?_map, hq]; rfl)
    have hbg : Blk G b (.cells cc.toArray T f) := ⟨hm⟩
    have hwx := hw x (List.mem_of_getElem? hq)
    refine Wp.skip ?_
    refine Ends.seq ?_
    refine Wp.seq ?_
    refine Wp.block ?_
    refine Wp.seq ?_
    refine Wp.region ?_
    refine Ops.pv (pv_move rfl) rfl ?_
    refine Ops.pv (pv_move rfl) rfl ?_
    refine Ops.pv (pv_indexAddr rfl rfl rfl (by omega)) rfl ?_
    refine Ops.pv (pv_loadK x.cells rfl rfl rfl hr) rfl ?_
    refine Ops.ef rfl (ef_allocK tyZ84 rfl) ?_
    rintro _ _ ⟨b1, rfl, rfl⟩
    refine Ops.ef rfl (ef_storeK rfl rfl rfl rfl) ?_
    rintro _ _ ⟨rfl, rfl⟩
    refine Ops.nil ?_
    refine Ends.seq ?_
    refine Wp.seq ?_
    refine Wp.seq ?_
    refine Wp.region ?_
    first | refine Ops.pv (pv_fieldAddr0 rfl rfl) rfl ?_ | refine Ops.pv (pv_fieldAddr rfl rfl) rfl ?_
    first | refine Ops.pv (pv_load rfl rfl rfl) rfl ?_ | refine Ops.pv (pv_load rfl rfl (by assumption)) rfl ?_
    refine Ops.nil ?_
    refine Ends.seq ?_
    refine Wp.block ?_
    refine Wp.seq ?_
    refine Wp.region ?_
    refine Ops.pv (pv_eql rfl rfl) rfl ?_
    refine Ops.pv (pv_assign rfl) rfl ?_
    refine Ops.nil ?_
    refine Ends.seq ?_
    first | refine Wp.cond_dect rfl (fun h2 => ?_) (fun h2 => ?_) | refine Wp.cond_t rfl (fun h2 => ?_) (fun h2 => ?_)
    · rcases sg_three S x.flag with hc | ⟨hc, hc2⟩ | ⟨hc, hc2⟩
      · obtain ⟨g1, g2, g3, g4⟩ := sg_wait x.badge x.flag hc
        have hz : orI S.w x.badge = x.badge := by rw [hsw hc]; exact orI_zero hwx
        refine Wp.seq ?_
        refine Wp.region ?_
        refine Ops.pv (pv_move rfl) rfl ?_
        first | refine Ops.pv (pv_fieldAddr0 rfl rfl) rfl ?_ | refine Ops.pv (pv_fieldAddr rfl rfl) rfl ?_
        first | refine Ops.pv (pv_load rfl rfl rfl) rfl ?_ | refine Ops.pv (pv_load rfl rfl (by assumption)) rfl ?_
        first | refine Ops.pv (pv_fieldAddr0 rfl rfl) rfl ?_ | refine Ops.pv (pv_fieldAddr rfl rfl) rfl ?_
        first | refine Ops.pv (pv_load rfl rfl rfl) rfl ?_ | refine Ops.pv (pv_load rfl rfl (by assumption)) rfl ?_
        refine Ops.ef rfl (ef_call (tr_ntSignal _ _ S hA (by omega) hb1 x.badge x.flag) rfl rfl) ?_
        rintro _ _ ⟨_, _, ⟨rfl, hA1⟩, rfl, rfl⟩
        refine Ops.app ?_
        rw [g1, g2, g3]
        rw [g4] at hA1
        refine Ops.pv (pv_move rfl) rfl ?_
        refine Ops.pv (pv_extract rfl rfl) rfl ?_
        refine Ops.pv (pv_extract rfl rfl) rfl ?_
        refine Ops.pv (pv_extract rfl rfl) rfl ?_
        refine Ops.pv (pv_assign rfl) rfl ?_
        refine Ops.pv (pv_assign rfl) rfl ?_
        refine Ops.pv (pv_assign rfl) rfl ?_
        refine Ops.nil ?_
        refine Ends.seq ?_
        refine Wp.seq ?_
        refine Wp.region ?_
        refine Ops.pv (pv_move rfl) rfl ?_
        first | refine Ops.pv (pv_fieldAddr0 rfl rfl) rfl ?_ | refine Ops.pv (pv_fieldAddr rfl rfl) rfl ?_
        first | refine Ops.pv (pv_load rfl rfl rfl) rfl ?_ | refine Ops.pv (pv_load rfl rfl (by assumption)) rfl ?_
        refine Ops.pv (pv_or rfl rfl rfl) rfl ?_
        refine Ops.pv (pv_assign rfl) rfl ?_
        refine Ops.nil ?_
        refine Ends.seq ?_
        refine Wp.seq ?_
        refine Wp.region ?_
        refine Ops.pv (pv_move rfl) rfl ?_
        refine Ops.nil ?_
        refine Ends.seq ?_
        refine Wp.cond_true rfl ?_
        refine Wp.seq ?_
        refine Wp.seq ?_
        refine Wp.region ?_
        refine Ops.pv (pv_move rfl) rfl ?_
        refine Ops.pv (pv_move rfl) rfl ?_
        refine Ops.pv ((pv_neq rfl rfl).fls (by first | exact fun h => h rfl | exact fun h => h hz.symm)) rfl ?_
        refine Ops.nil ?_
        refine Ends.seq ?_
        refine Wp.cond_false rfl ?_
        refine Wp.skip ?_
        refine Ends.seq ?_
        refine Wp.region ?_
        refine Ops.pv (pv_assign rfl) rfl ?_
        refine Ops.nil ?_
        refine Ends.block_normal ?_
        refine Ends.seq ?_
        refine Wp.seq ?_
        refine Wp.region ?_
        have ho9 : 0 = (⟨S.w, S.l.tail, S.b⟩ : Nt).w := (hsw hc).symm
        have hz9 : (⟨S.w, S.l.tail, S.b⟩ : Nt).l ≠ [] → (⟨S.w, S.l.tail, S.b⟩ : Nt).w = 0 := (fun _ => hsw hc)
        refine Ops.pv (pv_move rfl) rfl ?_
        refine Ops.ef rfl (ef_call (tr_ntState _ _ (⟨S.w, S.l.tail, S.b⟩ : Nt) hA1 (by dsimp only; simp; omega) hb1) rfl rfl) ?_
        rintro _ _ ⟨_, _, ⟨w1, C1, rfl, hc1, rfl⟩, rfl, rfl⟩
        refine Ops.app ?_
        obtain ⟨p1, q1, rfl⟩ := hc1.form
        refine Ops.pv (pv_move rfl) rfl ?_
        refine Ops.pv (pv_extract rfl rfl) rfl ?_
        refine Ops.pv (pv_extract rfl rfl) rfl ?_
        refine Ops.pv (pv_assign rfl) rfl ?_
        refine Ops.pv (pv_assign rfl) rfl ?_
        refine Ops.nil ?_
        refine Ends.seq ?_
        refine Wp.seq ?_
        refine Wp.region ?_
        refine Ops.pv (pv_move rfl) rfl ?_
        refine Ops.pv (pv_move rfl) rfl ?_
        refine Ops.pv ((pv_neq rfl rfl).fls (by first | exact fun h => h rfl | decide | omega | assumption)) rfl ?_
        refine Ops.pv (pv_move rfl) rfl ?_
        refine Ops.pvg ⟨_, _, rfl, rfl, rfl⟩ (pv_move rfl) rfl ?_
        refine Ops.pvg ⟨_, _, rfl, rfl, rfl⟩ (pv_len_slice (T := 26) rfl rfl) rfl ?_
        refine Ops.pvg ⟨_, _, rfl, rfl, rfl⟩ (pv_gtr rfl rfl) rfl ?_
        refine Ops.pvg ⟨_, _, rfl, rfl, rfl⟩ (pv_move rfl) rfl ?_
        first | refine Ops.split (t := 105) rfl (fun h3 => ?_) (fun h3 => ?_) | refine Ops.splitb (t := 105) rfl (fun h3 => ?_) (fun h3 => ?_)
        · refine Ops.pvg ⟨_, _, rfl, rfl, rfl⟩ (pv_move rfl) rfl ?_
          refine Ops.pvg ⟨_, _, rfl, rfl, rfl⟩ (pv_neq rfl rfl) rfl ?_
          refine Ops.pvg ⟨_, _, rfl, rfl, rfl⟩ (pv_pick_true rfl rfl) rfl ?_
          refine Ops.pv (pv_pick_false rfl rfl) rfl ?_
          refine Ops.nil ?_
          refine Ends.seq ?_
          refine Wp.cond_dect rfl (fun hq9 => (by exfalso; refine hq9 (hz9 (fun e => ?_)); have h0 := ‹(0 : Int) < ((_ : List Int).length : Nat)›; rw [e] at h0; simp at h0)) (fun hq9 => ?_)
          refine Wp.skip ?_
          refine Ends.block_normal ?_
          refine Ends.seq ?_
          refine Wp.region ?_
          refine Ops.pv (pv_move rfl) rfl ?_
          first | refine Ops.pv (pv_add rfl rfl (w64 (by omega) (by omega))) rfl ?_ | refine Ops.pv (pv_add rfl rfl rfl) rfl ?_
          refine Ops.pv (pv_assign rfl) rfl ?_
          refine Ops.nil ?_
          refine Ends.goes ?_
          refine Goes.back (hK (i + 1, (⟨S.w, S.l.tail, S.b⟩ : Nt), _, 0) ⟨(by dsimp only; simp; omega), by dsimp only; omega, hA1, hb1, ho9, hz9⟩ (by dsimp only; omega)) ⟨rfl, rfl, rfl, rfl, trivial⟩
        · refine Ops.skipg ⟨_, _, rfl, rfl, rfl⟩ rfl ?_
          refine Ops.skipg ⟨_, _, rfl, rfl, rfl⟩ rfl ?_
          refine Ops.pvg ⟨_, _, rfl, rfl, rfl⟩ (pv_pick_false rfl rfl) rfl ?_
          refine Ops.pv (pv_pick_false rfl rfl) rfl ?_
          refine Ops.nil ?_
          refine Ends.seq ?_
          refine Wp.cond_false rfl ?_
          refine Wp.skip ?_
          refine Ends.block_normal ?_
          refine Ends.seq ?_
          refine Wp.region ?_
          refine Ops.pv (pv_move rfl) rfl ?_
          first | refine Ops.pv (pv_add rfl rfl (w64 (by omega) (by omega))) rfl ?_ | refine Ops.pv (pv_add rfl rfl rfl) rfl ?_
          refine Ops.pv (pv_assign rfl) rfl ?_
          refine Ops.nil ?_
          refine Ends.goes ?_
          refine Goes.back (hK (i + 1, (⟨S.w, S.l.tail, S.b⟩ : Nt), _, 0) ⟨(by dsimp only; simp; omega), by dsimp only; omega, hA1, hb1, ho9, hz9⟩ (by dsimp only; omega)) ⟨rfl, rfl, rfl, rfl, trivial⟩
      · obtain ⟨g1, g2, g3, g4⟩ := sg_bound x.badge hc hc2
        refine Wp.seq ?_
        refine Wp.region ?_
        refine Ops.pv (pv_move rfl) rfl ?_
        first | refine Ops.pv (pv_fieldAddr0 rfl rfl) rfl ?_ | refine Ops.pv (pv_fieldAddr rfl rfl) rfl ?_
        first | refine Ops.pv (pv_load rfl rfl rfl) rfl ?_ | refine Ops.pv (pv_load rfl rfl (by assumption)) rfl ?_
        first | refine Ops.pv (pv_fieldAddr0 rfl rfl) rfl ?_ | refine Ops.pv (pv_fieldAddr rfl rfl) rfl ?_
        first | refine Ops.pv (pv_load rfl rfl rfl) rfl ?_ | refine Ops.pv (pv_load rfl rfl (by assumption)) rfl ?_
        refine Ops.ef rfl (ef_call (tr_ntSignal _ _ S hA (by omega) hb1 x.badge x.flag) rfl rfl) ?_
        rintro _ _ ⟨_, _, ⟨rfl, hA2⟩, rfl, rfl⟩
        refine Ops.app ?_
        rw [g1, g2, g3]
        rw [g4] at hA2
        refine Ops.pv (pv_move rfl) rfl ?_
        refine Ops.pv (pv_extract rfl rfl) rfl ?_
        refine Ops.pv (pv_extract rfl rfl) rfl ?_
        refine Ops.pv (pv_extract rfl rfl) rfl ?_
        refine Ops.pv (pv_assign rfl) rfl ?_
        refine Ops.pv (pv_assign rfl) rfl ?_
        refine Ops.pv (pv_assign rfl) rfl ?_
        refine Ops.nil ?_
        refine Ends.seq ?_
        refine Wp.seq ?_
        refine Wp.region ?_
        refine Ops.pv (pv_move rfl) rfl ?_
        first | refine Ops.pv (pv_fieldAddr0 rfl rfl) rfl ?_ | refine Ops.pv (pv_fieldAddr rfl rfl) rfl ?_
        first | refine Ops.pv (pv_load rfl rfl rfl) rfl ?_ | refine Ops.pv (pv_load rfl rfl (by assumption)) rfl ?_
        refine Ops.pv (pv_or rfl rfl rfl) rfl ?_
        refine Ops.pv (pv_assign rfl) rfl ?_
        refine Ops.nil ?_
        refine Ends.seq ?_
        refine Wp.seq ?_
        refine Wp.region ?_
        refine Ops.pv (pv_move rfl) rfl ?_
        refine Ops.nil ?_
        refine Ends.seq ?_
        refine Wp.cond_true rfl ?_
        refine Wp.seq ?_
        refine Wp.seq ?_
        refine Wp.region ?_
        refine Ops.pv (pv_move rfl) rfl ?_
        refine Ops.pv (pv_move rfl) rfl ?_
        refine Ops.pv ((pv_neq rfl rfl).fls (by first | exact fun h => h rfl | exact fun h => h hz.symm)) rfl ?_
        refine Ops.nil ?_
        refine Ends.seq ?_
        refine Wp.cond_false rfl ?_
        refine Wp.skip ?_
        refine Ends.seq ?_
        refine Wp.region ?_
        refine Ops.pv (pv_assign rfl) rfl ?_
        refine Ops.nil ?_
        refine Ends.block_normal ?_
        refine Ends.seq ?_
        refine Wp.seq ?_
        refine Wp.region ?_
        have ho9 : 0 = (⟨0, [], S.b⟩ : Nt).w := rfl
        have hz9 : (⟨0, [], S.b⟩ : Nt).l ≠ [] → (⟨0, [], S.b⟩ : Nt).w = 0 := (fun e => absurd rfl e)
        refine Ops.pv (pv_move rfl) rfl ?_
        refine Ops.ef rfl (ef_call (tr_ntState _ _ (⟨0, [], S.b⟩ : Nt) hA2 (by simp) hb1) rfl rfl) ?_
        rintro _ _ ⟨_, _, ⟨w2, C2, rfl, hc2, rfl⟩, rfl, rfl⟩
        refine Ops.app ?_
        obtain ⟨p2, q2, rfl⟩ := hc2.form
        refine Ops.pv (pv_move rfl) rfl ?_
        refine Ops.pv (pv_extract rfl rfl) rfl ?_
        refine Ops.pv (pv_extract rfl rfl) rfl ?_
        refine Ops.pv (pv_assign rfl) rfl ?_
        refine Ops.pv (pv_assign rfl) rfl ?_
        refine Ops.nil ?_
        refine Ends.seq ?_
        refine Wp.seq ?_
        refine Wp.region ?_
        refine Ops.pv (pv_move rfl) rfl ?_
        refine Ops.pv (pv_move rfl) rfl ?_
        refine Ops.pv ((pv_neq rfl rfl).fls (by first | exact fun h => h rfl | decide | omega | assumption)) rfl ?_
        refine Ops.pv (pv_move rfl) rfl ?_
        refine Ops.pvg ⟨_, _, rfl, rfl, rfl⟩ (pv_move rfl) rfl ?_
        refine Ops.pvg ⟨_, _, rfl, rfl, rfl⟩ (pv_len_slice (T := 26) rfl rfl) rfl ?_
        refine Ops.pvg ⟨_, _, rfl, rfl, rfl⟩ (pv_gtr rfl rfl) rfl ?_
        refine Ops.pvg ⟨_, _, rfl, rfl, rfl⟩ (pv_move rfl) rfl ?_
        first | refine Ops.split (t := 105) rfl (fun h5 => ?_) (fun h5 => ?_) | refine Ops.splitb (t := 105) rfl (fun h5 => ?_) (fun h5 => ?_)
        · refine Ops.pvg ⟨_, _, rfl, rfl, rfl⟩ (pv_move rfl) rfl ?_
          refine Ops.pvg ⟨_, _, rfl, rfl, rfl⟩ (pv_neq rfl rfl) rfl ?_
          refine Ops.pvg ⟨_, _, rfl, rfl, rfl⟩ (pv_pick_true rfl rfl) rfl ?_
          refine Ops.pv (pv_pick_false rfl rfl) rfl ?_
          refine Ops.nil ?_
          refine Ends.seq ?_
          refine Wp.cond_dect rfl (fun hq9 => (by exfalso; refine hq9 (hz9 (fun e => ?_)); have h0 := ‹(0 : Int) < ((_ : List Int).length : Nat)›; rw [e] at h0; simp at h0)) (fun hq9 => ?_)
          refine Wp.skip ?_
          refine Ends.block_normal ?_
          refine Ends.seq ?_
          refine Wp.region ?_
          refine Ops.pv (pv_move rfl) rfl ?_
          first | refine Ops.pv (pv_add rfl rfl (w64 (by omega) (by omega))) rfl ?_ | refine Ops.pv (pv_add rfl rfl rfl) rfl ?_
          refine Ops.pv (pv_assign rfl) rfl ?_
          refine Ops.nil ?_
          refine Ends.goes ?_
          refine Goes.back (hK (i + 1, (⟨0, [], S.b⟩ : Nt), _, 0) ⟨(Nat.zero_le _), by dsimp only; omega, hA2, hb1, ho9, hz9⟩ (by dsimp only; omega)) ⟨rfl, rfl, rfl, rfl, trivial⟩
        · refine Ops.skipg ⟨_, _, rfl, rfl, rfl⟩ rfl ?_
          refine Ops.skipg ⟨_, _, rfl, rfl, rfl⟩ rfl ?_
          refine Ops.pvg ⟨_, _, rfl, rfl, rfl⟩ (pv_pick_false rfl rfl) rfl ?_
          refine Ops.pv (pv_pick_false rfl rfl) rfl ?_
          refine Ops.nil ?_
          refine Ends.seq ?_
          refine Wp.cond_false rfl ?_
          refine Wp.skip ?_
          refine Ends.block_normal ?_
          refine Ends.seq ?_
          refine Wp.region ?_
          refine Ops.pv (pv_move rfl) rfl ?_
          first | refine Ops.pv (pv_add rfl rfl (w64 (by omega) (by omega))) rfl ?_ | refine Ops.pv (pv_add rfl rfl rfl) rfl ?_
          refine Ops.pv (pv_assign rfl) rfl ?_
          refine Ops.nil ?_
          refine Ends.goes ?_
          refine Goes.back (hK (i + 1, (⟨0, [], S.b⟩ : Nt), _, 0) ⟨(Nat.zero_le _), by dsimp only; omega, hA2, hb1, ho9, hz9⟩ (by dsimp only; omega)) ⟨rfl, rfl, rfl, rfl, trivial⟩
      · obtain ⟨g1, g2, g3, g4⟩ := sg_none x.badge hc hc2
        refine Wp.seq ?_
        refine Wp.region ?_
        refine Ops.pv (pv_move rfl) rfl ?_
        first | refine Ops.pv (pv_fieldAddr0 rfl rfl) rfl ?_ | refine Ops.pv (pv_fieldAddr rfl rfl) rfl ?_
        first | refine Ops.pv (pv_load rfl rfl rfl) rfl ?_ | refine Ops.pv (pv_load rfl rfl (by assumption)) rfl ?_
        first | refine Ops.pv (pv_fieldAddr0 rfl rfl) rfl ?_ | refine Ops.pv (pv_fieldAddr rfl rfl) rfl ?_
        first | refine Ops.pv (pv_load rfl rfl rfl) rfl ?_ | refine Ops.pv (pv_load rfl rfl (by assumption)) rfl ?_
        refine Ops.ef rfl (ef_call (tr_ntSignal _ _ S hA (by omega) hb1 x.badge x.flag) rfl rfl) ?_
        rintro _ _ ⟨_, _, ⟨rfl, hA3⟩, rfl, rfl⟩
        refine Ops.app ?_
        rw [g1, g2, g3]
        rw [g4] at hA3
        refine Ops.pv (pv_move rfl) rfl ?_
        refine Ops.pv (pv_extract rfl rfl) rfl ?_
        refine Ops.pv (pv_extract rfl rfl) rfl ?_
        refine Ops.pv (pv_extract rfl rfl) rfl ?_
        refine Ops.pv (pv_assign rfl) rfl ?_
        refine Ops.pv (pv_assign rfl) rfl ?_
        refine Ops.pv (pv_assign rfl) rfl ?_
        refine Ops.nil ?_
        refine Ends.seq ?_
        refine Wp.seq ?_
        refine Wp.region ?_
        refine Ops.pv (pv_move rfl) rfl ?_
        first | refine Ops.pv (pv_fieldAddr0 rfl rfl) rfl ?_ | refine Ops.pv (pv_fieldAddr rfl rfl) rfl ?_
        first | refine Ops.pv (pv_load rfl rfl rfl) rfl ?_ | refine Ops.pv (pv_load rfl rfl (by assumption)) rfl ?_
        refine Ops.pv (pv_or rfl rfl rfl) rfl ?_
        refine Ops.pv (pv_assign rfl) rfl ?_
        refine Ops.nil ?_
        refine Ends.seq ?_
        refine Wp.seq ?_
        refine Wp.region ?_
        refine Ops.pv (pv_move rfl) rfl ?_
        refine Ops.nil ?_
        refine Ends.seq ?_
        refine Wp.cond_false rfl ?_
        refine Wp.skip ?_
        refine Ends.block_normal ?_
        refine Ends.seq ?_
        refine Wp.seq ?_
        refine Wp.region ?_
        have ho9 : (orI S.w x.badge) = (⟨orI S.w x.badge, [], S.b⟩ : Nt).w := rfl
        have hz9 : (⟨orI S.w x.badge, [], S.b⟩ : Nt).l ≠ [] → (⟨orI S.w x.badge, [], S.b⟩ : Nt).w = 0 := (fun e => absurd rfl e)
        refine Ops.pv (pv_move rfl) rfl ?_
        refine Ops.ef rfl (ef_call (tr_ntState _ _ (⟨orI S.w x.badge, [], S.b⟩ : Nt) hA3 (by simp) hb1) rfl rfl) ?_
        rintro _ _ ⟨_, _, ⟨w3, C3, rfl, hc3, rfl⟩, rfl, rfl⟩
        refine Ops.app ?_
        obtain ⟨p3, q3, rfl⟩ := hc3.form
        refine Ops.pv (pv_move rfl) rfl ?_
        refine Ops.pv (pv_extract rfl rfl) rfl ?_
        refine Ops.pv (pv_extract rfl rfl) rfl ?_
        refine Ops.pv (pv_assign rfl) rfl ?_
        refine Ops.pv (pv_assign rfl) rfl ?_
        refine Ops.nil ?_
        refine Ends.seq ?_
        refine Wp.seq ?_
        refine Wp.region ?_
        refine Ops.pv (pv_move rfl) rfl ?_
        refine Ops.pv (pv_move rfl) rfl ?_
        refine Ops.pv ((pv_neq rfl rfl).fls (by first | exact fun h => h rfl | decide | omega | assumption)) rfl ?_
        refine Ops.pv (pv_move rfl) rfl ?_
        refine Ops.pvg ⟨_, _, rfl, rfl, rfl⟩ (pv_move rfl) rfl ?_
        refine Ops.pvg ⟨_, _, rfl, rfl, rfl⟩ (pv_len_slice (T := 26) rfl rfl) rfl ?_
        refine Ops.pvg ⟨_, _, rfl, rfl, rfl⟩ (pv_gtr rfl rfl) rfl ?_
        refine Ops.pvg ⟨_, _, rfl, rfl, rfl⟩ (pv_move rfl) rfl ?_
        first | refine Ops.split (t := 105) rfl (fun h7 => ?_) (fun h7 => ?_) | refine Ops.splitb (t := 105) rfl (fun h7 => ?_) (fun h7 => ?_)
        · refine Ops.pvg ⟨_, _, rfl, rfl, rfl⟩ (pv_move rfl) rfl ?_
          refine Ops.pvg ⟨_, _, rfl, rfl, rfl⟩ (pv_neq rfl rfl) rfl ?_
          refine Ops.pvg ⟨_, _, rfl, rfl, rfl⟩ (pv_pick_true rfl rfl) rfl ?_
          refine Ops.pv (pv_pick_false rfl rfl) rfl ?_
          refine Ops.nil ?_
          refine Ends.seq ?_
          refine Wp.cond_dect rfl (fun hq9 => (by exfalso; refine hq9 (hz9 (fun e => ?_)); have h0 := ‹(0 : Int) < ((_ : List Int).length : Nat)›; rw [e] at h0; simp at h0)) (fun hq9 => ?_)
          refine Wp.skip ?_
          refine Ends.block_normal ?_
          refine Ends.seq ?_
          refine Wp.region ?_
          refine Ops.pv (pv_move rfl) rfl ?_
          first | refine Ops.pv (pv_add rfl rfl (w64 (by omega) (by omega))) rfl ?_ | refine Ops.pv (pv_add rfl rfl rfl) rfl ?_
          refine Ops.pv (pv_assign rfl) rfl ?_
          refine Ops.nil ?_
          refine Ends.goes ?_
          refine Goes.back (hK (i + 1, (⟨orI S.w x.badge, [], S.b⟩ : Nt), _, (orI S.w x.badge)) ⟨(Nat.zero_le _), by dsimp only; omega, hA3, hb1, ho9, hz9⟩ (by dsimp only; omega)) ⟨rfl, rfl, rfl, rfl, trivial⟩
        · refine Ops.skipg ⟨_, _, rfl, rfl, rfl⟩ rfl ?_
          refine Ops.skipg ⟨_, _, rfl, rfl, rfl⟩ rfl ?_
          refine Ops.pvg ⟨_, _, rfl, rfl, rfl⟩ (pv_pick_false rfl rfl) rfl ?_
          refine Ops.pv (pv_pick_false rfl rfl) rfl ?_
          refine Ops.nil ?_
          refine Ends.seq ?_
          refine Wp.cond_false rfl ?_
          refine Wp.skip ?_
          refine Ends.block_normal ?_
          refine Ends.seq ?_
          refine Wp.region ?_
          refine Ops.pv (pv_move rfl) rfl ?_
          first | refine Ops.pv (pv_add rfl rfl (w64 (by omega) (by omega))) rfl ?_ | refine Ops.pv (pv_add rfl rfl rfl) rfl ?_
          refine Ops.pv (pv_assign rfl) rfl ?_
          refine Ops.nil ?_
          refine Ends.goes ?_
          refine Goes.back (hK (i + 1, (⟨orI S.w x.badge, [], S.b⟩ : Nt), _, (orI S.w x.badge)) ⟨(Nat.zero_le _), by dsimp only; omega, hA3, hb1, ho9, hz9⟩ (by dsimp only; omega)) ⟨rfl, rfl, rfl, rfl, trivial⟩
    · refine Wp.seq ?_
      refine Wp.region ?_
      refine Ops.pv (pv_eql rfl rfl) rfl ?_
      refine Ops.pv (pv_assign rfl) rfl ?_
      refine Ops.nil ?_
      refine Ends.seq ?_
      first | refine Wp.cond_dect rfl (fun h9 => ?_) (fun h9 => ?_) | refine Wp.cond_t rfl (fun h9 => ?_) (fun h9 => ?_)
      · refine Wp.seq ?_
        refine Wp.region ?_
        refine Ops.pv (pv_move rfl) rfl ?_
        first | refine Ops.pv (pv_fieldAddr0 rfl rfl) rfl ?_ | refine Ops.pv (pv_fieldAddr rfl rfl) rfl ?_
        first | refine Ops.pv (pv_load rfl rfl rfl) rfl ?_ | refine Ops.pv (pv_load rfl rfl (by assumption)) rfl ?_
        first | refine Ops.pv (pv_fieldAddr0 rfl rfl) rfl ?_ | refine Ops.pv (pv_fieldAddr rfl rfl) rfl ?_
        first | refine Ops.pv (pv_load rfl rfl rfl) rfl ?_ | refine Ops.pv (pv_load rfl rfl (by assumption)) rfl ?_
        refine Ops.ef rfl (ef_call (tr_ntWait _ _ S hA (by omega) hb1 x.id x.flag) rfl rfl) ?_
        rintro _ _ ⟨_, _, ⟨rfl, hA4⟩, rfl, rfl⟩
        refine Ops.app ?_
        refine Ops.pv (pv_move rfl) rfl ?_
        refine Ops.pv (pv_extract rfl rfl) rfl ?_
        refine Ops.pv (pv_extract rfl rfl) rfl ?_
        refine Ops.pv (pv_extract rfl rfl) rfl ?_
        refine Ops.pv (pv_assign rfl) rfl ?_
        refine Ops.pv (pv_assign rfl) rfl ?_
        refine Ops.pv (pv_assign rfl) rfl ?_
        refine Ops.nil ?_
        refine Ends.seq ?_
        refine Wp.seq ?_
        refine Wp.region ?_
        refine Ops.pv (pv_move rfl) rfl ?_
        refine Ops.pv (pv_eql rfl rfl) rfl ?_
        refine Ops.nil ?_
        refine Ends.seq ?_
        first | refine Wp.cond_dect rfl (fun h10 => ?_) (fun h10 => ?_) | refine Wp.cond_t rfl (fun h10 => ?_) (fun h10 => ?_)
        · have he : pushE S.l x.id = 0 := by assumption
          rw [(wt_ok he).1, (wt_ok he).2]
          refine Wp.seq ?_
          refine Wp.seq ?_
          refine Wp.region ?_
          refine Ops.pv (pv_move rfl) rfl ?_
          refine Ops.pv (pv_move rfl) rfl ?_
          refine Ops.pv (pv_neq rfl rfl) rfl ?_
          refine Ops.pv ((pv_neq_bool rfl rfl).is (u := .bool false) (by first | rfl | (simp; done) | simp_all)) rfl ?_
          refine Ops.pv (pv_move rfl) rfl ?_
          refine Ops.pvg ⟨_, _, rfl, rfl, rfl⟩ (pv_move rfl) rfl ?_
          refine Ops.pvg ⟨_, _, rfl, rfl, rfl⟩ (pv_move rfl) rfl ?_
          refine Ops.pvg ⟨_, _, rfl, rfl, rfl⟩ ((pv_neq rfl rfl).fls (by first | exact fun h => h rfl | decide | omega | assumption)) rfl ?_
          refine Ops.pv (pv_pick_false rfl rfl) rfl ?_
          refine Ops.nil ?_
          refine Ends.seq ?_
          refine Wp.cond_false rfl ?_
          refine Wp.skip ?_
          refine Ends.seq ?_
          refine Wp.region ?_
          refine Ops.pv (pv_assign rfl) rfl ?_
          refine Ops.nil ?_
          refine Ends.block_normal ?_
          refine Ends.seq ?_
          refine Wp.seq ?_
          refine Wp.region ?_
          have ho9 : 0 = (wtS S x.id x.flag).w := (wtS_w he).symm
          have hz9 : (wtS S x.id x.flag).l ≠ [] → (wtS S x.id x.flag).w = 0 := (fun _ => wtS_w he)
          refine Ops.pv (pv_move rfl) rfl ?_
          refine Ops.ef rfl (ef_call (tr_ntState _ _ (wtS S x.id x.flag) hA4 (by have := (wtS_len S x.id x.flag).1; omega) (by rw [(wtS_len S x.id x.flag).2]; exact hb1)) rfl rfl) ?_
          rintro _ _ ⟨_, _, ⟨w4, C4, rfl, hc4, rfl⟩, rfl, rfl⟩
          refine Ops.app ?_
          obtain ⟨p4, q4, rfl⟩ := hc4.form
          refine Ops.pv (pv_move rfl) rfl ?_
          refine Ops.pv (pv_extract rfl rfl) rfl ?_
          refine Ops.pv (pv_extract rfl rfl) rfl ?_
          refine Ops.pv (pv_assign rfl) rfl ?_
          refine Ops.pv (pv_assign rfl) rfl ?_
          refine Ops.nil ?_
          refine Ends.seq ?_
          refine Wp.seq ?_
          refine Wp.region ?_
          refine Ops.pv (pv_move rfl) rfl ?_
          refine Ops.pv (pv_move rfl) rfl ?_
          refine Ops.pv ((pv_neq rfl rfl).fls (by first | exact fun h => h rfl | decide | omega | assumption)) rfl ?_
          refine Ops.pv (pv_move rfl) rfl ?_
          refine Ops.pvg ⟨_, _, rfl, rfl, rfl⟩ (pv_move rfl) rfl ?_
          refine Ops.pvg ⟨_, _, rfl, rfl, rfl⟩ (pv_len_slice (T := 26) rfl rfl) rfl ?_
          refine Ops.pvg ⟨_, _, rfl, rfl, rfl⟩ (pv_gtr rfl rfl) rfl ?_
          refine Ops.pvg ⟨_, _, rfl, rfl, rfl⟩ (pv_move rfl) rfl ?_
          first | refine Ops.split (t := 105) rfl (fun h11 => ?_) (fun h11 => ?_) | refine Ops.splitb (t := 105) rfl (fun h11 => ?_) (fun h11 => ?_)
          · refine Ops.pvg ⟨_, _, rfl, rfl, rfl⟩ (pv_move rfl) rfl ?_
            refine Ops.pvg ⟨_, _, rfl, rfl, rfl⟩ (pv_neq rfl rfl) rfl ?_
            refine Ops.pvg ⟨_, _, rfl, rfl, rfl⟩ (pv_pick_true rfl rfl) rfl ?_
            refine Ops.pv (pv_pick_false rfl rfl) rfl ?_
            refine Ops.nil ?_
            refine Ends.seq ?_
            refine Wp.cond_dect rfl (fun hq9 => (by exfalso; refine hq9 (hz9 (fun e => ?_)); have h0 := ‹(0 : Int) < ((_ : List Int).length : Nat)›; rw [e] at h0; simp at h0)) (fun hq9 => ?_)
            refine Wp.skip ?_
            refine Ends.block_normal ?_
            refine Ends.seq ?_
            refine Wp.region ?_
            refine Ops.pv (pv_move rfl) rfl ?_
            first | refine Ops.pv (pv_add rfl rfl (w64 (by omega) (by omega))) rfl ?_ | refine Ops.pv (pv_add rfl rfl rfl) rfl ?_
            refine Ops.pv (pv_assign rfl) rfl ?_
            refine Ops.nil ?_
            refine Ends.goes ?_
            refine Goes.back (hK (i + 1, (wtS S x.id x.flag), _, 0) ⟨(Nat.le_trans (wtS_len S x.id x.flag).1 (Nat.succ_le_succ hll)), by dsimp only; omega, hA4, (by rw [(wtS_len S x.id x.flag).2]; exact hb1), ho9, hz9⟩ (by dsimp only; omega)) ⟨rfl, rfl, rfl, rfl, trivial⟩
          · refine Ops.skipg ⟨_, _, rfl, rfl, rfl⟩ rfl ?_
            refine Ops.skipg ⟨_, _, rfl, rfl, rfl⟩ rfl ?_
            refine Ops.pvg ⟨_, _, rfl, rfl, rfl⟩ (pv_pick_false rfl rfl) rfl ?_
            refine Ops.pv (pv_pick_false rfl rfl) rfl ?_
            refine Ops.nil ?_
            refine Ends.seq ?_
            refine Wp.cond_false rfl ?_
            refine Wp.skip ?_
            refine Ends.block_normal ?_
            refine Ends.seq ?_
            refine Wp.region ?_
            refine Ops.pv (pv_move rfl) rfl ?_
            first | refine Ops.pv (pv_add rfl rfl (w64 (by omega) (by omega))) rfl ?_ | refine Ops.pv (pv_add rfl rfl rfl) rfl ?_
            refine Ops.pv (pv_assign rfl) rfl ?_
            refine Ops.nil ?_
            refine Ends.goes ?_
            refine Goes.back (hK (i + 1, (wtS S x.id x.flag), _, 0) ⟨(Nat.le_trans (wtS_len S x.id x.flag).1 (Nat.succ_le_succ hll)), by dsimp only; omega, hA4, (by rw [(wtS_len S x.id x.flag).2]; exact hb1), ho9, hz9⟩ (by dsimp only; omega)) ⟨rfl, rfl, rfl, rfl, trivial⟩
        · have he : ¬ pushE S.l x.id = 0 := by assumption
          rw [(wt_err (wait := x.flag) he).2.2] at hA4
          refine Wp.skip ?_
          refine Ends.block_normal ?_
          refine Ends.seq ?_
          refine Wp.seq ?_
          refine Wp.region ?_
          have ho9 : S.w = S.w := rfl
          have hz9 : S.l ≠ [] → S.w = 0 := hsw
          refine Ops.pv (pv_move rfl) rfl ?_
          refine Ops.ef rfl (ef_call (tr_ntState _ _ S hA4 (by omega) hb1) rfl rfl) ?_
          rintro _ _ ⟨_, _, ⟨w5, C5, rfl, hc5, rfl⟩, rfl, rfl⟩
          refine Ops.app ?_
          obtain ⟨p5, q5, rfl⟩ := hc5.form
          refine Ops.pv (pv_move rfl) rfl ?_
          refine Ops.pv (pv_extract rfl rfl) rfl ?_
          refine Ops.pv (pv_extract rfl rfl) rfl ?_
          refine Ops.pv (pv_assign rfl) rfl ?_
          refine Ops.pv (pv_assign rfl) rfl ?_
          refine Ops.nil ?_
          refine Ends.seq ?_
          refine Wp.seq ?_
          refine Wp.region ?_
          refine Ops.pv (pv_move rfl) rfl ?_
          refine Ops.pv (pv_move rfl) rfl ?_
          refine Ops.pv ((pv_neq rfl rfl).fls (by first | exact fun h => h rfl | decide | omega | assumption)) rfl ?_
          refine Ops.pv (pv_move rfl) rfl ?_
          refine Ops.pvg ⟨_, _, rfl, rfl, rfl⟩ (pv_move rfl) rfl ?_
          refine Ops.pvg ⟨_, _, rfl, rfl, rfl⟩ (pv_len_slice (T := 26) rfl rfl) rfl ?_
          refine Ops.pvg ⟨_, _, rfl, rfl, rfl⟩ (pv_gtr rfl rfl) rfl ?_
          refine Ops.pvg ⟨_, _, rfl, rfl, rfl⟩ (pv_move rfl) rfl ?_
          first | refine Ops.split (t := 105) rfl (fun h13 => ?_) (fun h13 => ?_) | refine Ops.splitb (t := 105) rfl (fun h13 => ?_) (fun h13 => ?_)
          · refine Ops.pvg ⟨_, _, rfl, rfl, rfl⟩ (pv_move rfl) rfl ?_
            refine Ops.pvg ⟨_, _, rfl, rfl, rfl⟩ (pv_neq rfl rfl) rfl ?_
            refine Ops.pvg ⟨_, _, rfl, rfl, rfl⟩ (pv_pick_true rfl rfl) rfl ?_
            refine Ops.pv (pv_pick_false rfl rfl) rfl ?_
            refine Ops.nil ?_
            refine Ends.seq ?_
            refine Wp.cond_dect rfl (fun hq9 => (by exfalso; refine hq9 (hz9 (fun e => ?_)); have h0 := ‹(0 : Int) < ((_ : List Int).length : Nat)›; rw [e] at h0; simp at h0)) (fun hq9 => ?_)
            refine Wp.skip ?_
            refine Ends.block_normal ?_
            refine Ends.seq ?_
            refine Wp.region ?_
            refine Ops.pv (pv_move rfl) rfl ?_
            first | refine Ops.pv (pv_add rfl rfl (w64 (by omega) (by omega))) rfl ?_ | refine Ops.pv (pv_add rfl rfl rfl) rfl ?_
            refine Ops.pv (pv_assign rfl) rfl ?_
            refine Ops.nil ?_
            refine Ends.goes ?_
            refine Goes.back (hK (i + 1, S, _, S.w) ⟨(by dsimp only; omega), by dsimp only; omega, hA4, hb1, ho9, hz9⟩ (by dsimp only; omega)) ⟨rfl, rfl, rfl, rfl, trivial⟩
          · refine Ops.skipg ⟨_, _, rfl, rfl, rfl⟩ rfl ?_
            refine Ops.skipg ⟨_, _, rfl, rfl, rfl⟩ rfl ?_
            refine Ops.pvg ⟨_, _, rfl, rfl, rfl⟩ (pv_pick_false rfl rfl) rfl ?_
            refine Ops.pv (pv_pick_false rfl rfl) rfl ?_
            refine Ops.nil ?_
            refine Ends.seq ?_
            refine Wp.cond_false rfl ?_
            refine Wp.skip ?_
            refine Ends.block_normal ?_
            refine Ends.seq ?_
            refine Wp.region ?_
            refine Ops.pv (pv_move rfl) rfl ?_
            first | refine Ops.pv (pv_add rfl rfl (w64 (by omega) (by omega))) rfl ?_ | refine Ops.pv (pv_add rfl rfl rfl) rfl ?_
            refine Ops.pv (pv_assign rfl) rfl ?_
            refine Ops.nil ?_
            refine Ends.goes ?_
            refine Goes.back (hK (i + 1, S, _, S.w) ⟨(by dsimp only; omega), by dsimp only; omega, hA4, hb1, ho9, hz9⟩ (by dsimp only; omega)) ⟨rfl, rfl, rfl, rfl, trivial⟩
      · refine Wp.seq ?_
        refine Wp.region ?_
        refine Ops.pv (pv_eql rfl rfl) rfl ?_
        refine Ops.pv (pv_assign rfl) rfl ?_
        refine Ops.nil ?_
        refine Ends.seq ?_
        first | refine Wp.cond_dect rfl (fun h15 => ?_) (fun h15 => ?_) | refine Wp.cond_t rfl (fun h15 => ?_) (fun h15 => ?_)
        · refine Wp.region ?_
          refine Ops.pv (pv_move rfl) rfl ?_
          first | refine Ops.pv (pv_fieldAddr0 rfl rfl) rfl ?_ | refine Ops.pv (pv_fieldAddr rfl rfl) rfl ?_
          first | refine Ops.pv (pv_load rfl rfl rfl) rfl ?_ | refine Ops.pv (pv_load rfl rfl (by assumption)) rfl ?_
          refine Ops.ef rfl (ef_call (tr_ntCancel _ _ S hA (by omega) hb1 x.id) rfl rfl) ?_
          rintro _ _ ⟨_, _, ⟨rfl, hA5⟩, rfl, rfl⟩
          refine Ops.app ?_
          refine Ops.nil ?_
          refine Ends.block_normal ?_
          refine Ends.seq ?_
          refine Wp.seq ?_
          refine Wp.region ?_
          have ho9 : S.w = (⟨S.w, remL S.l x.id, S.b⟩ : Nt).w := rfl
          have hz9 : (⟨S.w, remL S.l x.id, S.b⟩ : Nt).l ≠ [] → (⟨S.w, remL S.l x.id, S.b⟩ : Nt).w = 0 := (fun e => hsw (rem_ne e))
          refine Ops.pv (pv_move rfl) rfl ?_
          refine Ops.ef rfl (ef_call (tr_ntState _ _ (⟨S.w, remL S.l x.id, S.b⟩ : Nt) hA5 (by have := remL_len S.l x.id; dsimp only; omega) hb1) rfl rfl) ?_
          rintro _ _ ⟨_, _, ⟨w6, C6, rfl, hc6, rfl⟩, rfl, rfl⟩
          refine Ops.app ?_
          obtain ⟨p6, q6, rfl⟩ := hc6.form
          refine Ops.pv (pv_move rfl) rfl ?_
          refine Ops.pv (pv_extract rfl rfl) rfl ?_
          refine Ops.pv (pv_extract rfl rfl) rfl ?_
          refine Ops.pv (pv_assign rfl) rfl ?_
          refine Ops.pv (pv_assign rfl) rfl ?_
          refine Ops.nil ?_
          refine Ends.seq ?_
          refine Wp.seq ?_
          refine Wp.region ?_
          refine Ops.pv (pv_move rfl) rfl ?_
          refine Ops.pv (pv_move rfl) rfl ?_
          refine Ops.pv ((pv_neq rfl rfl).fls (by first | exact fun h => h rfl | decide | omega | assumption)) rfl ?_
          refine Ops.pv (pv_move rfl) rfl ?_
          refine Ops.pvg ⟨_, _, rfl, rfl, rfl⟩ (pv_move rfl) rfl ?_
          refine Ops.pvg ⟨_, _, rfl, rfl, rfl⟩ (pv_len_slice (T := 26) rfl rfl) rfl ?_
          refine Ops.pvg ⟨_, _, rfl, rfl, rfl⟩ (pv_gtr rfl rfl) rfl ?_
          refine Ops.pvg ⟨_, _, rfl, rfl, rfl⟩ (pv_move rfl) rfl ?_
          first | refine Ops.split (t := 105) rfl (fun h16 => ?_) (fun h16 => ?_) | refine Ops.splitb (t := 105) rfl (fun h16 => ?_) (fun h16 => ?_)
          · refine Ops.pvg ⟨_, _, rfl, rfl, rfl⟩ (pv_move rfl) rfl ?_
            refine Ops.pvg ⟨_, _, rfl, rfl, rfl⟩ (pv_neq rfl rfl) rfl ?_
            refine Ops.pvg ⟨_, _, rfl, rfl, rfl⟩ (pv_pick_true rfl rfl) rfl ?_
            refine Ops.pv (pv_pick_false rfl rfl) rfl ?_
            refine Ops.nil ?_
            refine Ends.seq ?_
            refine Wp.cond_dect rfl (fun hq9 => (by exfalso; refine hq9 (hz9 (fun e => ?_)); have h0 := ‹(0 : Int) < ((_ : List Int).length : Nat)›; rw [e] at h0; simp at h0)) (fun hq9 => ?_)
            refine Wp.skip ?_
            refine Ends.block_normal ?_
            refine Ends.seq ?_
            refine Wp.region ?_
            refine Ops.pv (pv_move rfl) rfl ?_
            first | refine Ops.pv (pv_add rfl rfl (w64 (by omega) (by omega))) rfl ?_ | refine Ops.pv (pv_add rfl rfl rfl) rfl ?_
            refine Ops.pv (pv_assign rfl) rfl ?_
            refine Ops.nil ?_
            refine Ends.goes ?_
            refine Goes.back (hK (i + 1, (⟨S.w, remL S.l x.id, S.b⟩ : Nt), _, S.w) ⟨(by have := remL_len S.l x.id; dsimp only; omega), by dsimp only; omega, hA5, hb1, ho9, hz9⟩ (by dsimp only; omega)) ⟨rfl, rfl, rfl, rfl, trivial⟩
          · refine Ops.skipg ⟨_, _, rfl, rfl, rfl⟩ rfl ?_
            refine Ops.skipg ⟨_, _, rfl, rfl, rfl⟩ rfl ?_
            refine Ops.pvg ⟨_, _, rfl, rfl, rfl⟩ (pv_pick_false rfl rfl) rfl ?_
            refine Ops.pv (pv_pick_false rfl rfl) rfl ?_
            refine Ops.nil ?_
            refine Ends.seq ?_
            refine Wp.cond_false rfl ?_
            refine Wp.skip ?_
            refine Ends.block_normal ?_
            refine Ends.seq ?_
            refine Wp.region ?_
            refine Ops.pv (pv_move rfl) rfl ?_
            first | refine Ops.pv (pv_add rfl rfl (w64 (by omega) (by omega))) rfl ?_ | refine Ops.pv (pv_add rfl rfl rfl) rfl ?_
            refine Ops.pv (pv_assign rfl) rfl ?_
            refine Ops.nil ?_
            refine Ends.goes ?_
            refine Goes.back (hK (i + 1, (⟨S.w, remL S.l x.id, S.b⟩ : Nt), _, S.w) ⟨(by have := remL_len S.l x.id; dsimp only; omega), by dsimp only; omega, hA5, hb1, ho9, hz9⟩ (by dsimp only; omega)) ⟨rfl, rfl, rfl, rfl, trivial⟩
        · refine Wp.seq ?_
          refine Wp.region ?_
          refine Ops.pv (pv_eql rfl rfl) rfl ?_
          refine Ops.pv (pv_assign rfl) rfl ?_
          refine Ops.nil ?_
          refine Ends.seq ?_
          first | refine Wp.cond_dect rfl (fun h18 => ?_) (fun h18 => ?_) | refine Wp.cond_t rfl (fun h18 => ?_) (fun h18 => ?_)
          · refine Wp.region ?_
            refine Ops.pv (pv_move rfl) rfl ?_
            first | refine Ops.pv (pv_fieldAddr0 rfl rfl) rfl ?_ | refine Ops.pv (pv_fieldAddr rfl rfl) rfl ?_
            first | refine Ops.pv (pv_load rfl rfl rfl) rfl ?_ | refine Ops.pv (pv_load rfl rfl (by assumption)) rfl ?_
            refine Ops.ef rfl (ef_call (tr_ntBind _ _ S hA (by omega) hb1 x.id) rfl rfl) ?_
            rintro _ _ ⟨_, _, ⟨rfl, hA6⟩, rfl, rfl⟩
            refine Ops.app ?_
            rw [bdS_eq S x.id] at hA6
            refine Ops.nil ?_
            refine Ends.block_normal ?_
            refine Ends.seq ?_
            refine Wp.seq ?_
            refine Wp.region ?_
            have ho9 : S.w = (⟨S.w, S.l, (bdS S x.id).b⟩ : Nt).w := rfl
            have hz9 : (⟨S.w, S.l, (bdS S x.id).b⟩ : Nt).l ≠ [] → (⟨S.w, S.l, (bdS S x.id).b⟩ : Nt).w = 0 := hsw
            refine Ops.pv (pv_move rfl) rfl ?_
            refine Ops.ef rfl (ef_call (tr_ntState _ _ (⟨S.w, S.l, (bdS S x.id).b⟩ : Nt) hA6 (by dsimp only; omega) ((bdS_len S x.id).2 hb1)) rfl rfl) ?_
            rintro _ _ ⟨_, _, ⟨w7, C7, rfl, hc7, rfl⟩, rfl, rfl⟩
            refine Ops.app ?_
            obtain ⟨p7, q7, rfl⟩ := hc7.form
            refine Ops.pv (pv_move rfl) rfl ?_
            refine Ops.pv (pv_extract rfl rfl) rfl ?_
            refine Ops.pv (pv_extract rfl rfl) rfl ?_
            refine Ops.pv (pv_assign rfl) rfl ?_
            refine Ops.pv (pv_assign rfl) rfl ?_
            refine Ops.nil ?_
            refine Ends.seq ?_
            refine Wp.seq ?_
            refine Wp.region ?_
            refine Ops.pv (pv_move rfl) rfl ?_
            refine Ops.pv (pv_move rfl) rfl ?_
            refine Ops.pv ((pv_neq rfl rfl).fls (by first | exact fun h => h rfl | decide | omega | assumption)) rfl ?_
            refine Ops.pv (pv_move rfl) rfl ?_
            refine Ops.pvg ⟨_, _, rfl, rfl, rfl⟩ (pv_move rfl) rfl ?_
            refine Ops.pvg ⟨_, _, rfl, rfl, rfl⟩ (pv_len_slice (T := 26) rfl rfl) rfl ?_
            refine Ops.pvg ⟨_, _, rfl, rfl, rfl⟩ (pv_gtr rfl rfl) rfl ?_
            refine Ops.pvg ⟨_, _, rfl, rfl, rfl⟩ (pv_move rfl) rfl ?_
            first | refine Ops.split (t := 105) rfl (fun h19 => ?_) (fun h19 => ?_) | refine Ops.splitb (t := 105) rfl (fun h19 => ?_) (fun h19 => ?_)
            · refine Ops.pvg ⟨_, _, rfl, rfl, rfl⟩ (pv_move rfl) rfl ?_
              refine Ops.pvg ⟨_, _, rfl, rfl, rfl⟩ (pv_neq rfl rfl) rfl ?_
              refine Ops.pvg ⟨_, _, rfl, rfl, rfl⟩ (pv_pick_true rfl rfl) rfl ?_
              refine Ops.pv (pv_pick_false rfl rfl) rfl ?_
              refine Ops.nil ?_
              refine Ends.seq ?_
              refine Wp.cond_dect rfl (fun hq9 => (by exfalso; refine hq9 (hz9 (fun e => ?_)); have h0 := ‹(0 : Int) < ((_ : List Int).length : Nat)›; rw [e] at h0; simp at h0)) (fun hq9 => ?_)
              refine Wp.skip ?_
              refine Ends.block_normal ?_
              refine Ends.seq ?_
              refine Wp.region ?_
              refine Ops.pv (pv_move rfl) rfl ?_
              first | refine Ops.pv (pv_add rfl rfl (w64 (by omega) (by omega))) rfl ?_ | refine Ops.pv (pv_add rfl rfl rfl) rfl ?_
              refine Ops.pv (pv_assign rfl) rfl ?_
              refine Ops.nil ?_
              refine Ends.goes ?_
              refine Goes.back (hK (i + 1, (⟨S.w, S.l, (bdS S x.id).b⟩ : Nt), _, S.w) ⟨(by dsimp only; omega), by dsimp only; omega, hA6, ((bdS_len S x.id).2 hb1), ho9, hz9⟩ (by dsimp only; omega)) ⟨rfl, rfl, rfl, rfl, trivial⟩
            · refine Ops.skipg ⟨_, _, rfl, rfl, rfl⟩ rfl ?_
              refine Ops.skipg ⟨_, _, rfl, rfl, rfl⟩ rfl ?_
              refine Ops.pvg ⟨_, _, rfl, rfl, rfl⟩ (pv_pick_false rfl rfl) rfl ?_
              refine Ops.pv (pv_pick_false rfl rfl) rfl ?_
              refine Ops.nil ?_
              refine Ends.seq ?_
              refine Wp.cond_false rfl ?_
              refine Wp.skip ?_
              refine Ends.block_normal ?_
              refine Ends.seq ?_
              refine Wp.region ?_
              refine Ops.pv (pv_move rfl) rfl ?_
              first | refine Ops.pv (pv_add rfl rfl (w64 (by omega) (by omega))) rfl ?_ | refine Ops.pv (pv_add rfl rfl rfl) rfl ?_
              refine Ops.pv (pv_assign rfl) rfl ?_
              refine Ops.nil ?_
              refine Ends.goes ?_
              refine Goes.back (hK (i + 1, (⟨S.w, S.l, (bdS S x.id).b⟩ : Nt), _, S.w) ⟨(by dsimp only; omega), by dsimp only; omega, hA6, ((bdS_len S x.id).2 hb1), ho9, hz9⟩ (by dsimp only; omega)) ⟨rfl, rfl, rfl, rfl, trivial⟩
          · refine Wp.seq ?_
            refine Wp.region ?_
            refine Ops.pv (pv_eql rfl rfl) rfl ?_
            refine Ops.pv (pv_assign rfl) rfl ?_
            refine Ops.nil ?_
            refine Ends.seq ?_
            first | refine Wp.cond_dect rfl (fun h21 => ?_) (fun h21 => ?_) | refine Wp.cond_t rfl (fun h21 => ?_) (fun h21 => ?_)
            · refine Wp.region ?_
              refine Ops.pv (pv_move rfl) rfl ?_
              refine Ops.ef rfl (ef_call (tr_ntUnbind _ _ S hA (by omega) hb1) rfl rfl) ?_
              rintro _ _ ⟨_, _, ⟨rfl, hA7⟩, rfl, rfl⟩
              refine Ops.app ?_
              refine Ops.nil ?_
              refine Ends.block_normal ?_
              refine Ends.seq ?_
              refine Wp.seq ?_
              refine Wp.region ?_
              have ho9 : S.w = (⟨S.w, S.l, S.b.tail⟩ : Nt).w := rfl
              have hz9 : (⟨S.w, S.l, S.b.tail⟩ : Nt).l ≠ [] → (⟨S.w, S.l, S.b.tail⟩ : Nt).w = 0 := hsw
              refine Ops.pv (pv_move rfl) rfl ?_
              refine Ops.ef rfl (ef_call (tr_ntState _ _ (⟨S.w, S.l, S.b.tail⟩ : Nt) hA7 (by dsimp only; omega) (by dsimp only; simp; omega)) rfl rfl) ?_
              rintro _ _ ⟨_, _, ⟨w8, C8, rfl, hc8, rfl⟩, rfl, rfl⟩
              refine Ops.app ?_
              obtain ⟨p8, q8, rfl⟩ := hc8.form
              refine Ops.pv (pv_move rfl) rfl ?_
              refine Ops.pv (pv_extract rfl rfl) rfl ?_
              refine Ops.pv (pv_extract rfl rfl) rfl ?_
              refine Ops.pv (pv_assign rfl) rfl ?_
              refine Ops.pv (pv_assign rfl) rfl ?_
              refine Ops.nil ?_
              refine Ends.seq ?_
              refine Wp.seq ?_
              refine Wp.region ?_
              refine Ops.pv (pv_move rfl) rfl ?_
              refine Ops.pv (pv_move rfl) rfl ?_
              refine Ops.pv ((pv_neq rfl rfl).fls (by first | exact fun h => h rfl | decide | omega | assumption)) rfl ?_
              refine Ops.pv (pv_move rfl) rfl ?_
              refine Ops.pvg ⟨_, _, rfl, rfl, rfl⟩ (pv_move rfl) rfl ?_
              refine Ops.pvg ⟨_, _, rfl, rfl, rfl⟩ (pv_len_slice (T := 26) rfl rfl) rfl ?_
              refine Ops.pvg ⟨_, _, rfl, rfl, rfl⟩ (pv_gtr rfl rfl) rfl ?_
              refine Ops.pvg ⟨_, _, rfl, rfl, rfl⟩ (pv_move rfl) rfl ?_
              first | refine Ops.split (t := 105) rfl (fun h22 => ?_) (fun h22 => ?_) | refine Ops.splitb (t := 105) rfl (fun h22 => ?_) (fun h22 => ?_)
              · refine Ops.pvg ⟨_, _, rfl, rfl, rfl⟩ (pv_move rfl) rfl ?_
                refine Ops.pvg ⟨_, _, rfl, rfl, rfl⟩ (pv_neq rfl rfl) rfl ?_
                refine Ops.pvg ⟨_, _, rfl, rfl, rfl⟩ (pv_pick_true rfl rfl) rfl ?_
                refine Ops.pv (pv_pick_false rfl rfl) rfl ?_
                refine Ops.nil ?_
                refine Ends.seq ?_
                refine Wp.cond_dect rfl (fun hq9 => (by exfalso; refine hq9 (hz9 (fun e => ?_)); have h0 := ‹(0 : Int) < ((_ : List Int).length : Nat)›; rw [e] at h0; simp at h0)) (fun hq9 => ?_)
                refine Wp.skip ?_
                refine Ends.block_normal ?_
                refine Ends.seq ?_
                refine Wp.region ?_
                refine Ops.pv (pv_move rfl) rfl ?_
                first | refine Ops.pv (pv_add rfl rfl (w64 (by omega) (by omega))) rfl ?_ | refine Ops.pv (pv_add rfl rfl rfl) rfl ?_
                refine Ops.pv (pv_assign rfl) rfl ?_
                refine Ops.nil ?_
                refine Ends.goes ?_
                refine Goes.back (hK (i + 1, (⟨S.w, S.l, S.b.tail⟩ : Nt), _, S.w) ⟨(by dsimp only; omega), by dsimp only; omega, hA7, (by dsimp only; simp; omega), ho9, hz9⟩ (by dsimp only; omega)) ⟨rfl, rfl, rfl, rfl, trivial⟩
              · refine Ops.skipg ⟨_, _, rfl, rfl, rfl⟩ rfl ?_
                refine Ops.skipg ⟨_, _, rfl, rfl, rfl⟩ rfl ?_
                refine Ops.pvg ⟨_, _, rfl, rfl, rfl⟩ (pv_pick_false rfl rfl) rfl ?_
                refine Ops.pv (pv_pick_false rfl rfl) rfl ?_
                refine Ops.nil ?_
                refine Ends.seq ?_
                refine Wp.cond_false rfl ?_
                refine Wp.skip ?_
                refine Ends.block_normal ?_
                refine Ends.seq ?_
                refine Wp.region ?_
                refine Ops.pv (pv_move rfl) rfl ?_
                first | refine Ops.pv (pv_add rfl rfl (w64 (by omega) (by omega))) rfl ?_ | refine Ops.pv (pv_add rfl rfl rfl) rfl ?_
                refine Ops.pv (pv_assign rfl) rfl ?_
                refine Ops.nil ?_
                refine Ends.goes ?_
                refine Goes.back (hK (i + 1, (⟨S.w, S.l, S.b.tail⟩ : Nt), _, S.w) ⟨(by dsimp only; omega), by dsimp only; omega, hA7, (by dsimp only; simp; omega), ho9, hz9⟩ (by dsimp only; omega)) ⟨rfl, rfl, rfl, rfl, trivial⟩
            · refine Wp.skip ?_
              refine Ends.block_normal ?_
              refine Ends.seq ?_
              refine Wp.seq ?_
              refine Wp.region ?_
              have ho9 : S.w = S.w := rfl
              have hz9 : S.l ≠ [] → S.w = 0 := hsw
              refine Ops.pv (pv_move rfl) rfl ?_
              refine Ops.ef rfl (ef_call (tr_ntState _ _ S hA (by omega) hb1) rfl rfl) ?_
              rintro _ _ ⟨_, _, ⟨w9, C9, rfl, hc9, rfl⟩, rfl, rfl⟩
              refine Ops.app ?_
              obtain ⟨p9, q9, rfl⟩ := hc9.form
              refine Ops.pv (pv_move rfl) rfl ?_
              refine Ops.pv (pv_extract rfl rfl) rfl ?_
              refine Ops.pv (pv_extract rfl rfl) rfl ?_
              refine Ops.pv (pv_assign rfl) rfl ?_
              refine Ops.pv (pv_assign rfl) rfl ?_
              refine Ops.nil ?_
              refine Ends.seq ?_
              refine Wp.seq ?_
              refine Wp.region ?_
              refine Ops.pv (pv_move rfl) rfl ?_
              refine Ops.pv (pv_move rfl) rfl ?_
              refine Ops.pv ((pv_neq rfl rfl).fls (by first | exact fun h => h rfl | decide | omega | assumption)) rfl ?_
              refine Ops.pv (pv_move rfl) rfl ?_
              refine Ops.pvg ⟨_, _, rfl, rfl, rfl⟩ (pv_move rfl) rfl ?_
              refine Ops.pvg ⟨_, _, rfl, rfl, rfl⟩ (pv_len_slice (T := 26) rfl rfl) rfl ?_
              refine Ops.pvg ⟨_, _, rfl, rfl, rfl⟩ (pv_gtr rfl rfl) rfl ?_
              refine Ops.pvg ⟨_, _, rfl, rfl, rfl⟩ (pv_move rfl) rfl ?_
              first | refine Ops.split (t := 105) rfl (fun h24 => ?_) (fun h24 => ?_) | refine Ops.splitb (t := 105) rfl (fun h24 => ?_) (fun h24 => ?_)
              · refine Ops.pvg ⟨_, _, rfl, rfl, rfl⟩ (pv_move rfl) rfl ?_
                refine Ops.pvg ⟨_, _, rfl, rfl, rfl⟩ (pv_neq rfl rfl) rfl ?_
                refine Ops.pvg ⟨_, _, rfl, rfl, rfl⟩ (pv_pick_true rfl rfl) rfl ?_
                refine Ops.pv (pv_pick_false rfl rfl) rfl ?_
                refine Ops.nil ?_
                refine Ends.seq ?_
                refine Wp.cond_dect rfl (fun hq9 => (by exfalso; refine hq9 (hz9 (fun e => ?_)); have h0 := ‹(0 : Int) < ((_ : List Int).length : Nat)›; rw [e] at h0; simp at h0)) (fun hq9 => ?_)
                refine Wp.skip ?_
                refine Ends.block_normal ?_
                refine Ends.seq ?_
                refine Wp.region ?_
                refine Ops.pv (pv_move rfl) rfl ?_
                first | refine Ops.pv (pv_add rfl rfl (w64 (by omega) (by omega))) rfl ?_ | refine Ops.pv (pv_add rfl rfl rfl) rfl ?_
                refine Ops.pv (pv_assign rfl) rfl ?_
                refine Ops.nil ?_
                refine Ends.goes ?_
                refine Goes.back (hK (i + 1, S, _, S.w) ⟨(by dsimp only; omega), by dsimp only; omega, hA, hb1, ho9, hz9⟩ (by dsimp only; omega)) ⟨rfl, rfl, rfl, rfl, trivial⟩
              · refine Ops.skipg ⟨_, _, rfl, rfl, rfl⟩ rfl ?_
                refine Ops.skipg ⟨_, _, rfl, rfl, rfl⟩ rfl ?_
                refine Ops.pvg ⟨_, _, rfl, rfl, rfl⟩ (pv_pick_false rfl rfl) rfl ?_
                refine Ops.pv (pv_pick_false rfl rfl) rfl ?_
                refine Ops.nil ?_
                refine Ends.seq ?_
                refine Wp.cond_false rfl ?_
                refine Wp.skip ?_
                refine Ends.block_normal ?_
                refine Ends.seq ?_
                refine Wp.region ?_
                refine Ops.pv (pv_move rfl) rfl ?_
                first | refine Ops.pv (pv_add rfl rfl (w64 (by omega) (by omega))) rfl ?_ | refine Ops.pv (pv_add rfl rfl rfl) rfl ?_
                refine Ops.pv (pv_assign rfl) rfl ?_
                refine Ops.nil ?_
                refine Ends.goes ?_
                refine Goes.back (hK (i + 1, S, _, S.w) ⟨(by dsimp only; omega), by dsimp only; omega, hA, hb1, ho9, hz9⟩ (by dsimp only; omega)) ⟨rfl, rfl, rfl, rfl, trivial⟩
  · refine Wp.exit ?_
    refine Ends.then_exit ?_
    refine Ends.then_exit ?_
    refine Ends.block_hit ?_
    refine Ends.seq ?_
    refine Wp.seq ?_
    refine Wp.region ?_
    refine Ops.pv (pv_assign rfl) rfl ?_
    refine Ops.nil ?_
    refine Ends.seq ?_
    refine Wp.ret ?_
    exact Ends.ret (res1 rfl rfl) ⟨rfl, rfl⟩

set_option maxHeartbeats 4000000 in
theorem tr_noticeOnce (G : Hp) (a : Option Addr) (c : Nat) (l : List Int) (ha : ArgS G 1 a (l.map fun x => [Value.int .u64 x])) (hol : l.length ≤ maxLen) (n : Int) : TrR Try.prog 11 [.slice a l.length c, .int .i64 n] (G) (.bool true) := by
  refine Tr.enter Try.func11 rfl Try.ntmps11 rfl (fun W F => ?_)
  refine Wp.app ?_
  refine Wp.seq ?_
  refine Wp.region ?_
  refine Ops.pv (pv_assign rfl) rfl ?_
  refine Ops.nil ?_
  refine Ends.seq ?_
  refine Wp.seq ?_
  refine Wp.seq ?_
  refine Wp.region ?_
  refine Ops.ef rfl (ef_callr (tr_works19) rfl rfl) ?_
  rintro _ _ ⟨rfl, rfl⟩
  first | refine Ops.pv (pv_not_dec rfl) rfl ?_ | refine Ops.pv (pv_not rfl) rfl ?_
  refine Ops.nil ?_
  refine Ends.seq ?_
  refine Wp.cond_false rfl ?_
  refine Wp.skip ?_
  refine Ends.seq ?_
  refine Wp.seq ?_
  refine Wp.region ?_
  refine Ops.ef rfl (ef_call (tr_ntNew) rfl rfl) ?_
  rintro _ _ ⟨_, _, ⟨nb1, rfl, hZ1⟩, rfl, rfl⟩
  refine Ops.app ?_
  refine Ops.pv (pv_assign rfl) rfl ?_
  refine Ops.nil ?_
  refine Ends.seq ?_
  refine Wp.seq ?_
  refine Wp.region ?_
  refine Ops.pv (pv_assign rfl) rfl ?_
  refine Ops.nil ?_
  refine Ends.seq ?_
  refine Wp.seq ?_
  refine Wp.seq ?_
  refine Wp.region ?_
  refine Ops.pv (pv_assign rfl) rfl ?_
  refine Ops.nil ?_
  refine Ends.seq ?_
  refine Wp.block ?_
  refine Wp.loopK (σ := Nat × Int × Hp) [(0, _), (1, _), (5, _)] (fun s => [(6, .int .u64 s.2.1), (7, .int .i64 s.1)]) (fun s => s.2.2 ++ (G ++ F)) (fun s => s.1 ≤ 40 ∧ NtH ⟨s.2.1, [], []⟩ nb1 s.2.2) (fun s => l.length - s.1) (0, 0, _) ⟨Nat.zero_le _, hZ1⟩ ⟨rfl, rfl, rfl, trivial⟩ ⟨rfl, rfl, trivial⟩ (by intro w ho; (try dsimp only [List.nil_append, List.cons_append]); exact Drop.own ho) ?_
  rintro ⟨i, w, H⟩ KK ⟨hi, hA⟩ hK
  dsimp only [List.cons_append, List.nil_append] at hK ⊢
  dsimp only at hi hA ⊢
  refine Wp.seq ?_
  refine Wp.seq ?_
  refine Wp.region ?_
  refine Ops.pv (pv_move rfl) rfl ?_
  refine Ops.pv (pv_move rfl) rfl ?_
  refine Ops.pv (pv_len_slice (T := 68) rfl rfl) rfl ?_
  refine Ops.pv (pv_lss rfl rfl) rfl ?_
  refine Ops.pv (pv_move rfl) rfl ?_
  refine Ops.pvc rfl rfl (fun hg => pv_move rfl) rfl ?_
  refine Ops.pvc rfl rfl (fun hg => Pv.setE (t := 31) rfl (cv_pos hg) (pv_lss rfl rfl)) rfl ?_
  refine Ops.pv (pv_pick_and rfl rfl) rfl ?_
  refine Ops.nil ?_
  refine Ends.seq ?_
  first | refine Wp.cond_dect rfl (fun h1 => ?_) (fun h1 => ?_) | refine Wp.cond_t rfl (fun h1 => ?_) (fun h1 => ?_)
  · obtain ⟨x, hq⟩ : ∃ x, l[i]? = some x := ⟨_, List.getElem?_eq_getElem (by omega)⟩
    obtain ⟨_, b, o, cc, T, f, rfl, hm, hr⟩ := ha i [.int .u64 x] (by rw [List.getElem?_map, hq]; rfl)
    have hbg : Blk G b (.cells cc.toArray T f) := ⟨hm⟩
    obtain ⟨r0, _⟩ := hr
    refine Wp.skip ?_
    refine Ends.seq ?_
    refine Wp.seq ?_
    refine Wp.block ?_
    refine Wp.seq ?_
    refine Wp.region ?_
    refine Ops.pv (pv_move rfl) rfl ?_
    refine Ops.pv (pv_move rfl) rfl ?_
    refine Ops.pv (pv_move rfl) rfl ?_
    refine Ops.pv (pv_indexAddr rfl rfl rfl (by omega)) rfl ?_
    refine Ops.pv (pv_load rfl rfl r0) rfl ?_
    refine Ops.ef rfl (ef_call (tr_ntSignal _ _ (⟨w, [], []⟩ : Nt) hA (by simp) (by simp) x false) rfl rfl) ?_
    rintro _ _ ⟨_, _, ⟨rfl, hA1⟩, rfl, rfl⟩
    refine Ops.app ?_
    obtain ⟨g1, g2, g3, g4⟩ := sg_none (S := (⟨w, [], []⟩ : Nt)) x (bound := false) rfl (by simp)
    rw [g1, g2, g3]
    rw [g4] at hA1
    refine Ops.pv (pv_move rfl) rfl ?_
    refine Ops.pv (pv_extract rfl rfl) rfl ?_
    refine Ops.pv (pv_extract rfl rfl) rfl ?_
    refine Ops.pv (pv_extract rfl rfl) rfl ?_
    refine Ops.pv (pv_assign rfl) rfl ?_
    refine Ops.pv (pv_assign rfl) rfl ?_
    refine Ops.pv (pv_assign rfl) rfl ?_
    refine Ops.nil ?_
    refine Ends.seq ?_
    refine Wp.seq ?_
    refine Wp.seq ?_
    refine Wp.region ?_
    refine Ops.pv (pv_move rfl) rfl ?_
    refine Ops.nil ?_
    refine Ends.seq ?_
    refine Wp.cond_false rfl ?_
    refine Wp.skip ?_
    refine Ends.seq ?_
    refine Wp.region ?_
    refine Ops.pv (pv_move rfl) rfl ?_
    refine Ops.pv (pv_move rfl) rfl ?_
    refine Ops.pv (pv_move rfl) rfl ?_
    refine Ops.pv (pv_indexAddr rfl rfl rfl (by omega)) rfl ?_
    refine Ops.pv (pv_load rfl rfl r0) rfl ?_
    refine Ops.pv (pv_or rfl rfl rfl) rfl ?_
    refine Ops.pv (pv_assign rfl) rfl ?_
    refine Ops.nil ?_
    refine Ends.block_normal ?_
    refine Ends.seq ?_
    refine Wp.region ?_
    refine Ops.pv (pv_move rfl) rfl ?_
    first | refine Ops.pv (pv_add rfl rfl (w64 (by omega) (by omega))) rfl ?_ | refine Ops.pv (pv_add rfl rfl rfl) rfl ?_
    refine Ops.pv (pv_assign rfl) rfl ?_
    refine Ops.nil ?_
    refine Ends.goes ?_
    refine Goes.back (hK (i + 1, orI w x, _) ⟨by dsimp only; omega, hA1⟩ (by dsimp only; omega)) ⟨rfl, rfl, rfl, rfl, rfl, trivial⟩
  · refine Wp.exit ?_
    refine Ends.then_exit ?_
    refine Ends.then_exit ?_
    refine Ends.block_hit ?_
    refine Ends.seq ?_
    refine Wp.seq ?_
    refine Wp.region ?_
    refine Ops.pv (pv_move rfl) rfl ?_
    refine Ops.ef rfl (ef_call (tr_ntWait _ _ (⟨w, [], []⟩ : Nt) hA (by simp) (by simp) 1 false) rfl rfl) ?_
    rintro _ _ ⟨_, _, ⟨rfl, hA2⟩, rfl, rfl⟩
    refine Ops.app ?_
    rw [show wtW (⟨w, [], []⟩ : Nt) 1 = w from rfl, show wtB (⟨w, [], []⟩ : Nt) 1 = decide (w ≠ 0) from (wt_ok rfl).2, show wtE (⟨w, [], []⟩ : Nt) 1 = 0 from rfl]
    rw [show wtS (⟨w, [], []⟩ : Nt) 1 false = ⟨0, [], []⟩ from (wt_takes rfl (by simp)).2.2] at hA2
    refine Ops.pv (pv_move rfl) rfl ?_
    refine Ops.pv (pv_extract rfl rfl) rfl ?_
    refine Ops.pv (pv_extract rfl rfl) rfl ?_
    refine Ops.pv (pv_extract rfl rfl) rfl ?_
    refine Ops.pv (pv_assign rfl) rfl ?_
    refine Ops.pv (pv_assign rfl) rfl ?_
    refine Ops.pv (pv_assign rfl) rfl ?_
    refine Ops.nil ?_
    refine Ends.seq ?_
    refine Wp.seq ?_
    refine Wp.seq ?_
    refine Wp.region ?_
    refine Ops.pv (pv_move rfl) rfl ?_
    refine Ops.pv ((pv_neq rfl rfl).fls (by first | exact fun h => h rfl | decide | omega | assumption)) rfl ?_
    refine Ops.pv (pv_move rfl) rfl ?_
    refine Ops.pvg ⟨_, _, rfl, rfl, rfl⟩ (pv_move rfl) rfl ?_
    refine Ops.pvg ⟨_, _, rfl, rfl, rfl⟩ (pv_move rfl) rfl ?_
    refine Ops.pvg ⟨_, _, rfl, rfl, rfl⟩ ((pv_neq rfl rfl).fls (by first | exact fun h => h rfl | decide | omega | assumption)) rfl ?_
    refine Ops.pv (pv_pick_false rfl rfl) rfl ?_
    refine Ops.pv (pv_move rfl) rfl ?_
    refine Ops.pvg ⟨_, _, rfl, rfl, rfl⟩ (pv_move rfl) rfl ?_
    refine Ops.pvg ⟨_, _, rfl, rfl, rfl⟩ (pv_move rfl) rfl ?_
    refine Ops.pvg ⟨_, _, rfl, rfl, rfl⟩ (pv_neq rfl rfl) rfl ?_
    refine Ops.pvg ⟨_, _, rfl, rfl, rfl⟩ ((pv_neq_bool rfl rfl).is (u := .bool false) (by first | rfl | (simp; done) | simp_all)) rfl ?_
    refine Ops.pv (pv_pick_false rfl rfl) rfl ?_
    refine Ops.nil ?_
    refine Ends.seq ?_
    refine Wp.cond_false rfl ?_
    refine Wp.skip ?_
    refine Ends.seq ?_
    refine Wp.seq ?_
    refine Wp.region ?_
    refine Ops.pv (pv_move rfl) rfl ?_
    refine Ops.pv (pv_conv rfl (uI_eq _)) rfl ?_
    refine Ops.pv (pv_rem rfl rfl (by omega) (tmod_nat (b := 20) rfl)) rfl ?_
    refine Ops.pv (pv_conv rfl (w64n rfl (by omega))) rfl ?_
    refine Ops.pv (pv_assign rfl) rfl ?_
    refine Ops.nil ?_
    refine Ends.seq ?_
    refine Wp.seq ?_
    refine Wp.seq ?_
    refine Wp.region ?_
    obtain ⟨n0, hn0, hn30⟩ : ∃ n0 : Nat, uI n % 20 = n0 ∧ n0 < 20 := ⟨_, rfl, Nat.mod_lt _ (by omega)⟩
    rw [hn0]
    refine Ops.pv (pv_assign rfl) rfl ?_
    refine Ops.nil ?_
    refine Ends.seq ?_
    refine Wp.block ?_
    refine Wp.loopK (σ := Nat × Hp) [(1, _), (5, _)] (fun s => [(14, .int .i64 s.1)]) (fun s => s.2 ++ (G ++ F)) (fun s => s.1 ≤ n0 ∧ NtH ⟨0, seg 0 s.1, []⟩ nb1 s.2) (fun s => n0 - s.1) (0, _) ⟨Nat.zero_le _, hA2⟩ ⟨rfl, rfl, trivial⟩ ⟨rfl, trivial⟩ (by intro w ho; (try dsimp only [List.nil_append, List.cons_append]); exact Drop.own ho) ?_
    rintro ⟨i, H⟩ KK ⟨hi, hA⟩ hK
    dsimp only [List.cons_append, List.nil_append] at hK ⊢
    dsimp only at hi hA ⊢
    refine Wp.seq ?_
    refine Wp.seq ?_
    refine Wp.region ?_
    refine Ops.pv (pv_move rfl) rfl ?_
    refine Ops.pv (pv_move rfl) rfl ?_
    refine Ops.pv (pv_lss rfl rfl) rfl ?_
    refine Ops.nil ?_
    refine Ends.seq ?_
    first | refine Wp.cond_dect rfl (fun h2 => ?_) (fun h2 => ?_) | refine Wp.cond_t rfl (fun h2 => ?_) (fun h2 => ?_)
    · refine Wp.skip ?_
      refine Ends.seq ?_
      refine Wp.seq ?_
      refine Wp.block ?_
      refine Wp.seq ?_
      refine Wp.region ?_
      refine Ops.pv (pv_move rfl) rfl ?_
      refine Ops.pv (pv_move rfl) rfl ?_
      refine Ops.ef rfl (ef_call (tr_ntWait _ _ ⟨0, seg 0 i, []⟩ hA (by dsimp only; rw [seg_len]; omega) (by simp) i true) rfl rfl) ?_
      rintro _ _ ⟨_, _, ⟨rfl, hA3⟩, rfl, rfl⟩
      refine Ops.app ?_
      obtain ⟨g1, g2, g3⟩ := nt_put (w := 0) (i := i) (by omega)
      rw [g3, show wtE (⟨0, seg 0 i, []⟩ : Nt) i = 0 from g1]
      rw [g2] at hA3
      refine Ops.pv (pv_move rfl) rfl ?_
      refine Ops.pv (pv_extract rfl rfl) rfl ?_
      refine Ops.pv (pv_extract rfl rfl) rfl ?_
      refine Ops.pv (pv_extract rfl rfl) rfl ?_
      refine Ops.pv (pv_assign rfl) rfl ?_
      refine Ops.pv (pv_assign rfl) rfl ?_
      refine Ops.pv (pv_assign rfl) rfl ?_
      refine Ops.nil ?_
      refine Ends.seq ?_
      refine Wp.seq ?_
      refine Wp.region ?_
      refine Ops.pv (pv_move rfl) rfl ?_
      refine Ops.pv (pv_move rfl) rfl ?_
      refine Ops.pvg ⟨_, _, rfl, rfl, rfl⟩ (pv_move rfl) rfl ?_
      refine Ops.pvg ⟨_, _, rfl, rfl, rfl⟩ ((pv_neq rfl rfl).fls (by first | exact fun h => h rfl | decide | omega | assumption)) rfl ?_
      refine Ops.pv (pv_pick_false rfl rfl) rfl ?_
      refine Ops.nil ?_
      refine Ends.seq ?_
      refine Wp.cond_false rfl ?_
      refine Wp.skip ?_
      refine Ends.block_normal ?_
      refine Ends.seq ?_
      refine Wp.region ?_
      refine Ops.pv (pv_move rfl) rfl ?_
      first | refine Ops.pv (pv_add rfl rfl (w64 (by omega) (by omega))) rfl ?_ | refine Ops.pv (pv_add rfl rfl rfl) rfl ?_
      refine Ops.pv (pv_assign rfl) rfl ?_
      refine Ops.nil ?_
      refine Ends.goes ?_
      refine Goes.back (hK (i + 1, _) ⟨by dsimp only; omega, hA3⟩ (by dsimp only; omega)) ⟨rfl, rfl, rfl, trivial⟩
    · refine Wp.exit ?_
      refine Ends.then_exit ?_
      refine Ends.then_exit ?_
      refine Ends.block_hit ?_
      refine Ends.seq ?_
      refine Wp.seq ?_
      refine Wp.seq ?_
      refine Wp.region ?_
      refine Ops.pv (pv_assign rfl) rfl ?_
      refine Ops.nil ?_
      refine Ends.seq ?_
      refine Wp.block ?_
      have hin : n0 = i := by omega
      subst hin
      refine Wp.loopK (σ := Nat × Hp) [(1, _), (5, _)] (fun s => [(18, .int .i64 s.1)]) (fun s => s.2 ++ (G ++ F)) (fun s => s.1 ≤ n0 ∧ NtH ⟨0, seg s.1 n0, []⟩ nb1 s.2) (fun s => n0 - s.1) (0, _) ⟨Nat.zero_le _, hA⟩ ⟨rfl, rfl, trivial⟩ ⟨rfl, trivial⟩ (by intro w ho; (try dsimp only [List.nil_append, List.cons_append]); exact Drop.own ho) ?_
      rintro ⟨i, H⟩ KK ⟨hi, hA⟩ hK
      dsimp only [List.cons_append, List.nil_append] at hK ⊢
      dsimp only at hi hA ⊢
      refine Wp.seq ?_
      refine Wp.seq ?_
      refine Wp.region ?_
      refine Ops.pv (pv_move rfl) rfl ?_
      refine Ops.pv (pv_move rfl) rfl ?_
      refine Ops.pv (pv_lss rfl rfl) rfl ?_
      refine Ops.nil ?_
      refine Ends.seq ?_
      first | refine Wp.cond_dect rfl (fun h3 => ?_) (fun h3 => ?_) | refine Wp.cond_t rfl (fun h3 => ?_) (fun h3 => ?_)
      · refine Wp.skip ?_
        refine Ends.seq ?_
        refine Wp.seq ?_
        refine Wp.block ?_
        refine Wp.seq ?_
        refine Wp.region ?_
        refine Ops.pv (pv_move rfl) rfl ?_
        refine Ops.pv (pv_move rfl) rfl ?_
        refine Ops.pv (pv_conv rfl (u64n (k := i) rfl (by omega))) rfl ?_
        refine Ops.ef rfl (ef_call (tr_ntSignal _ _ ⟨0, seg i n0, []⟩ hA (by dsimp only; rw [seg_len]; omega) (by simp) i false) rfl rfl) ?_
        rintro _ _ ⟨_, _, ⟨rfl, hA4⟩, rfl, rfl⟩
        refine Ops.app ?_
        obtain ⟨g1, g2, g3, g4⟩ := nt_sig (i := i) (n := n0) i (by omega)
        rw [g1, g2, g3]
        rw [g4] at hA4
        refine Ops.pv (pv_move rfl) rfl ?_
        refine Ops.pv (pv_extract rfl rfl) rfl ?_
        refine Ops.pv (pv_extract rfl rfl) rfl ?_
        refine Ops.pv (pv_extract rfl rfl) rfl ?_
        refine Ops.pv (pv_assign rfl) rfl ?_
        refine Ops.pv (pv_assign rfl) rfl ?_
        refine Ops.pv (pv_assign rfl) rfl ?_
        refine Ops.nil ?_
        refine Ends.seq ?_
        refine Wp.seq ?_
        refine Wp.region ?_
        refine Ops.pv (pv_move rfl) rfl ?_
        first | refine Ops.pv (pv_not_dec rfl) rfl ?_ | refine Ops.pv (pv_not rfl) rfl ?_
        refine Ops.pv (pv_move rfl) rfl ?_
        refine Ops.pvg ⟨_, _, rfl, rfl, rfl⟩ (pv_move rfl) rfl ?_
        refine Ops.pvg ⟨_, _, rfl, rfl, rfl⟩ (pv_move rfl) rfl ?_
        refine Ops.pvg ⟨_, _, rfl, rfl, rfl⟩ ((pv_neq rfl rfl).fls (by first | exact fun h => h rfl | decide | omega | assumption)) rfl ?_
        refine Ops.pv (pv_pick_false rfl rfl) rfl ?_
        refine Ops.pv (pv_move rfl) rfl ?_
        refine Ops.pvg ⟨_, _, rfl, rfl, rfl⟩ (pv_move rfl) rfl ?_
        refine Ops.pvg ⟨_, _, rfl, rfl, rfl⟩ (pv_move rfl) rfl ?_
        refine Ops.pvg ⟨_, _, rfl, rfl, rfl⟩ (pv_conv rfl (u64n (k := i) rfl (by omega))) rfl ?_
        refine Ops.pvg ⟨_, _, rfl, rfl, rfl⟩ ((pv_neq rfl rfl).fls (by first | exact fun h => h rfl | decide | omega | assumption)) rfl ?_
        refine Ops.pv (pv_pick_false rfl rfl) rfl ?_
        refine Ops.nil ?_
        refine Ends.seq ?_
        refine Wp.cond_false rfl ?_
        refine Wp.skip ?_
        refine Ends.block_normal ?_
        refine Ends.seq ?_
        refine Wp.region ?_
        refine Ops.pv (pv_move rfl) rfl ?_
        first | refine Ops.pv (pv_add rfl rfl (w64 (by omega) (by omega))) rfl ?_ | refine Ops.pv (pv_add rfl rfl rfl) rfl ?_
        refine Ops.pv (pv_assign rfl) rfl ?_
        refine Ops.nil ?_
        refine Ends.goes ?_
        refine Goes.back (hK (i + 1, _) ⟨by dsimp only; omega, hA4⟩ (by dsimp only; omega)) ⟨rfl, rfl, rfl, trivial⟩
      · refine Wp.exit ?_
        refine Ends.then_exit ?_
        refine Ends.then_exit ?_
        refine Ends.block_hit ?_
        refine Ends.seq ?_
        refine Wp.seq ?_
        refine Wp.region ?_
        rw [show seg i n0 = [] from seg_nil (by omega)] at hA
        refine Ops.pv (pv_move rfl) rfl ?_
        refine Ops.ef rfl (ef_call (tr_ntState _ _ ⟨0, [], []⟩ hA (by simp) (by simp)) rfl rfl) ?_
        rintro _ _ ⟨_, _, ⟨w1, C1, rfl, hc1, rfl⟩, rfl, rfl⟩
        refine Ops.app ?_
        obtain ⟨p1, q1, rfl⟩ := hc1.form
        refine Ops.pv (pv_move rfl) rfl ?_
        refine Ops.pv (pv_extract rfl rfl) rfl ?_
        refine Ops.pv (pv_extract rfl rfl) rfl ?_
        refine Ops.pv (pv_assign rfl) rfl ?_
        refine Ops.pv (pv_assign rfl) rfl ?_
        refine Ops.nil ?_
        refine Ends.seq ?_
        refine Wp.seq ?_
        refine Wp.region ?_
        refine Ops.pv (pv_move rfl) rfl ?_
        refine Ops.pv ((pv_eql rfl rfl).tru (by first | rfl | decide | omega | assumption | (simp; done) | (simp; omega))) rfl ?_
        refine Ops.pv (pv_move rfl) rfl ?_
        refine Ops.pvg ⟨_, _, rfl, rfl, rfl⟩ (pv_move rfl) rfl ?_
        refine Ops.pvg ⟨_, _, rfl, rfl, rfl⟩ (pv_len_slice (T := 26) rfl rfl) rfl ?_
        refine Ops.pvg ⟨_, _, rfl, rfl, rfl⟩ ((pv_eql rfl rfl).tru (by first | rfl | decide | omega | assumption | (simp; done) | (simp; omega))) rfl ?_
        refine Ops.pv (pv_pick_true rfl rfl) rfl ?_
        refine Ops.pv (pv_assign rfl) rfl ?_
        refine Ops.nil ?_
        refine Ends.seq ?_
        refine Wp.ret ?_
        exact Ends.ret (res1 rfl rfl) ⟨rfl, rfl⟩

set_option maxHeartbeats 4000000 in
theorem tr_noticeBound (id : Int) (G : Hp) (a : Option Addr) (c : Nat) (l : List Int) (ha : ArgS G 1 a (l.map fun x => [Value.int .u64 x])) (hol : l.length ≤ maxLen) (wt : Bool) : TrR Try.prog 12 [.int .i64 id, .slice a l.length c, .bool wt] (G) (.bool true) := by
  refine Tr.enter Try.func12 rfl Try.ntmps12 rfl (fun W F => ?_)
  refine Wp.app ?_
  refine Wp.seq ?_
  refine Wp.region ?_
  refine Ops.pv (pv_assign rfl) rfl ?_
  refine Ops.nil ?_
  refine Ends.seq ?_
  refine Wp.seq ?_
  refine Wp.seq ?_
  refine Wp.region ?_
  refine Ops.ef rfl (ef_callr (tr_works19) rfl rfl) ?_
  rintro _ _ ⟨rfl, rfl⟩
  first | refine Ops.pv (pv_not_dec rfl) rfl ?_ | refine Ops.pv (pv_not rfl) rfl ?_
  refine Ops.nil ?_
  refine Ends.seq ?_
  refine Wp.cond_false rfl ?_
  refine Wp.skip ?_
  refine Ends.seq ?_
  refine Wp.seq ?_
  refine Wp.region ?_
  refine Ops.pv (pv_move rfl) rfl ?_
  refine Ops.pv (pv_conv rfl (uI_eq _)) rfl ?_
  refine Ops.pv (pv_rem rfl rfl (by omega) (tmod_nat (b := 64) rfl)) rfl ?_
  refine Ops.pv (pv_conv rfl (w64n rfl (by omega))) rfl ?_
  refine Ops.pv (pv_assign rfl) rfl ?_
  refine Ops.nil ?_
  refine Ends.seq ?_
  refine Wp.seq ?_
  refine Wp.region ?_
  obtain ⟨y0, hy0, hy1⟩ : ∃ y0 : Int, ((uI id % 64 : Nat) : Int) = y0 ∧ pushE [] y0 = 0 := ⟨_, rfl, right_mod id⟩
  rw [hy0]
  refine Ops.ef rfl (ef_call (tr_ntNew) rfl rfl) ?_
  rintro _ _ ⟨_, _, ⟨nb1, rfl, hZ1⟩, rfl, rfl⟩
  refine Ops.app ?_
  refine Ops.pv (pv_assign rfl) rfl ?_
  refine Ops.nil ?_
  refine Ends.seq ?_
  refine Wp.seq ?_
  refine Wp.region ?_
  refine Ops.pv (pv_assign rfl) rfl ?_
  refine Ops.nil ?_
  refine Ends.seq ?_
  refine Wp.seq ?_
  refine Wp.seq ?_
  refine Wp.region ?_
  refine Ops.pv (pv_assign rfl) rfl ?_
  refine Ops.nil ?_
  refine Ends.seq ?_
  refine Wp.block ?_
  refine Wp.loopK (σ := Nat × Int × Hp) [(0, _), (1, _), (2, _), (7, _)] (fun s => [(8, .int .u64 s.2.1), (9, .int .i64 s.1)]) (fun s => s.2.2 ++ (G ++ F)) (fun s => s.1 ≤ 20 ∧ NtH ⟨s.2.1, [], []⟩ nb1 s.2.2) (fun s => l.length - s.1) (0, 0, _) ⟨Nat.zero_le _, hZ1⟩ ⟨rfl, rfl, rfl, rfl, trivial⟩ ⟨rfl, rfl, trivial⟩ (by intro w ho; (try dsimp only [List.nil_append, List.cons_append]); exact Drop.own ho) ?_
  rintro ⟨i, w, H⟩ KK ⟨hi, hA⟩ hK
  dsimp only [List.cons_append, List.nil_append] at hK ⊢
  dsimp only at hi hA ⊢
  refine Wp.seq ?_
  refine Wp.seq ?_
  refine Wp.region ?_
  refine Ops.pv (pv_move rfl) rfl ?_
  refine Ops.pv (pv_move rfl) rfl ?_
  refine Ops.pv (pv_len_slice (T := 68) rfl rfl) rfl ?_
  refine Ops.pv (pv_lss rfl rfl) rfl ?_
  refine Ops.pv (pv_move rfl) rfl ?_
  refine Ops.pvc rfl rfl (fun hg => pv_move rfl) rfl ?_
  refine Ops.pvc rfl rfl (fun hg => Pv.setE (t := 33) rfl (cv_pos hg) (pv_lss rfl rfl)) rfl ?_
  refine Ops.pv (pv_pick_and rfl rfl) rfl ?_
  refine Ops.nil ?_
  refine Ends.seq ?_
  first | refine Wp.cond_dect rfl (fun h1 => ?_) (fun h1 => ?_) | refine Wp.cond_t rfl (fun h1 => ?_) (fun h1 => ?_)
  · obtain ⟨x, hq⟩ : ∃ x, l[i]? = some x := ⟨_, List.getElem?_eq_getElem (by omega)⟩
    obtain ⟨_, b, o, cc, T, f, rfl, hm, hr⟩ := ha i [.int .u64 x] (by rw [List.getElem?_map, hq]; rfl)
    have hbg : Blk G b (.cells cc.toArray T f) := ⟨hm⟩
    obtain ⟨r0, _⟩ := hr
    refine Wp.skip ?_
    refine Ends.seq ?_
    refine Wp.seq ?_
    refine Wp.block ?_
    refine Wp.seq ?_
    refine Wp.region ?_
    refine Ops.pv (pv_move rfl) rfl ?_
    refine Ops.pv (pv_move rfl) rfl ?_
    refine Ops.pv (pv_move rfl) rfl ?_
    refine Ops.pv (pv_indexAddr rfl rfl rfl (by omega)) rfl ?_
    refine Ops.pv (pv_load rfl rfl r0) rfl ?_
    refine Ops.ef rfl (ef_call (tr_ntSignal _ _ (⟨w, [], []⟩ : Nt) hA (by simp) (by simp) x true) rfl rfl) ?_
    rintro _ _ ⟨_, _, ⟨rfl, hA1⟩, rfl, rfl⟩
    refine Ops.app ?_
    obtain ⟨g1, g2, g3, g4⟩ := sg_none (S := (⟨w, [], []⟩ : Nt)) x (bound := true) rfl (by simp)
    rw [g1, g2, g3]
    rw [g4] at hA1
    refine Ops.nil ?_
    refine Ends.seq ?_
    refine Wp.region ?_
    refine Ops.pv (pv_move rfl) rfl ?_
    refine Ops.pv (pv_move rfl) rfl ?_
    refine Ops.pv (pv_move rfl) rfl ?_
    refine Ops.pv (pv_indexAddr rfl rfl rfl (by omega)) rfl ?_
    refine Ops.pv (pv_load rfl rfl r0) rfl ?_
    refine Ops.pv (pv_or rfl rfl rfl) rfl ?_
    refine Ops.pv (pv_assign rfl) rfl ?_
    refine Ops.nil ?_
    refine Ends.block_normal ?_
    refine Ends.seq ?_
    refine Wp.region ?_
    refine Ops.pv (pv_move rfl) rfl ?_
    first | refine Ops.pv (pv_add rfl rfl (w64 (by omega) (by omega))) rfl ?_ | refine Ops.pv (pv_add rfl rfl rfl) rfl ?_
    refine Ops.pv (pv_assign rfl) rfl ?_
    refine Ops.nil ?_
    refine Ends.goes ?_
    refine Goes.back (hK (i + 1, orI w x, _) ⟨by dsimp only; omega, hA1⟩ (by dsimp only; omega)) ⟨rfl, rfl, rfl, rfl, rfl, rfl, trivial⟩
  · refine Wp.exit ?_
    refine Ends.then_exit ?_
    refine Ends.then_exit ?_
    refine Ends.block_hit ?_
    refine Ends.seq ?_
    refine Wp.seq ?_
    refine Wp.seq ?_
    refine Wp.region ?_
    refine Ops.pv (pv_move rfl) rfl ?_
    refine Ops.pv (pv_move rfl) rfl ?_
    refine Ops.ef rfl (ef_call (tr_ntBind _ _ (⟨w, [], []⟩ : Nt) hA (by simp) (by simp) y0) rfl rfl) ?_
    rintro _ _ ⟨_, _, ⟨rfl, hA2⟩, rfl, rfl⟩
    refine Ops.app ?_
    obtain ⟨q1, q2⟩ := bdE_ok (S := (⟨w, [], []⟩ : Nt)) hy1 rfl
    rw [q1]
    rw [q2] at hA2
    refine Ops.pv ((pv_neq rfl rfl).fls (by first | exact fun h => h rfl | decide | omega | assumption)) rfl ?_
    refine Ops.pv (pv_move rfl) rfl ?_
    refine Ops.pvg ⟨_, _, rfl, rfl, rfl⟩ (pv_move rfl) rfl ?_
    refine Ops.pvg ⟨_, _, rfl, rfl, rfl⟩ (pv_move rfl) rfl ?_
    refine Ops.efg ⟨_, _, rfl, rfl, rfl⟩ (ef_call (tr_ntBind _ _ (⟨w, [], [y0]⟩ : Nt) hA2 (by simp) (by simp) y0) rfl rfl) ?_
    rintro _ _ ⟨_, _, ⟨rfl, hA3⟩, rfl, rfl⟩
    refine Ops.app ?_
    obtain ⟨q3, q4⟩ := bdE_twice (S := (⟨w, [], [y0]⟩ : Nt)) hy1 (by simp)
    rw [q3]
    rw [q4] at hA3
    refine Ops.pvg ⟨_, _, rfl, rfl, rfl⟩ ((pv_neq rfl rfl).fls (by first | exact fun h => h rfl | decide | omega | assumption)) rfl ?_
    refine Ops.pv (pv_pick_false rfl rfl) rfl ?_
    refine Ops.nil ?_
    refine Ends.seq ?_
    refine Wp.cond_false rfl ?_
    refine Wp.skip ?_
    refine Ends.seq ?_
    refine Wp.seq ?_
    refine Wp.seq ?_
    refine Wp.region ?_
    refine Ops.pv (pv_move rfl) rfl ?_
    refine Ops.nil ?_
    refine Ends.seq ?_
    refine Wp.cond_t rfl (fun h2 => ?_) (fun h2 => ?_)
    · refine Wp.seq ?_
      refine Wp.region ?_
      refine Ops.pv (pv_move rfl) rfl ?_
      refine Ops.ef rfl (ef_call (tr_ntWait _ _ (⟨w, [], [y0]⟩ : Nt) hA3 (by simp) (by simp) 9 false) rfl rfl) ?_
      rintro _ _ ⟨_, _, ⟨rfl, hA4⟩, rfl, rfl⟩
      refine Ops.app ?_
      rw [show wtS (⟨w, [], [y0]⟩ : Nt) 9 false = (⟨0, [], [y0]⟩ : Nt) from (wt_takes rfl (by simp)).2.2] at hA4
      refine Ops.nil ?_
      refine Ends.seq ?_
      refine Wp.seq ?_
      refine Wp.region ?_
      refine Ops.pv (pv_assign rfl) rfl ?_
      refine Ops.nil ?_
      refine Ends.seq ?_
      refine Wp.seq ?_
      refine Wp.region ?_
      refine Ops.pv (pv_move rfl) rfl ?_
      refine Ops.ef rfl (ef_call (tr_ntWait _ _ (⟨0, [], [y0]⟩ : Nt) hA4 (by simp) (by simp) 9 true) rfl rfl) ?_
      rintro _ _ ⟨_, _, ⟨rfl, hA5⟩, rfl, rfl⟩
      refine Ops.app ?_
      rw [show wtS (⟨0, [], [y0]⟩ : Nt) 9 true = (⟨0, [9], [y0]⟩ : Nt) from (wt_waits rfl ⟨rfl, rfl⟩).2.2] at hA5
      refine Ops.nil ?_
      refine Ends.seq ?_
      refine Wp.seq ?_
      refine Wp.region ?_
      refine Ops.pv (pv_move rfl) rfl ?_
      refine Ops.ef rfl (ef_call (tr_ntSignal _ _ (⟨0, [9], [y0]⟩ : Nt) hA5 (by simp) (by simp) 4 true) rfl rfl) ?_
      rintro _ _ ⟨_, _, ⟨rfl, hA6⟩, rfl, rfl⟩
      refine Ops.app ?_
      obtain ⟨g1, g2, g3, g4⟩ := sg_wait (S := (⟨0, [9], [y0]⟩ : Nt)) 4 true (by simp)
      rw [g1, g2, g3]
      refine Ops.pv (pv_move rfl) rfl ?_
      refine Ops.pv (pv_extract rfl rfl) rfl ?_
      refine Ops.pv (pv_extract rfl rfl) rfl ?_
      refine Ops.pv (pv_extract rfl rfl) rfl ?_
      refine Ops.pv (pv_assign rfl) rfl ?_
      refine Ops.pv (pv_assign rfl) rfl ?_
      refine Ops.pv (pv_assign rfl) rfl ?_
      refine Ops.nil ?_
      refine Ends.seq ?_
      refine Wp.seq ?_
      refine Wp.region ?_
      refine Ops.pv (pv_move rfl) rfl ?_
      refine Ops.pv (pv_move rfl) rfl ?_
      refine Ops.pvg ⟨_, _, rfl, rfl, rfl⟩ (pv_move rfl) rfl ?_
      refine Ops.pvg ⟨_, _, rfl, rfl, rfl⟩ ((pv_eql rfl rfl).tru (by first | rfl | decide | omega | assumption | (simp; done) | (simp; omega))) rfl ?_
      refine Ops.pv (pv_pick_true rfl rfl) rfl ?_
      refine Ops.pv (pv_move rfl) rfl ?_
      refine Ops.pvg ⟨_, _, rfl, rfl, rfl⟩ (pv_move rfl) rfl ?_
      refine Ops.pvg ⟨_, _, rfl, rfl, rfl⟩ ((pv_eql rfl rfl).tru (by first | rfl | decide | omega | assumption | (simp; done) | (simp; omega))) rfl ?_
      refine Ops.pv (pv_pick_true rfl rfl) rfl ?_
      refine Ops.pv (pv_assign rfl) rfl ?_
      refine Ops.nil ?_
      refine Ends.seq ?_
      refine Wp.ret ?_
      refine Ends.then_ret ?_
      exact Ends.ret (res1 rfl rfl) ⟨rfl, rfl⟩
    · refine Wp.skip ?_
      refine Ends.seq ?_
      refine Wp.seq ?_
      refine Wp.region ?_
      refine Ops.pv (pv_move rfl) rfl ?_
      refine Ops.ef rfl (ef_call (tr_ntSignal _ _ (⟨w, [], [y0]⟩ : Nt) hA3 (by simp) (by simp) 8 true) rfl rfl) ?_
      rintro _ _ ⟨_, _, ⟨rfl, hA7⟩, rfl, rfl⟩
      refine Ops.app ?_
      obtain ⟨g1, g2, g3, g4⟩ := sg_bound (S := (⟨w, [], [y0]⟩ : Nt)) 8 (bound := true) rfl ⟨rfl, by simp⟩
      rw [g1, g2, g3]
      rw [g4] at hA7
      refine Ops.pv (pv_move rfl) rfl ?_
      refine Ops.pv (pv_extract rfl rfl) rfl ?_
      refine Ops.pv (pv_extract rfl rfl) rfl ?_
      refine Ops.pv (pv_extract rfl rfl) rfl ?_
      refine Ops.pv (pv_assign rfl) rfl ?_
      refine Ops.pv (pv_assign rfl) rfl ?_
      refine Ops.pv (pv_assign rfl) rfl ?_
      refine Ops.nil ?_
      refine Ends.seq ?_
      refine Wp.seq ?_
      refine Wp.region ?_
      refine Ops.pv (pv_move rfl) rfl ?_
      refine Ops.ef rfl (ef_call (tr_ntUnbind _ _ (⟨0, [], [y0]⟩ : Nt) hA7 (by simp) (by simp)) rfl rfl) ?_
      rintro _ _ ⟨_, _, ⟨rfl, hA8⟩, rfl, rfl⟩
      refine Ops.app ?_
      rw [show popV (⟨0, [], [y0]⟩ : Nt).b = y0 from rfl, show popB (⟨0, [], [y0]⟩ : Nt).b = true from rfl]
      refine Ops.pv (pv_move rfl) rfl ?_
      refine Ops.pv (pv_extract rfl rfl) rfl ?_
      refine Ops.pv (pv_extract rfl rfl) rfl ?_
      refine Ops.pv (pv_assign rfl) rfl ?_
      refine Ops.pv (pv_assign rfl) rfl ?_
      refine Ops.nil ?_
      refine Ends.seq ?_
      refine Wp.seq ?_
      refine Wp.region ?_
      refine Ops.pv (pv_move rfl) rfl ?_
      refine Ops.ef rfl (ef_call (tr_ntSignal _ _ (⟨0, [], []⟩ : Nt) hA8 (by simp) (by simp) 1 true) rfl rfl) ?_
      rintro _ _ ⟨_, _, ⟨rfl, hA9⟩, rfl, rfl⟩
      refine Ops.app ?_
      obtain ⟨k1, k2, k3, k4⟩ := sg_none (S := (⟨0, [], []⟩ : Nt)) 1 (bound := true) rfl (by simp)
      rw [k1, k2, k3]
      refine Ops.pv (pv_move rfl) rfl ?_
      refine Ops.pv (pv_extract rfl rfl) rfl ?_
      refine Ops.pv (pv_extract rfl rfl) rfl ?_
      refine Ops.pv (pv_extract rfl rfl) rfl ?_
      refine Ops.pv (pv_assign rfl) rfl ?_
      refine Ops.pv (pv_assign rfl) rfl ?_
      refine Ops.pv (pv_assign rfl) rfl ?_
      refine Ops.nil ?_
      refine Ends.seq ?_
      refine Wp.seq ?_
      refine Wp.region ?_
      refine Ops.pv (pv_move rfl) rfl ?_
      refine Ops.pv (pv_move rfl) rfl ?_
      refine Ops.pvg ⟨_, _, rfl, rfl, rfl⟩ (pv_move rfl) rfl ?_
      refine Ops.pvg ⟨_, _, rfl, rfl, rfl⟩ (pv_move rfl) rfl ?_
      refine Ops.pvg ⟨_, _, rfl, rfl, rfl⟩ ((pv_eql rfl rfl).tru (by first | rfl | decide | omega | assumption | (simp; done) | (simp; omega))) rfl ?_
      refine Ops.pv (pv_pick_true rfl rfl) rfl ?_
      refine Ops.pv (pv_move rfl) rfl ?_
      refine Ops.pvg ⟨_, _, rfl, rfl, rfl⟩ (pv_move rfl) rfl ?_
      refine Ops.pvg ⟨_, _, rfl, rfl, rfl⟩ (pv_move rfl) rfl ?_
      refine Ops.pvg ⟨_, _, rfl, rfl, rfl⟩ (pv_or rfl rfl rfl) rfl ?_
      refine Ops.pvg ⟨_, _, rfl, rfl, rfl⟩ ((pv_eql rfl rfl).tru (by first | rfl | decide | omega | assumption | (simp; done) | (simp; omega))) rfl ?_
      refine Ops.pv (pv_pick_true rfl rfl) rfl ?_
      refine Ops.pv (pv_move rfl) rfl ?_
      refine Ops.pvg ⟨_, _, rfl, rfl, rfl⟩ (pv_move rfl) rfl ?_
      refine Ops.pvg ⟨_, _, rfl, rfl, rfl⟩ (pv_move rfl) rfl ?_
      refine Ops.pvg ⟨_, _, rfl, rfl, rfl⟩ ((pv_eql rfl rfl).tru (by first | rfl | decide | omega | assumption | (simp; done) | (simp; omega))) rfl ?_
      refine Ops.pv (pv_pick_true rfl rfl) rfl ?_
      refine Ops.pv (pv_move rfl) rfl ?_
      refine Ops.pvg ⟨_, _, rfl, rfl, rfl⟩ (pv_move rfl) rfl ?_
      refine Ops.pv (pv_pick_true rfl rfl) rfl ?_
      refine Ops.pv (pv_move rfl) rfl ?_
      refine Ops.pvg ⟨_, _, rfl, rfl, rfl⟩ (pv_move rfl) rfl ?_
      first | refine Ops.pvg ⟨_, _, rfl, rfl, rfl⟩ (pv_not_dec rfl) rfl ?_ | refine Ops.pvg ⟨_, _, rfl, rfl, rfl⟩ (pv_not rfl) rfl ?_
      refine Ops.pv (pv_pick_true rfl rfl) rfl ?_
      refine Ops.pv (pv_assign rfl) rfl ?_
      refine Ops.nil ?_
      refine Ends.seq ?_
      refine Wp.ret ?_
      exact Ends.ret (res1 rfl rfl) ⟨rfl, rfl⟩

end Go.Proofs.Ytpjodkcghiklcaa
