/- Walks of layer 18's laws: each returns true, whatever the input. No condition. -/
import Derived.Test.YtpjodkcghiklcaaM18o
import Derived.Test.YtpjodkcghiklcaaW18
set_option linter.unusedVariables false
set_option linter.unusedSimpArgs false
namespace Go.Proofs.Ytpjodkcghiklcaa
open Go.SL

set_option maxHeartbeats 2000000 in
theorem tr_works18  : TrR Try.prog 36 [] ([]) (.bool true) := by
  refine Tr.enter Try.func36 rfl Try.ntmps36 rfl (fun W F => ?_)
  refine Wp.app ?_
  refine Wp.seq ?_
  refine Wp.region ?_
  refine Ops.pv (pv_assign rfl) rfl ?_
  refine Ops.nil ?_
  refine Ends.seq ?_
  refine Wp.seq ?_
  refine Wp.region ?_
  refine Ops.ef rfl (ef_call (tr_epNew) rfl rfl) ?_
  rintro _ _ ⟨_, _, ⟨pb1, rfl, hR1⟩, rfl, rfl⟩
  refine Ops.app ?_
  refine Ops.pv (pv_assign rfl) rfl ?_
  refine Ops.nil ?_
  refine Ends.seq ?_
  refine Wp.seq ?_
  refine Wp.seq ?_
  refine Wp.region ?_
  refine Ops.pv (pv_move rfl) rfl ?_
  refine Ops.pv (pv_eql_nil rfl rfl) rfl ?_
  refine Ops.nil ?_
  refine Ends.seq ?_
  refine Wp.cond_false rfl ?_
  refine Wp.skip ?_
  refine Ends.seq ?_
  refine Wp.seq ?_
  refine Wp.region ?_
  refine Ops.pv (pv_move rfl) rfl ?_
  refine Ops.ef rfl (ef_call (tr_epSend _ _ (⟨0, []⟩ : Ep) hR1 (by decide) 1 true) rfl rfl) ?_
  rintro _ _ ⟨_, _, ⟨rfl, hR2⟩, rfl, rfl⟩
  refine Ops.app ?_
  rw [show meetV (⟨0, []⟩ : Ep) 1 (wOf false) = 0 from rfl, show meetB (⟨0, []⟩ : Ep) 1 (wOf false) = false from rfl, show pushE (⟨0, []⟩ : Ep).l 1 = 0 from rfl]
  rw [show meetS (⟨0, []⟩ : Ep) 1 (wOf false) true = (⟨1, [1]⟩ : Ep) from rfl] at hR2
  refine Ops.pv (pv_move rfl) rfl ?_
  refine Ops.pv (pv_extract rfl rfl) rfl ?_
  refine Ops.pv (pv_extract rfl rfl) rfl ?_
  refine Ops.pv (pv_extract rfl rfl) rfl ?_
  refine Ops.pv (pv_assign rfl) rfl ?_
  refine Ops.pv (pv_assign rfl) rfl ?_
  refine Ops.pv (pv_assign rfl) rfl ?_
  refine Ops.nil ?_
  refine Ends.seq ?_
  refine Wp.seq ?_
  refine Wp.region ?_
  refine Ops.pv (pv_move rfl) rfl ?_
  refine Ops.ef rfl (ef_call (tr_epSend _ _ (⟨1, [1]⟩ : Ep) hR2 (by decide) 2 true) rfl rfl) ?_
  rintro _ _ ⟨_, _, ⟨rfl, hR3⟩, rfl, rfl⟩
  refine Ops.app ?_
  rw [show meetV (⟨1, [1]⟩ : Ep) 2 (wOf false) = 0 from rfl, show meetB (⟨1, [1]⟩ : Ep) 2 (wOf false) = false from rfl, show pushE (⟨1, [1]⟩ : Ep).l 2 = 0 from rfl]
  rw [show meetS (⟨1, [1]⟩ : Ep) 2 (wOf false) true = (⟨1, [1, 2]⟩ : Ep) from rfl] at hR3
  refine Ops.pv (pv_move rfl) rfl ?_
  refine Ops.pv (pv_extract rfl rfl) rfl ?_
  refine Ops.pv (pv_extract rfl rfl) rfl ?_
  refine Ops.pv (pv_extract rfl rfl) rfl ?_
  refine Ops.pv (pv_assign rfl) rfl ?_
  refine Ops.pv (pv_assign rfl) rfl ?_
  refine Ops.pv (pv_assign rfl) rfl ?_
  refine Ops.nil ?_
  refine Ends.seq ?_
  refine Wp.seq ?_
  refine Wp.region ?_
  refine Ops.pv (pv_move rfl) rfl ?_
  refine Ops.ef rfl (ef_call (tr_epRecv _ _ (⟨1, [1, 2]⟩ : Ep) hR3 (by decide) 3 true) rfl rfl) ?_
  rintro _ _ ⟨_, _, ⟨rfl, hR4⟩, rfl, rfl⟩
  refine Ops.app ?_
  rw [show meetV (⟨1, [1, 2]⟩ : Ep) 3 (wOf true) = 1 from rfl, show meetB (⟨1, [1, 2]⟩ : Ep) 3 (wOf true) = true from rfl, show pushE (⟨1, [1, 2]⟩ : Ep).l 3 = 0 from rfl]
  rw [show meetS (⟨1, [1, 2]⟩ : Ep) 3 (wOf true) true = (⟨1, [2]⟩ : Ep) from rfl] at hR4
  refine Ops.pv (pv_move rfl) rfl ?_
  refine Ops.pv (pv_extract rfl rfl) rfl ?_
  refine Ops.pv (pv_extract rfl rfl) rfl ?_
  refine Ops.pv (pv_extract rfl rfl) rfl ?_
  refine Ops.pv (pv_assign rfl) rfl ?_
  refine Ops.pv (pv_assign rfl) rfl ?_
  refine Ops.pv (pv_assign rfl) rfl ?_
  refine Ops.nil ?_
  refine Ends.seq ?_
  refine Wp.seq ?_
  refine Wp.region ?_
  refine Ops.pv (pv_move rfl) rfl ?_
  refine Ops.ef rfl (ef_call (tr_epRecv _ _ (⟨1, [2]⟩ : Ep) hR4 (by decide) 4 true) rfl rfl) ?_
  rintro _ _ ⟨_, _, ⟨rfl, hR5⟩, rfl, rfl⟩
  refine Ops.app ?_
  rw [show meetV (⟨1, [2]⟩ : Ep) 4 (wOf true) = 2 from rfl, show meetB (⟨1, [2]⟩ : Ep) 4 (wOf true) = true from rfl, show pushE (⟨1, [2]⟩ : Ep).l 4 = 0 from rfl]
  rw [show meetS (⟨1, [2]⟩ : Ep) 4 (wOf true) true = (⟨1, []⟩ : Ep) from rfl] at hR5
  refine Ops.pv (pv_move rfl) rfl ?_
  refine Ops.pv (pv_extract rfl rfl) rfl ?_
  refine Ops.pv (pv_extract rfl rfl) rfl ?_
  refine Ops.pv (pv_extract rfl rfl) rfl ?_
  refine Ops.pv (pv_assign rfl) rfl ?_
  refine Ops.pv (pv_assign rfl) rfl ?_
  refine Ops.pv (pv_assign rfl) rfl ?_
  refine Ops.nil ?_
  refine Ends.seq ?_
  refine Wp.seq ?_
  refine Wp.region ?_
  refine Ops.pv (pv_move rfl) rfl ?_
  refine Ops.ef rfl (ef_call (tr_epRecv _ _ (⟨1, []⟩ : Ep) hR5 (by decide) 5 false) rfl rfl) ?_
  rintro _ _ ⟨_, _, ⟨rfl, hR6⟩, rfl, rfl⟩
  refine Ops.app ?_
  rw [show meetV (⟨1, []⟩ : Ep) 5 (wOf true) = 0 from rfl, show meetB (⟨1, []⟩ : Ep) 5 (wOf true) = false from rfl, show pushE (⟨1, []⟩ : Ep).l 5 = 0 from rfl]
  rw [show meetS (⟨1, []⟩ : Ep) 5 (wOf true) false = (⟨1, []⟩ : Ep) from rfl] at hR6
  refine Ops.pv (pv_move rfl) rfl ?_
  refine Ops.pv (pv_extract rfl rfl) rfl ?_
  refine Ops.pv (pv_extract rfl rfl) rfl ?_
  refine Ops.pv (pv_extract rfl rfl) rfl ?_
  refine Ops.pv (pv_assign rfl) rfl ?_
  refine Ops.pv (pv_assign rfl) rfl ?_
  refine Ops.pv (pv_assign rfl) rfl ?_
  refine Ops.nil ?_
  refine Ends.seq ?_
  refine Wp.seq ?_
  refine Wp.region ?_
  refine Ops.pv (pv_move rfl) rfl ?_
  refine Ops.ef rfl (ef_call (tr_epState _ _ (⟨1, []⟩ : Ep) hR6 (by decide)) rfl rfl) ?_
  rintro _ _ ⟨_, _, ⟨v1, C1, rfl, hc1, rfl⟩, rfl, rfl⟩
  refine Ops.app ?_
  rw [show stW (⟨1, []⟩ : Ep) = 0 from rfl]
  obtain ⟨p1, q1, rfl⟩ := hc1.form
  refine Ops.pv (pv_move rfl) rfl ?_
  refine Ops.pv (pv_extract rfl rfl) rfl ?_
  refine Ops.pv (pv_extract rfl rfl) rfl ?_
  refine Ops.pv (pv_assign rfl) rfl ?_
  refine Ops.pv (pv_assign rfl) rfl ?_
  refine Ops.nil ?_
  refine Ends.seq ?_
  refine Wp.seq ?_
  refine Wp.region ?_
  refine Ops.pv (pv_move rfl) rfl ?_
  refine Ops.ef rfl (ef_call (tr_epSend _ _ (⟨1, []⟩ : Ep) hR6 (by decide) 64 true) rfl rfl) ?_
  rintro _ _ ⟨_, _, ⟨rfl, hR7⟩, rfl, rfl⟩
  refine Ops.app ?_
  rw [show meetV (⟨1, []⟩ : Ep) 64 (wOf false) = 0 from rfl, show meetB (⟨1, []⟩ : Ep) 64 (wOf false) = false from rfl, show pushE (⟨1, []⟩ : Ep).l 64 = 1 from rfl]
  rw [show meetS (⟨1, []⟩ : Ep) 64 (wOf false) true = (⟨1, []⟩ : Ep) from rfl] at hR7
  refine Ops.pv (pv_move rfl) rfl ?_
  refine Ops.pv (pv_extract rfl rfl) rfl ?_
  refine Ops.pv (pv_extract rfl rfl) rfl ?_
  refine Ops.pv (pv_extract rfl rfl) rfl ?_
  refine Ops.pv (pv_assign rfl) rfl ?_
  refine Ops.pv (pv_assign rfl) rfl ?_
  refine Ops.pv (pv_assign rfl) rfl ?_
  refine Ops.nil ?_
  refine Ends.seq ?_
  refine Wp.seq ?_
  refine Wp.region ?_
  refine Ops.pv (pv_move rfl) rfl ?_
  first | refine Ops.pv (pv_not_dec rfl) rfl ?_ | refine Ops.pv (pv_not rfl) rfl ?_
  refine Ops.pv (pv_move rfl) rfl ?_
  refine Ops.pvg ⟨_, _, rfl, rfl, rfl⟩ (pv_move rfl) rfl ?_
  refine Ops.pvg ⟨_, _, rfl, rfl, rfl⟩ ((pv_eql rfl rfl).tru (by first | rfl | decide | omega | assumption | (simp; done) | (simp; omega))) rfl ?_
  refine Ops.pv (pv_pick_true rfl rfl) rfl ?_
  refine Ops.pv (pv_move rfl) rfl ?_
  refine Ops.pvg ⟨_, _, rfl, rfl, rfl⟩ (pv_move rfl) rfl ?_
  first | refine Ops.pvg ⟨_, _, rfl, rfl, rfl⟩ (pv_not_dec rfl) rfl ?_ | refine Ops.pvg ⟨_, _, rfl, rfl, rfl⟩ (pv_not rfl) rfl ?_
  refine Ops.pv (pv_pick_true rfl rfl) rfl ?_
  refine Ops.pv (pv_move rfl) rfl ?_
  refine Ops.pvg ⟨_, _, rfl, rfl, rfl⟩ (pv_move rfl) rfl ?_
  refine Ops.pvg ⟨_, _, rfl, rfl, rfl⟩ ((pv_eql rfl rfl).tru (by first | rfl | decide | omega | assumption | (simp; done) | (simp; omega))) rfl ?_
  refine Ops.pv (pv_pick_true rfl rfl) rfl ?_
  refine Ops.pv (pv_move rfl) rfl ?_
  refine Ops.pvg ⟨_, _, rfl, rfl, rfl⟩ (pv_move rfl) rfl ?_
  refine Ops.pv (pv_pick_true rfl rfl) rfl ?_
  refine Ops.pv (pv_move rfl) rfl ?_
  refine Ops.pvg ⟨_, _, rfl, rfl, rfl⟩ (pv_move rfl) rfl ?_
  refine Ops.pvg ⟨_, _, rfl, rfl, rfl⟩ ((pv_eql rfl rfl).tru (by first | rfl | decide | omega | assumption | (simp; done) | (simp; omega))) rfl ?_
  refine Ops.pv (pv_pick_true rfl rfl) rfl ?_
  refine Ops.pv (pv_move rfl) rfl ?_
  refine Ops.pvg ⟨_, _, rfl, rfl, rfl⟩ (pv_move rfl) rfl ?_
  refine Ops.pv (pv_pick_true rfl rfl) rfl ?_
  refine Ops.pv (pv_move rfl) rfl ?_
  refine Ops.pvg ⟨_, _, rfl, rfl, rfl⟩ (pv_move rfl) rfl ?_
  first | refine Ops.pvg ⟨_, _, rfl, rfl, rfl⟩ (pv_not_dec rfl) rfl ?_ | refine Ops.pvg ⟨_, _, rfl, rfl, rfl⟩ (pv_not rfl) rfl ?_
  refine Ops.pv (pv_pick_true rfl rfl) rfl ?_
  refine Ops.pv (pv_move rfl) rfl ?_
  refine Ops.pvg ⟨_, _, rfl, rfl, rfl⟩ (pv_move rfl) rfl ?_
  refine Ops.pvg ⟨_, _, rfl, rfl, rfl⟩ ((pv_eql rfl rfl).tru (by first | rfl | decide | omega | assumption | (simp; done) | (simp; omega))) rfl ?_
  refine Ops.pv (pv_pick_true rfl rfl) rfl ?_
  refine Ops.pv (pv_move rfl) rfl ?_
  refine Ops.pvg ⟨_, _, rfl, rfl, rfl⟩ (pv_move rfl) rfl ?_
  refine Ops.pvg ⟨_, _, rfl, rfl, rfl⟩ ((pv_eql rfl rfl).tru (by first | rfl | decide | omega | assumption | (simp; done) | (simp; omega))) rfl ?_
  refine Ops.pv (pv_pick_true rfl rfl) rfl ?_
  refine Ops.pv (pv_move rfl) rfl ?_
  refine Ops.pvg ⟨_, _, rfl, rfl, rfl⟩ (pv_move rfl) rfl ?_
  refine Ops.pvg ⟨_, _, rfl, rfl, rfl⟩ (pv_len_slice (T := 26) rfl rfl) rfl ?_
  refine Ops.pvg ⟨_, _, rfl, rfl, rfl⟩ ((pv_eql rfl rfl).tru (by first | rfl | decide | omega | assumption | (simp; done) | (simp; omega))) rfl ?_
  refine Ops.pv (pv_pick_true rfl rfl) rfl ?_
  refine Ops.pv (pv_move rfl) rfl ?_
  refine Ops.pvg ⟨_, _, rfl, rfl, rfl⟩ (pv_move rfl) rfl ?_
  refine Ops.pvg ⟨_, _, rfl, rfl, rfl⟩ ((pv_eql rfl rfl).tru (by first | rfl | decide | omega | assumption | (simp; done) | (simp; omega))) rfl ?_
  refine Ops.pv (pv_pick_true rfl rfl) rfl ?_
  refine Ops.pv (pv_assign rfl) rfl ?_
  refine Ops.nil ?_
  refine Ends.seq ?_
  refine Wp.ret ?_
  exact Ends.ret (res1 rfl rfl) ⟨rfl, rfl⟩

set_option maxHeartbeats 4000000 in
theorem tr_endpointDoes (G : Hp) (a : Option Addr) (c : Nat) (ops : List OpE) (ha : ArgS G 3 a (ops.map OpE.cells)) (hol : ops.length ≤ maxLen) : TrR Try.prog 10 [.slice a ops.length c] (G) (.bool true) := by
  refine Tr.enter Try.func10 rfl Try.ntmps10 rfl (fun W F => ?_)
  refine Wp.app ?_
  refine Wp.seq ?_
  refine Wp.region ?_
  refine Ops.pv (pv_assign rfl) rfl ?_
  refine Ops.nil ?_
  refine Ends.seq ?_
  refine Wp.seq ?_
  refine Wp.region ?_
  refine Ops.ef rfl (ef_call (tr_epNew) rfl rfl) ?_
  rintro _ _ ⟨_, _, ⟨pb1, rfl, hZ1⟩, rfl, rfl⟩
  refine Ops.app ?_
  refine Ops.pv (pv_build rfl) rfl ?_
  refine Ops.ef rfl (ef_boxK rfl rfl) ?_
  rintro _ _ ⟨b1, rfl, rfl⟩
  refine Ops.pv (pv_assign rfl) rfl ?_
  refine Ops.pv (pv_assign rfl) rfl ?_
  refine Ops.nil ?_
  refine Ends.seq ?_
  refine Wp.seq ?_
  refine Wp.seq ?_
  refine Wp.region ?_
  refine Ops.pv (pv_move rfl) rfl ?_
  refine Ops.pv (pv_eql_nil rfl rfl) rfl ?_
  refine Ops.nil ?_
  refine Ends.seq ?_
  refine Wp.cond_false rfl ?_
  refine Wp.skip ?_
  refine Ends.seq ?_
  refine Wp.seq ?_
  refine Wp.seq ?_
  refine Wp.region ?_
  refine Ops.pv (pv_assign rfl) rfl ?_
  refine Ops.nil ?_
  refine Ends.seq ?_
  refine Wp.block ?_
  refine Wp.loopK (σ := Nat × Ep × Hp × Bool × Value × Hp) [(0, _), (3, _), (4, _)] (fun s => [(5, .int .i64 s.1)]) (fun s => s.2.2.1 ++ ((b1, .cells [s.2.2.2.2.1, .bool s.2.2.2.1].toArray 67) :: (s.2.2.2.2.2 ++ (G ++ F)))) (fun s => s.2.1.l.length ≤ s.1 ∧ s.1 ≤ 100 ∧ EpH s.2.1 pb1 s.2.2.1 ∧ EpRel s.2.1 s.2.2.2.1 ∧ Slc 3 1 s.2.2.2.2.1 s.2.1.l.length (intsC s.2.1.l) s.2.2.2.2.2) (fun s => ops.length - s.1) (0, ⟨0, []⟩, _, false, .slice none 0 0, []) ⟨Nat.le_refl _, Nat.zero_le _, hZ1, rel_nil, Slc.nil _ _⟩ ⟨rfl, rfl, rfl, trivial⟩ ⟨rfl, trivial⟩ (by intro w ho; (try dsimp only [List.nil_append, List.cons_append]); exact Drop.own ho) ?_
  rintro ⟨i, S, H, r, v, K⟩ KK ⟨hll, hi, hA, hrel, ht⟩ hK
  dsimp only [List.cons_append, List.nil_append] at hK ⊢
  dsimp only at hll hi hA hrel ht ⊢
  refine Wp.seq ?_
  refine Wp.seq ?_
  refine Wp.region ?_
  refine Ops.pv (pv_move rfl) rfl ?_
  refine Ops.pv (pv_move rfl) rfl ?_
  refine Ops.pv (pv_len_slice (T := 54) rfl rfl) rfl ?_
  refine Ops.pv (pv_lss rfl rfl) rfl ?_
  refine Ops.pv (pv_move rfl) rfl ?_
  refine Ops.pvc rfl rfl (fun hg => pv_move rfl) rfl ?_
  refine Ops.pvc rfl rfl (fun hg => Pv.setE (t := 33) rfl (cv_pos hg) (pv_lss rfl rfl)) rfl ?_
  refine Ops.pv (pv_pick_and rfl rfl) rfl ?_
  refine Ops.nil ?_
  refine Ends.seq ?_
  first | refine Wp.cond_dect rfl (fun h1 => ?_) (fun h1 => ?_) | refine Wp.cond_t rfl (fun h1 => ?_) (fun h1 => ?_)
  · obtain ⟨x, hq⟩ : ∃ x, ops[i]? = some x := ⟨_, List.getElem?_eq_getElem (by omega)⟩
    obtain ⟨_, b, o, cc, T, f, rfl, hm, hr⟩ := ha i x.cells (by rw [List.getElem?_map, hq]; rfl)
    have hbg : Blk G b (.cells cc.toArray T f) := ⟨hm⟩
    refine Wp.skip ?_
    refine Ends.seq ?_
    refine Wp.seq ?_
    refine Wp.block ?_
    refine Wp.seq ?_
    refine Wp.region ?_
    refine Ops.pv (pv_move rfl) rfl ?_
    refine Ops.pv (pv_move rfl) rfl ?_
    refine Ops.pv (pv_indexAddr rfl rfl rfl (by omega)) rfl ?_
    refine Ops.pv (pv_loadK x.cells rfl rfl rfl hr) rfl ?_
    refine Ops.ef rfl (ef_allocK tyZ58 rfl) ?_
    rintro _ _ ⟨b2, rfl, rfl⟩
    refine Ops.ef rfl (ef_storeK rfl rfl rfl rfl) ?_
    rintro _ _ ⟨rfl, rfl⟩
    refine Ops.nil ?_
    refine Ends.seq ?_
    refine Wp.seq ?_
    refine Wp.seq ?_
    refine Wp.region ?_
    first | refine Ops.pv (pv_fieldAddr0 rfl rfl) rfl ?_ | refine Ops.pv (pv_fieldAddr rfl rfl) rfl ?_
    first | refine Ops.pv (pv_load rfl rfl rfl) rfl ?_ | refine Ops.pv (pv_load rfl rfl (by assumption)) rfl ?_
    refine Ops.nil ?_
    refine Ends.seq ?_
    refine Wp.block ?_
    refine Wp.seq ?_
    refine Wp.region ?_
    refine Ops.pv (pv_eql rfl rfl) rfl ?_
    refine Ops.pv (pv_assign rfl) rfl ?_
    refine Ops.nil ?_
    refine Ends.seq ?_
    first | refine Wp.cond_dect rfl (fun h2 => ?_) (fun h2 => ?_) | refine Wp.cond_t rfl (fun h2 => ?_) (fun h2 => ?_)
    · refine Wp.seq ?_
      refine Wp.region ?_
      refine Ops.pv (pv_move rfl) rfl ?_
      first | refine Ops.pv (pv_fieldAddr0 rfl rfl) rfl ?_ | refine Ops.pv (pv_fieldAddr rfl rfl) rfl ?_
      first | refine Ops.pv (pv_load rfl rfl rfl) rfl ?_ | refine Ops.pv (pv_load rfl rfl (by assumption)) rfl ?_
      first | refine Ops.pv (pv_fieldAddr0 rfl rfl) rfl ?_ | refine Ops.pv (pv_fieldAddr rfl rfl) rfl ?_
      first | refine Ops.pv (pv_load rfl rfl rfl) rfl ?_ | refine Ops.pv (pv_load rfl rfl (by assumption)) rfl ?_
      refine Ops.ef rfl (ef_call (tr_epSend _ _ S hA (by omega) x.id x.wait) rfl rfl) ?_
      rintro _ _ ⟨_, _, ⟨rfl, hA1⟩, rfl, rfl⟩
      refine Ops.app ?_
      obtain ⟨g1, g2, g3⟩ := meet_rel hrel x.id false x.wait
      rw [g1, g2]
      have hb1 := meetS_len S x.id (wOf false) x.wait
      refine Ops.pv (pv_move rfl) rfl ?_
      refine Ops.pv (pv_extract rfl rfl) rfl ?_
      refine Ops.pv (pv_extract rfl rfl) rfl ?_
      refine Ops.pv (pv_extract rfl rfl) rfl ?_
      refine Ops.pv (pv_assign rfl) rfl ?_
      refine Ops.pv (pv_assign rfl) rfl ?_
      refine Ops.pv (pv_assign rfl) rfl ?_
      refine Ops.nil ?_
      refine Ends.seq ?_
      refine Wp.seq ?_
      refine Wp.region ?_
      refine Ops.pv (pv_move rfl) rfl ?_
      first | refine Ops.pv (pv_fieldAddr0 rfl rfl) rfl ?_ | refine Ops.pv (pv_fieldAddr rfl rfl) rfl ?_
      first | refine Ops.pv (pv_load rfl rfl rfl) rfl ?_ | refine Ops.pv (pv_load rfl rfl (by assumption)) rfl ?_
      first | refine Ops.pv (pv_fieldAddr0 rfl rfl) rfl ?_ | refine Ops.pv (pv_fieldAddr rfl rfl) rfl ?_
      first | refine Ops.pv (pv_load rfl rfl rfl) rfl ?_ | refine Ops.pv (pv_load rfl rfl (by assumption)) rfl ?_
      refine Ops.ef rfl (ef_call (tr_deSend b1 _ K r S.l ht (by omega) x.id x.wait) rfl rfl) ?_
      rintro _ _ ⟨_, _, ⟨rfl, v1, K1, ht1, rfl⟩, rfl, rfl⟩
      refine Ops.app ?_
      rw [← g3] at ht1
      refine Ops.pv (pv_move rfl) rfl ?_
      refine Ops.pv (pv_extract rfl rfl) rfl ?_
      refine Ops.pv (pv_extract rfl rfl) rfl ?_
      refine Ops.pv (pv_extract rfl rfl) rfl ?_
      refine Ops.pv (pv_assign rfl) rfl ?_
      refine Ops.pv (pv_assign rfl) rfl ?_
      refine Ops.pv (pv_assign rfl) rfl ?_
      refine Ops.nil ?_
      refine Ends.seq ?_
      refine Wp.seq ?_
      refine Wp.region ?_
      refine Ops.pv (pv_move rfl) rfl ?_
      refine Ops.pv (pv_move rfl) rfl ?_
      refine Ops.pv ((pv_neq rfl rfl).fls (by first | exact fun h => h rfl | decide | omega | assumption)) rfl ?_
      refine Ops.pv (pv_move rfl) rfl ?_
      refine Ops.pvg ⟨_, _, rfl, rfl, rfl⟩ (pv_move rfl) rfl ?_
      refine Ops.pvg ⟨_, _, rfl, rfl, rfl⟩ (pv_move rfl) rfl ?_
      refine Ops.pvg ⟨_, _, rfl, rfl, rfl⟩ ((pv_neq_bool rfl rfl).is (u := .bool false) (by first | rfl | (simp; done) | simp_all)) rfl ?_
      refine Ops.pv (pv_pick_false rfl rfl) rfl ?_
      refine Ops.pv (pv_move rfl) rfl ?_
      refine Ops.pvg ⟨_, _, rfl, rfl, rfl⟩ (pv_move rfl) rfl ?_
      refine Ops.pvg ⟨_, _, rfl, rfl, rfl⟩ (pv_move rfl) rfl ?_
      refine Ops.pvg ⟨_, _, rfl, rfl, rfl⟩ ((pv_neq rfl rfl).fls (by first | exact fun h => h rfl | decide | omega | assumption)) rfl ?_
      refine Ops.pv (pv_pick_false rfl rfl) rfl ?_
      refine Ops.nil ?_
      refine Ends.seq ?_
      refine Wp.cond_false rfl ?_
      refine Wp.skip ?_
      refine Ends.block_normal ?_
      refine Ends.seq ?_
      refine Wp.seq ?_
      refine Wp.region ?_
      refine Ops.pv (pv_move rfl) rfl ?_
      refine Ops.ef rfl (ef_call (tr_epState _ _ (meetS S x.id (wOf false) x.wait) hA1 (by omega)) rfl rfl) ?_
      rintro _ _ ⟨_, _, ⟨w1, C1, rfl, hc1, rfl⟩, rfl, rfl⟩
      refine Ops.app ?_
      obtain ⟨p1, q1, rfl⟩ := hc1.form
      rw [stW_rel (meet_rel2 hrel x.id false x.wait)]
      refine Ops.pv (pv_move rfl) rfl ?_
      refine Ops.pv (pv_extract rfl rfl) rfl ?_
      refine Ops.pv (pv_extract rfl rfl) rfl ?_
      refine Ops.pv (pv_assign rfl) rfl ?_
      refine Ops.pv (pv_assign rfl) rfl ?_
      refine Ops.nil ?_
      refine Ends.seq ?_
      refine Wp.seq ?_
      refine Wp.region ?_
      refine Ops.pv (pv_move rfl) rfl ?_
      refine Ops.ef rfl (ef_call (tr_deState b1 v1 K1 (meetR r S.l x.id false x.wait) (meetS S x.id (wOf false) x.wait).l ht1 (by omega)) rfl rfl) ?_
      rintro _ _ ⟨_, _, ⟨rfl, rfl⟩, rfl, rfl⟩
      refine Ops.app ?_
      obtain ⟨u1, t1, e9, hd1⟩ := ite_view (l := (meetS S x.id (wOf false) x.wait).l) ht1
      rw [e9]
      refine Ops.pv (pv_move rfl) rfl ?_
      refine Ops.pv (pv_extract rfl rfl) rfl ?_
      refine Ops.pv (pv_extract rfl rfl) rfl ?_
      refine Ops.pv (pv_assign rfl) rfl ?_
      refine Ops.pv (pv_assign rfl) rfl ?_
      refine Ops.nil ?_
      refine Ends.seq ?_
      refine Wp.seq ?_
      refine Wp.region ?_
      refine Ops.pv (pv_move rfl) rfl ?_
      refine Ops.pv (pv_move rfl) rfl ?_
      refine Ops.pv ((pv_neq rfl rfl).fls (by first | exact fun h => h rfl | decide | omega | assumption)) rfl ?_
      refine Ops.pv (pv_move rfl) rfl ?_
      refine Ops.pvg ⟨_, _, rfl, rfl, rfl⟩ (pv_move rfl) rfl ?_
      refine Ops.pvg ⟨_, _, rfl, rfl, rfl⟩ (pv_move rfl) rfl ?_
      refine Ops.efg ⟨_, _, rfl, rfl, rfl⟩ (ef_callr (tr_same C1 _ _ _ _ _ (meetS S x.id (wOf false) x.wait).l hc1.view hd1 (by omega)) rfl rfl) ?_
      rintro _ _ ⟨rfl, rfl⟩
      first | refine Ops.pvg ⟨_, _, rfl, rfl, rfl⟩ (pv_not_dec rfl) rfl ?_ | refine Ops.pvg ⟨_, _, rfl, rfl, rfl⟩ (pv_not rfl) rfl ?_
      refine Ops.pv (pv_pick_false rfl rfl) rfl ?_
      refine Ops.nil ?_
      refine Ends.seq ?_
      refine Wp.cond_false rfl ?_
      refine Wp.skip ?_
      refine Ends.block_normal ?_
      refine Ends.seq ?_
      refine Wp.region ?_
      refine Ops.pv (pv_move rfl) rfl ?_
      first | refine Ops.pv (pv_add rfl rfl (w64 (by omega) (by omega))) rfl ?_ | refine Ops.pv (pv_add rfl rfl rfl) rfl ?_
      refine Ops.pv (pv_assign rfl) rfl ?_
      refine Ops.nil ?_
      refine Ends.goes ?_
      refine Goes.back (hK (i + 1, (meetS S x.id (wOf false) x.wait), _, (meetR r S.l x.id false x.wait), v1, K1) ⟨by dsimp only; exact Nat.le_trans (meetS_len S x.id (wOf false) x.wait) (Nat.succ_le_succ hll), by dsimp only; omega, hA1, (meet_rel2 hrel x.id false x.wait), ht1⟩ (by dsimp only; omega)) ⟨rfl, rfl, rfl, rfl, trivial⟩
    · refine Wp.seq ?_
      refine Wp.region ?_
      refine Ops.pv (pv_eql rfl rfl) rfl ?_
      refine Ops.pv (pv_assign rfl) rfl ?_
      refine Ops.nil ?_
      refine Ends.seq ?_
      first | refine Wp.cond_dect rfl (fun h3 => ?_) (fun h3 => ?_) | refine Wp.cond_t rfl (fun h3 => ?_) (fun h3 => ?_)
      · refine Wp.seq ?_
        refine Wp.region ?_
        refine Ops.pv (pv_move rfl) rfl ?_
        first | refine Ops.pv (pv_fieldAddr0 rfl rfl) rfl ?_ | refine Ops.pv (pv_fieldAddr rfl rfl) rfl ?_
        first | refine Ops.pv (pv_load rfl rfl rfl) rfl ?_ | refine Ops.pv (pv_load rfl rfl (by assumption)) rfl ?_
        first | refine Ops.pv (pv_fieldAddr0 rfl rfl) rfl ?_ | refine Ops.pv (pv_fieldAddr rfl rfl) rfl ?_
        first | refine Ops.pv (pv_load rfl rfl rfl) rfl ?_ | refine Ops.pv (pv_load rfl rfl (by assumption)) rfl ?_
        refine Ops.ef rfl (ef_call (tr_epRecv _ _ S hA (by omega) x.id x.wait) rfl rfl) ?_
        rintro _ _ ⟨_, _, ⟨rfl, hA2⟩, rfl, rfl⟩
        refine Ops.app ?_
        obtain ⟨g1, g2, g3⟩ := meet_rel hrel x.id true x.wait
        rw [g1, g2]
        have hb1 := meetS_len S x.id (wOf true) x.wait
        refine Ops.pv (pv_move rfl) rfl ?_
        refine Ops.pv (pv_extract rfl rfl) rfl ?_
        refine Ops.pv (pv_extract rfl rfl) rfl ?_
        refine Ops.pv (pv_extract rfl rfl) rfl ?_
        refine Ops.pv (pv_assign rfl) rfl ?_
        refine Ops.pv (pv_assign rfl) rfl ?_
        refine Ops.pv (pv_assign rfl) rfl ?_
        refine Ops.nil ?_
        refine Ends.seq ?_
        refine Wp.seq ?_
        refine Wp.region ?_
        refine Ops.pv (pv_move rfl) rfl ?_
        first | refine Ops.pv (pv_fieldAddr0 rfl rfl) rfl ?_ | refine Ops.pv (pv_fieldAddr rfl rfl) rfl ?_
        first | refine Ops.pv (pv_load rfl rfl rfl) rfl ?_ | refine Ops.pv (pv_load rfl rfl (by assumption)) rfl ?_
        first | refine Ops.pv (pv_fieldAddr0 rfl rfl) rfl ?_ | refine Ops.pv (pv_fieldAddr rfl rfl) rfl ?_
        first | refine Ops.pv (pv_load rfl rfl rfl) rfl ?_ | refine Ops.pv (pv_load rfl rfl (by assumption)) rfl ?_
        refine Ops.ef rfl (ef_call (tr_deRecv b1 _ K r S.l ht (by omega) x.id x.wait) rfl rfl) ?_
        rintro _ _ ⟨_, _, ⟨rfl, v2, K2, ht2, rfl⟩, rfl, rfl⟩
        refine Ops.app ?_
        rw [← g3] at ht2
        refine Ops.pv (pv_move rfl) rfl ?_
        refine Ops.pv (pv_extract rfl rfl) rfl ?_
        refine Ops.pv (pv_extract rfl rfl) rfl ?_
        refine Ops.pv (pv_extract rfl rfl) rfl ?_
        refine Ops.pv (pv_assign rfl) rfl ?_
        refine Ops.pv (pv_assign rfl) rfl ?_
        refine Ops.pv (pv_assign rfl) rfl ?_
        refine Ops.nil ?_
        refine Ends.seq ?_
        refine Wp.seq ?_
        refine Wp.region ?_
        refine Ops.pv (pv_move rfl) rfl ?_
        refine Ops.pv (pv_move rfl) rfl ?_
        refine Ops.pv ((pv_neq rfl rfl).fls (by first | exact fun h => h rfl | decide | omega | assumption)) rfl ?_
        refine Ops.pv (pv_move rfl) rfl ?_
        refine Ops.pvg ⟨_, _, rfl, rfl, rfl⟩ (pv_move rfl) rfl ?_
        refine Ops.pvg ⟨_, _, rfl, rfl, rfl⟩ (pv_move rfl) rfl ?_
        refine Ops.pvg ⟨_, _, rfl, rfl, rfl⟩ ((pv_neq_bool rfl rfl).is (u := .bool false) (by first | rfl | (simp; done) | simp_all)) rfl ?_
        refine Ops.pv (pv_pick_false rfl rfl) rfl ?_
        refine Ops.pv (pv_move rfl) rfl ?_
        refine Ops.pvg ⟨_, _, rfl, rfl, rfl⟩ (pv_move rfl) rfl ?_
        refine Ops.pvg ⟨_, _, rfl, rfl, rfl⟩ (pv_move rfl) rfl ?_
        refine Ops.pvg ⟨_, _, rfl, rfl, rfl⟩ ((pv_neq rfl rfl).fls (by first | exact fun h => h rfl | decide | omega | assumption)) rfl ?_
        refine Ops.pv (pv_pick_false rfl rfl) rfl ?_
        refine Ops.nil ?_
        refine Ends.seq ?_
        refine Wp.cond_false rfl ?_
        refine Wp.skip ?_
        refine Ends.block_normal ?_
        refine Ends.seq ?_
        refine Wp.seq ?_
        refine Wp.region ?_
        refine Ops.pv (pv_move rfl) rfl ?_
        refine Ops.ef rfl (ef_call (tr_epState _ _ (meetS S x.id (wOf true) x.wait) hA2 (by omega)) rfl rfl) ?_
        rintro _ _ ⟨_, _, ⟨w2, C2, rfl, hc2, rfl⟩, rfl, rfl⟩
        refine Ops.app ?_
        obtain ⟨p2, q2, rfl⟩ := hc2.form
        rw [stW_rel (meet_rel2 hrel x.id true x.wait)]
        refine Ops.pv (pv_move rfl) rfl ?_
        refine Ops.pv (pv_extract rfl rfl) rfl ?_
        refine Ops.pv (pv_extract rfl rfl) rfl ?_
        refine Ops.pv (pv_assign rfl) rfl ?_
        refine Ops.pv (pv_assign rfl) rfl ?_
        refine Ops.nil ?_
        refine Ends.seq ?_
        refine Wp.seq ?_
        refine Wp.region ?_
        refine Ops.pv (pv_move rfl) rfl ?_
        refine Ops.ef rfl (ef_call (tr_deState b1 v2 K2 (meetR r S.l x.id true x.wait) (meetS S x.id (wOf true) x.wait).l ht2 (by omega)) rfl rfl) ?_
        rintro _ _ ⟨_, _, ⟨rfl, rfl⟩, rfl, rfl⟩
        refine Ops.app ?_
        obtain ⟨u2, t2, e9, hd2⟩ := ite_view (l := (meetS S x.id (wOf true) x.wait).l) ht2
        rw [e9]
        refine Ops.pv (pv_move rfl) rfl ?_
        refine Ops.pv (pv_extract rfl rfl) rfl ?_
        refine Ops.pv (pv_extract rfl rfl) rfl ?_
        refine Ops.pv (pv_assign rfl) rfl ?_
        refine Ops.pv (pv_assign rfl) rfl ?_
        refine Ops.nil ?_
        refine Ends.seq ?_
        refine Wp.seq ?_
        refine Wp.region ?_
        refine Ops.pv (pv_move rfl) rfl ?_
        refine Ops.pv (pv_move rfl) rfl ?_
        refine Ops.pv ((pv_neq rfl rfl).fls (by first | exact fun h => h rfl | decide | omega | assumption)) rfl ?_
        refine Ops.pv (pv_move rfl) rfl ?_
        refine Ops.pvg ⟨_, _, rfl, rfl, rfl⟩ (pv_move rfl) rfl ?_
        refine Ops.pvg ⟨_, _, rfl, rfl, rfl⟩ (pv_move rfl) rfl ?_
        refine Ops.efg ⟨_, _, rfl, rfl, rfl⟩ (ef_callr (tr_same C2 _ _ _ _ _ (meetS S x.id (wOf true) x.wait).l hc2.view hd2 (by omega)) rfl rfl) ?_
        rintro _ _ ⟨rfl, rfl⟩
        first | refine Ops.pvg ⟨_, _, rfl, rfl, rfl⟩ (pv_not_dec rfl) rfl ?_ | refine Ops.pvg ⟨_, _, rfl, rfl, rfl⟩ (pv_not rfl) rfl ?_
        refine Ops.pv (pv_pick_false rfl rfl) rfl ?_
        refine Ops.nil ?_
        refine Ends.seq ?_
        refine Wp.cond_false rfl ?_
        refine Wp.skip ?_
        refine Ends.block_normal ?_
        refine Ends.seq ?_
        refine Wp.region ?_
        refine Ops.pv (pv_move rfl) rfl ?_
        first | refine Ops.pv (pv_add rfl rfl (w64 (by omega) (by omega))) rfl ?_ | refine Ops.pv (pv_add rfl rfl rfl) rfl ?_
        refine Ops.pv (pv_assign rfl) rfl ?_
        refine Ops.nil ?_
        refine Ends.goes ?_
        refine Goes.back (hK (i + 1, (meetS S x.id (wOf true) x.wait), _, (meetR r S.l x.id true x.wait), v2, K2) ⟨by dsimp only; exact Nat.le_trans (meetS_len S x.id (wOf true) x.wait) (Nat.succ_le_succ hll), by dsimp only; omega, hA2, (meet_rel2 hrel x.id true x.wait), ht2⟩ (by dsimp only; omega)) ⟨rfl, rfl, rfl, rfl, trivial⟩
      · refine Wp.seq ?_
        refine Wp.region ?_
        refine Ops.pv (pv_eql rfl rfl) rfl ?_
        refine Ops.pv (pv_assign rfl) rfl ?_
        refine Ops.nil ?_
        refine Ends.seq ?_
        first | refine Wp.cond_dect rfl (fun h4 => ?_) (fun h4 => ?_) | refine Wp.cond_t rfl (fun h4 => ?_) (fun h4 => ?_)
        · refine Wp.seq ?_
          refine AnyH.start [(b2, .cells x.cells.toArray 58)] 9 rfl ?_
          refine AnyH.take 0 rfl (by kernel_rfl) (by kernel_rfl) (by kernel_rfl) PF.pf rfl (pv_move rfl) rfl ?_
          first | refine AnyH.take 1 rfl (by kernel_rfl) (by kernel_rfl) (by kernel_rfl) PF.pf rfl (pv_fieldAddr0 rfl rfl) rfl ?_ | refine AnyH.take 1 rfl (by kernel_rfl) (by kernel_rfl) (by kernel_rfl) PF.pf rfl (pv_fieldAddr rfl rfl) rfl ?_
          first | refine AnyH.take 2 rfl (by kernel_rfl) (by kernel_rfl) (by kernel_rfl) PF.pf rfl (pv_load rfl rfl rfl) rfl ?_ | refine AnyH.take 2 rfl (by kernel_rfl) (by kernel_rfl) (by kernel_rfl) PF.pf rfl (pv_load rfl rfl (by assumption)) rfl ?_
          refine AnyH.take 4 rfl (by kernel_rfl) (by kernel_rfl) (by kernel_rfl) PF.pf rfl (pv_move rfl) rfl ?_
          first | refine AnyH.take 5 rfl (by kernel_rfl) (by kernel_rfl) (by kernel_rfl) PF.pf rfl (pv_fieldAddr0 rfl rfl) rfl ?_ | refine AnyH.take 5 rfl (by kernel_rfl) (by kernel_rfl) (by kernel_rfl) PF.pf rfl (pv_fieldAddr rfl rfl) rfl ?_
          first | refine AnyH.take 6 rfl (by kernel_rfl) (by kernel_rfl) (by kernel_rfl) PF.pf rfl (pv_load rfl rfl rfl) rfl ?_ | refine AnyH.take 6 rfl (by kernel_rfl) (by kernel_rfl) (by kernel_rfl) PF.pf rfl (pv_load rfl rfl (by assumption)) rfl ?_
          refine AnyH.one 3 (by kernel_rfl) ?_
          refine Turn.ef rfl rfl (ef_call (tr_epCancel _ _ S hA (by omega) x.id) rfl rfl) ?_ ?_
          · rintro _ _ ⟨_, _, ⟨rfl, hA3⟩, rfl, rfl⟩; infer_instance
          rintro _ _ ⟨_, _, ⟨rfl, hA3⟩, rfl, rfl⟩
          refine AnyH.app ?_
          refine AnyH.one 7 (by kernel_rfl) ?_
          refine Turn.ef rfl rfl (ef_call (tr_deCancel b1 _ K r S.l ht (by omega) x.id) rfl rfl) ?_ ?_
          · rintro _ _ ⟨_, _, ⟨rfl, v3, K3, ht3, rfl⟩, rfl, rfl⟩; infer_instance
          rintro _ _ ⟨_, _, ⟨rfl, v3, K3, ht3, rfl⟩, rfl, rfl⟩
          refine AnyH.app ?_
          refine AnyH.take 8 rfl (by kernel_rfl) (by kernel_rfl) (by kernel_rfl) PF.pf rfl ((pv_neq_bool rfl rfl).is (u := .bool false) (by first | rfl | (simp; done) | simp_all)) rfl ?_
          refine AnyH.done (by kernel_rfl) ?_
          refine Ends.seq ?_
          refine Wp.cond_false rfl ?_
          refine Wp.skip ?_
          refine Ends.block_normal ?_
          refine Ends.seq ?_
          refine Wp.seq ?_
          refine Wp.region ?_
          refine Ops.pv (pv_move rfl) rfl ?_
          refine Ops.ef rfl (ef_call (tr_epState _ _ (⟨S.w, remL S.l x.id⟩ : Ep) hA3 (by have := remL_len S.l x.id; dsimp only; omega)) rfl rfl) ?_
          rintro _ _ ⟨_, _, ⟨w3, C3, rfl, hc3, rfl⟩, rfl, rfl⟩
          refine Ops.app ?_
          obtain ⟨p3, q3, rfl⟩ := hc3.form
          rw [stW_rel (rel_rem hrel x.id)]
          refine Ops.pv (pv_move rfl) rfl ?_
          refine Ops.pv (pv_extract rfl rfl) rfl ?_
          refine Ops.pv (pv_extract rfl rfl) rfl ?_
          refine Ops.pv (pv_assign rfl) rfl ?_
          refine Ops.pv (pv_assign rfl) rfl ?_
          refine Ops.nil ?_
          refine Ends.seq ?_
          refine Wp.seq ?_
          refine Wp.region ?_
          refine Ops.pv (pv_move rfl) rfl ?_
          refine Ops.ef rfl (ef_call (tr_deState b1 v3 K3 r (⟨S.w, remL S.l x.id⟩ : Ep).l ht3 (by have := remL_len S.l x.id; dsimp only; omega)) rfl rfl) ?_
          rintro _ _ ⟨_, _, ⟨rfl, rfl⟩, rfl, rfl⟩
          refine Ops.app ?_
          obtain ⟨u3, t3, e9, hd3⟩ := ite_view (l := (⟨S.w, remL S.l x.id⟩ : Ep).l) ht3
          rw [e9]
          refine Ops.pv (pv_move rfl) rfl ?_
          refine Ops.pv (pv_extract rfl rfl) rfl ?_
          refine Ops.pv (pv_extract rfl rfl) rfl ?_
          refine Ops.pv (pv_assign rfl) rfl ?_
          refine Ops.pv (pv_assign rfl) rfl ?_
          refine Ops.nil ?_
          refine Ends.seq ?_
          refine Wp.seq ?_
          refine Wp.region ?_
          refine Ops.pv (pv_move rfl) rfl ?_
          refine Ops.pv (pv_move rfl) rfl ?_
          refine Ops.pv ((pv_neq rfl rfl).fls (by first | exact fun h => h rfl | decide | omega | assumption)) rfl ?_
          refine Ops.pv (pv_move rfl) rfl ?_
          refine Ops.pvg ⟨_, _, rfl, rfl, rfl⟩ (pv_move rfl) rfl ?_
          refine Ops.pvg ⟨_, _, rfl, rfl, rfl⟩ (pv_move rfl) rfl ?_
          refine Ops.efg ⟨_, _, rfl, rfl, rfl⟩ (ef_callr (tr_same C3 _ _ _ _ _ (⟨S.w, remL S.l x.id⟩ : Ep).l hc3.view hd3 (by have := remL_len S.l x.id; dsimp only; omega)) rfl rfl) ?_
          rintro _ _ ⟨rfl, rfl⟩
          first | refine Ops.pvg ⟨_, _, rfl, rfl, rfl⟩ (pv_not_dec rfl) rfl ?_ | refine Ops.pvg ⟨_, _, rfl, rfl, rfl⟩ (pv_not rfl) rfl ?_
          refine Ops.pv (pv_pick_false rfl rfl) rfl ?_
          refine Ops.nil ?_
          refine Ends.seq ?_
          refine Wp.cond_false rfl ?_
          refine Wp.skip ?_
          refine Ends.block_normal ?_
          refine Ends.seq ?_
          refine Wp.region ?_
          refine Ops.pv (pv_move rfl) rfl ?_
          first | refine Ops.pv (pv_add rfl rfl (w64 (by omega) (by omega))) rfl ?_ | refine Ops.pv (pv_add rfl rfl rfl) rfl ?_
          refine Ops.pv (pv_assign rfl) rfl ?_
          refine Ops.nil ?_
          refine Ends.goes ?_
          refine Goes.back (hK (i + 1, (⟨S.w, remL S.l x.id⟩ : Ep), _, r, v3, K3) ⟨by dsimp only; exact Nat.le_trans (Nat.le_succ_of_le (remL_len S.l x.id)) (Nat.succ_le_succ hll), by dsimp only; omega, hA3, (rel_rem hrel x.id), ht3⟩ (by dsimp only; omega)) ⟨rfl, rfl, rfl, rfl, trivial⟩
        · refine Wp.seq ?_
          refine Wp.region ?_
          refine Ops.pv (pv_eql rfl rfl) rfl ?_
          refine Ops.pv (pv_assign rfl) rfl ?_
          refine Ops.nil ?_
          refine Ends.seq ?_
          first | refine Wp.cond_dect rfl (fun h5 => ?_) (fun h5 => ?_) | refine Wp.cond_t rfl (fun h5 => ?_) (fun h5 => ?_)
          · refine Wp.seq ?_
            refine Wp.region ?_
            refine Ops.pv (pv_move rfl) rfl ?_
            refine Ops.ef rfl (ef_call (tr_epClear _ _ S hA (by omega)) rfl rfl) ?_
            rintro _ _ ⟨_, _, ⟨C4, H1, hc4, hA4, rfl⟩, rfl, rfl⟩
            refine Ops.app ?_
            obtain ⟨p4, q4, rfl⟩ := hc4.form
            refine Ops.pv (pv_move rfl) rfl ?_
            refine Ops.ef rfl (ef_call (tr_deClear b1 _ K r S.l ht (by omega)) rfl rfl) ?_
            rintro _ _ ⟨_, _, ⟨rfl, rfl⟩, rfl, rfl⟩
            refine Ops.app ?_
            obtain ⟨dp, dq, rfl⟩ := ht.form
            refine Ops.ef rfl (ef_callr (tr_same C4 K _ _ _ _ S.l hc4.view ht.view (by omega)) rfl rfl) ?_
            rintro _ _ ⟨rfl, rfl⟩
            first | refine Ops.pv (pv_not_dec rfl) rfl ?_ | refine Ops.pv (pv_not rfl) rfl ?_
            refine Ops.nil ?_
            refine Ends.seq ?_
            refine Wp.cond_false rfl ?_
            refine Wp.skip ?_
            refine Ends.block_normal ?_
            refine Ends.seq ?_
            refine Wp.seq ?_
            refine Wp.region ?_
            refine Ops.pv (pv_move rfl) rfl ?_
            refine Ops.ef rfl (ef_call (tr_epState _ _ (⟨S.w, []⟩ : Ep) hA4 (by simp)) rfl rfl) ?_
            rintro _ _ ⟨_, _, ⟨w4, C5, rfl, hc5, rfl⟩, rfl, rfl⟩
            refine Ops.app ?_
            obtain ⟨p5, q5, rfl⟩ := hc5.form
            rw [stW_rel (rel_nil (r := r))]
            refine Ops.pv (pv_move rfl) rfl ?_
            refine Ops.pv (pv_extract rfl rfl) rfl ?_
            refine Ops.pv (pv_extract rfl rfl) rfl ?_
            refine Ops.pv (pv_assign rfl) rfl ?_
            refine Ops.pv (pv_assign rfl) rfl ?_
            refine Ops.nil ?_
            refine Ends.seq ?_
            refine Wp.seq ?_
            refine Wp.region ?_
            refine Ops.pv (pv_move rfl) rfl ?_
            refine Ops.ef rfl (ef_call (tr_deState b1 (.slice none 0 0) [] r (⟨S.w, []⟩ : Ep).l (Slc.nil 3 1) (by simp)) rfl rfl) ?_
            rintro _ _ ⟨_, _, ⟨rfl, rfl⟩, rfl, rfl⟩
            refine Ops.app ?_
            obtain ⟨u4, t4, e9, hd4⟩ := ite_view (l := (⟨S.w, []⟩ : Ep).l) (Slc.nil 3 1)
            rw [e9]
            refine Ops.pv (pv_move rfl) rfl ?_
            refine Ops.pv (pv_extract rfl rfl) rfl ?_
            refine Ops.pv (pv_extract rfl rfl) rfl ?_
            refine Ops.pv (pv_assign rfl) rfl ?_
            refine Ops.pv (pv_assign rfl) rfl ?_
            refine Ops.nil ?_
            refine Ends.seq ?_
            refine Wp.seq ?_
            refine Wp.region ?_
            refine Ops.pv (pv_move rfl) rfl ?_
            refine Ops.pv (pv_move rfl) rfl ?_
            refine Ops.pv ((pv_neq rfl rfl).fls (by first | exact fun h => h rfl | decide | omega | assumption)) rfl ?_
            refine Ops.pv (pv_move rfl) rfl ?_
            refine Ops.pvg ⟨_, _, rfl, rfl, rfl⟩ (pv_move rfl) rfl ?_
            refine Ops.pvg ⟨_, _, rfl, rfl, rfl⟩ (pv_move rfl) rfl ?_
            refine Ops.efg ⟨_, _, rfl, rfl, rfl⟩ (ef_callr (tr_same C5 _ _ _ _ _ (⟨S.w, []⟩ : Ep).l hc5.view hd4 (by simp)) rfl rfl) ?_
            rintro _ _ ⟨rfl, rfl⟩
            first | refine Ops.pvg ⟨_, _, rfl, rfl, rfl⟩ (pv_not_dec rfl) rfl ?_ | refine Ops.pvg ⟨_, _, rfl, rfl, rfl⟩ (pv_not rfl) rfl ?_
            refine Ops.pv (pv_pick_false rfl rfl) rfl ?_
            refine Ops.nil ?_
            refine Ends.seq ?_
            refine Wp.cond_false rfl ?_
            refine Wp.skip ?_
            refine Ends.block_normal ?_
            refine Ends.seq ?_
            refine Wp.region ?_
            refine Ops.pv (pv_move rfl) rfl ?_
            first | refine Ops.pv (pv_add rfl rfl (w64 (by omega) (by omega))) rfl ?_ | refine Ops.pv (pv_add rfl rfl rfl) rfl ?_
            refine Ops.pv (pv_assign rfl) rfl ?_
            refine Ops.nil ?_
            refine Ends.goes ?_
            refine Goes.back (hK (i + 1, (⟨S.w, []⟩ : Ep), _, r, (.slice none 0 0), []) ⟨by dsimp only; exact Nat.le_trans (Nat.zero_le _) (Nat.succ_le_succ hll), by dsimp only; omega, hA4, (rel_nil (r := r)), (Slc.nil 3 1)⟩ (by dsimp only; omega)) ⟨rfl, rfl, rfl, rfl, trivial⟩
          · refine Wp.skip ?_
            refine Ends.block_normal ?_
            refine Ends.seq ?_
            refine Wp.seq ?_
            refine Wp.region ?_
            refine Ops.pv (pv_move rfl) rfl ?_
            refine Ops.ef rfl (ef_call (tr_epState _ _ S hA (by omega)) rfl rfl) ?_
            rintro _ _ ⟨_, _, ⟨w5, C6, rfl, hc6, rfl⟩, rfl, rfl⟩
            refine Ops.app ?_
            obtain ⟨p6, q6, rfl⟩ := hc6.form
            rw [stW_rel hrel]
            refine Ops.pv (pv_move rfl) rfl ?_
            refine Ops.pv (pv_extract rfl rfl) rfl ?_
            refine Ops.pv (pv_extract rfl rfl) rfl ?_
            refine Ops.pv (pv_assign rfl) rfl ?_
            refine Ops.pv (pv_assign rfl) rfl ?_
            refine Ops.nil ?_
            refine Ends.seq ?_
            refine Wp.seq ?_
            refine Wp.region ?_
            refine Ops.pv (pv_move rfl) rfl ?_
            refine Ops.ef rfl (ef_call (tr_deState b1 v K r S.l ht (by omega)) rfl rfl) ?_
            rintro _ _ ⟨_, _, ⟨rfl, rfl⟩, rfl, rfl⟩
            refine Ops.app ?_
            obtain ⟨u5, t5, e9, hd5⟩ := ite_view (l := S.l) ht
            rw [e9]
            refine Ops.pv (pv_move rfl) rfl ?_
            refine Ops.pv (pv_extract rfl rfl) rfl ?_
            refine Ops.pv (pv_extract rfl rfl) rfl ?_
            refine Ops.pv (pv_assign rfl) rfl ?_
            refine Ops.pv (pv_assign rfl) rfl ?_
            refine Ops.nil ?_
            refine Ends.seq ?_
            refine Wp.seq ?_
            refine Wp.region ?_
            refine Ops.pv (pv_move rfl) rfl ?_
            refine Ops.pv (pv_move rfl) rfl ?_
            refine Ops.pv ((pv_neq rfl rfl).fls (by first | exact fun h => h rfl | decide | omega | assumption)) rfl ?_
            refine Ops.pv (pv_move rfl) rfl ?_
            refine Ops.pvg ⟨_, _, rfl, rfl, rfl⟩ (pv_move rfl) rfl ?_
            refine Ops.pvg ⟨_, _, rfl, rfl, rfl⟩ (pv_move rfl) rfl ?_
            refine Ops.efg ⟨_, _, rfl, rfl, rfl⟩ (ef_callr (tr_same C6 _ _ _ _ _ S.l hc6.view hd5 (by omega)) rfl rfl) ?_
            rintro _ _ ⟨rfl, rfl⟩
            first | refine Ops.pvg ⟨_, _, rfl, rfl, rfl⟩ (pv_not_dec rfl) rfl ?_ | refine Ops.pvg ⟨_, _, rfl, rfl, rfl⟩ (pv_not rfl) rfl ?_
            refine Ops.pv (pv_pick_false rfl rfl) rfl ?_
            refine Ops.nil ?_
            refine Ends.seq ?_
            refine Wp.cond_false rfl ?_
            refine Wp.skip ?_
            refine Ends.block_normal ?_
            refine Ends.seq ?_
            refine Wp.region ?_
            refine Ops.pv (pv_move rfl) rfl ?_
            first | refine Ops.pv (pv_add rfl rfl (w64 (by omega) (by omega))) rfl ?_ | refine Ops.pv (pv_add rfl rfl rfl) rfl ?_
            refine Ops.pv (pv_assign rfl) rfl ?_
            refine Ops.nil ?_
            refine Ends.goes ?_
            refine Goes.back (hK (i + 1, S, _, r, v, K) ⟨by dsimp only; exact Nat.le_trans (Nat.le_succ _) (Nat.succ_le_succ hll), by dsimp only; omega, hA, hrel, ht⟩ (by dsimp only; omega)) ⟨rfl, rfl, rfl, rfl, trivial⟩
  · refine Wp.exit ?_
    refine Ends.then_exit ?_
    refine Ends.then_exit ?_
    refine Ends.block_hit ?_
    refine Ends.seq ?_
    refine Wp.seq ?_
    refine Wp.region ?_
    refine Ops.pv (pv_assign rfl) rfl ?_
    refine Ops.nil ?_
    refine Ends.seq ?_
    refine Wp.ret ?_
    exact Ends.ret (res1 rfl rfl) ⟨rfl, rfl⟩

set_option maxHeartbeats 4000000 in
theorem tr_endpointMeets (G : Hp) (a : Option Addr) (c : Nat) (ops : List OpE) (ha : ArgS G 3 a (ops.map OpE.cells)) (hol : ops.length ≤ maxLen) : TrR Try.prog 8 [.slice a ops.length c] (G) (.bool true) := by
  refine Tr.enter Try.func8 rfl Try.ntmps8 rfl (fun W F => ?_)
  refine Wp.app ?_
  refine Wp.seq ?_
  refine Wp.region ?_
  refine Ops.pv (pv_assign rfl) rfl ?_
  refine Ops.nil ?_
  refine Ends.seq ?_
  refine Wp.seq ?_
  refine Wp.seq ?_
  refine Wp.region ?_
  refine Ops.ef rfl (ef_callr (tr_works18) rfl rfl) ?_
  rintro _ _ ⟨rfl, rfl⟩
  first | refine Ops.pv (pv_not_dec rfl) rfl ?_ | refine Ops.pv (pv_not rfl) rfl ?_
  refine Ops.nil ?_
  refine Ends.seq ?_
  refine Wp.cond_false rfl ?_
  refine Wp.skip ?_
  refine Ends.seq ?_
  refine Wp.seq ?_
  refine Wp.region ?_
  refine Ops.ef rfl (ef_call (tr_epNew) rfl rfl) ?_
  rintro _ _ ⟨_, _, ⟨pb1, rfl, hZ1⟩, rfl, rfl⟩
  refine Ops.app ?_
  refine Ops.pv (pv_assign rfl) rfl ?_
  refine Ops.nil ?_
  refine Ends.seq ?_
  refine Wp.seq ?_
  refine Wp.region ?_
  refine Ops.pv (pv_assign rfl) rfl ?_
  refine Ops.nil ?_
  refine Ends.seq ?_
  refine Wp.seq ?_
  refine Wp.seq ?_
  refine Wp.region ?_
  refine Ops.pv (pv_assign rfl) rfl ?_
  refine Ops.nil ?_
  refine Ends.seq ?_
  refine Wp.block ?_
  refine Wp.loopK (σ := Nat × List OpE × Ep × Hp × Value × Hp) [(0, _), (3, _)] (fun s => [(4, s.2.2.2.2.1), (5, .int .i64 s.1)]) (fun s => s.2.2.2.1 ++ (s.2.2.2.2.2 ++ (G ++ F))) (fun s => s.2.1.length ≤ s.1 ∧ s.1 ≤ 100 ∧ EpH s.2.2.1 pb1 s.2.2.2.1 ∧ MRel s.2.2.1 s.2.1 ∧ Slc 58 3 s.2.2.2.2.1 s.2.1.length (cel OpE.cells s.2.1) s.2.2.2.2.2) (fun s => ops.length - s.1) (0, [], ⟨0, []⟩, _, .slice none 0 0, []) ⟨Nat.le_refl _, Nat.zero_le _, hZ1, MRel.nil, Slc.nil _ _⟩ ⟨rfl, rfl, trivial⟩ ⟨rfl, rfl, trivial⟩ (by intro w ho; (try dsimp only [List.nil_append, List.cons_append]); exact Drop.own ho) ?_
  rintro ⟨i, A, S, H, v, K⟩ KK ⟨hll, hi, hA, hM, hs⟩ hK
  dsimp only [List.cons_append, List.nil_append] at hK ⊢
  dsimp only at hll hi hA hM hs ⊢
  obtain ⟨vp, vc, rfl⟩ := hs.form
  have hv := hs.view
  have hlen := hM.len
  have hcp : A.length ≤ vc := by obtain ⟨_, _, _, e, h, _⟩ := hv; cases e; exact h
  refine Wp.seq ?_
  refine Wp.seq ?_
  refine Wp.region ?_
  refine Ops.pv (pv_move rfl) rfl ?_
  refine Ops.pv (pv_move rfl) rfl ?_
  refine Ops.pv (pv_len_slice (T := 54) rfl rfl) rfl ?_
  refine Ops.pv (pv_lss rfl rfl) rfl ?_
  refine Ops.pv (pv_move rfl) rfl ?_
  refine Ops.pvc rfl rfl (fun hg => pv_move rfl) rfl ?_
  refine Ops.pvc rfl rfl (fun hg => Pv.setE (t := 24) rfl (cv_pos hg) (pv_lss rfl rfl)) rfl ?_
  refine Ops.pv (pv_pick_and rfl rfl) rfl ?_
  refine Ops.nil ?_
  refine Ends.seq ?_
  first | refine Wp.cond_dect rfl (fun h1 => ?_) (fun h1 => ?_) | refine Wp.cond_t rfl (fun h1 => ?_) (fun h1 => ?_)
  · obtain ⟨x, hq⟩ : ∃ x, ops[i]? = some x := ⟨_, List.getElem?_eq_getElem (by omega)⟩
    obtain ⟨_, b, o, cc, T, f, rfl, hm, hr⟩ := ha i x.cells (by rw [List.getElem?_map, hq]; rfl)
    have hbg : Blk G b (.cells cc.toArray T f) := ⟨hm⟩
    refine Wp.skip ?_
    refine Ends.seq ?_
    refine Wp.seq ?_
    refine Wp.block ?_
    refine Wp.seq ?_
    refine Wp.region ?_
    refine Ops.pv (pv_move rfl) rfl ?_
    refine Ops.pv (pv_move rfl) rfl ?_
    refine Ops.pv (pv_indexAddr rfl rfl rfl (by omega)) rfl ?_
    refine Ops.pv (pv_loadK x.cells rfl rfl rfl hr) rfl ?_
    refine Ops.ef rfl (ef_allocK tyZ58 rfl) ?_
    rintro _ _ ⟨b1, rfl, rfl⟩
    refine Ops.ef rfl (ef_storeK rfl rfl rfl rfl) ?_
    rintro _ _ ⟨rfl, rfl⟩
    refine Ops.nil ?_
    refine Ends.seq ?_
    refine Wp.seq ?_
    refine Wp.seq ?_
    refine Wp.region ?_
    first | refine Ops.pv (pv_fieldAddr0 rfl rfl) rfl ?_ | refine Ops.pv (pv_fieldAddr rfl rfl) rfl ?_
    first | refine Ops.pv (pv_load rfl rfl rfl) rfl ?_ | refine Ops.pv (pv_load rfl rfl (by assumption)) rfl ?_
    refine Ops.pv (pv_eql rfl rfl) rfl ?_
    refine Ops.nil ?_
    refine Ends.seq ?_
    first | refine Wp.cond_dect rfl (fun h2 => ?_) (fun h2 => ?_) | refine Wp.cond_t rfl (fun h2 => ?_) (fun h2 => ?_)
    · refine Wp.seq ?_
      refine Wp.region ?_
      refine Ops.pv (pv_move rfl) rfl ?_
      first | refine Ops.pv (pv_fieldAddr0 rfl rfl) rfl ?_ | refine Ops.pv (pv_fieldAddr rfl rfl) rfl ?_
      first | refine Ops.pv (pv_load rfl rfl rfl) rfl ?_ | refine Ops.pv (pv_load rfl rfl (by assumption)) rfl ?_
      refine Ops.ef rfl (ef_call (tr_epCancel _ _ S hA (by omega) x.id) rfl rfl) ?_
      rintro _ _ ⟨_, HC1, ⟨rfl, hA1⟩, rfl, rfl⟩
      refine Ops.app ?_
      skip
      refine Ops.nil ?_
      refine Ends.seq ?_
      refine Wp.seq ?_
      refine Wp.region ?_
      refine Ops.pv (pv_assign rfl) rfl ?_
      refine Ops.nil ?_
      refine Ends.seq ?_
      refine Wp.seq ?_
      refine Wp.seq ?_
      refine Wp.region ?_
      refine Ops.pv (pv_assign rfl) rfl ?_
      refine Ops.nil ?_
      refine Ends.seq ?_
      refine Wp.block ?_
      refine Wp.loopK (σ := Nat × Value × Hp) [(0, _), (3, _), (4, _), (5, _), (6, _)] (fun s => [(7, s.2.1), (8, .int .i64 s.1)]) (fun s => s.2.2 ++ (HC1 ++ (K ++ ((b1, .cells x.cells.toArray 58) :: (G ++ F))))) (fun s => s.1 ≤ A.length ∧ Slc 58 3 s.2.1 ((A.take s.1).filter (fun o => decide (o.id ≠ x.id))).length (cel OpE.cells ((A.take s.1).filter (fun o => decide (o.id ≠ x.id)))) s.2.2) (fun s => A.length - s.1) (0, .slice none 0 0, []) ⟨Nat.zero_le _, Slc.nil _ _⟩ ⟨rfl, rfl, rfl, rfl, rfl, trivial⟩ ⟨rfl, rfl, trivial⟩ (by intro w ho; (try dsimp only [List.nil_append, List.cons_append]); exact Drop.own ho) ?_
      rintro ⟨k, w, J⟩ KK ⟨hk, hj⟩ hK1
      dsimp only [List.cons_append, List.nil_append] at hK1 ⊢
      dsimp only at hk hj ⊢
      refine Wp.seq ?_
      refine Wp.seq ?_
      refine Wp.region ?_
      refine Ops.pv (pv_move rfl) rfl ?_
      refine Ops.pv (pv_move rfl) rfl ?_
      refine Ops.pv (pv_len_slice (T := 54) rfl rfl) rfl ?_
      refine Ops.pv (pv_lss rfl rfl) rfl ?_
      refine Ops.nil ?_
      refine Ends.seq ?_
      first | refine Wp.cond_dect rfl (fun h3 => ?_) (fun h3 => ?_) | refine Wp.cond_t rfl (fun h3 => ?_) (fun h3 => ?_)
      · obtain ⟨b7, o7, cap7, cc7, T7, f7, hv7, hbv7, hr7⟩ := hv.open (by omega)
        cases hv7
        obtain ⟨e, hee⟩ : ∃ e, A[k]? = some e := ⟨_, List.getElem?_eq_getElem (by omega)⟩
        have hre := cel_reads hr7 hee
        have hrf := hre
        obtain ⟨q0, q1, q2, _⟩ := hrf
        have hfl := filterT_len A k x.id
        have hft := filterT hee x.id
        refine Wp.skip ?_
        refine Ends.seq ?_
        refine Wp.seq ?_
        refine Wp.block ?_
        refine Wp.seq ?_
        refine AnyH.start (K ++ [(b1, .cells x.cells.toArray 58)]) 8 rfl ?_
        refine AnyH.take 0 rfl (by kernel_rfl) (by kernel_rfl) (by kernel_rfl) PF.pf rfl (pv_move rfl) rfl ?_
        refine AnyH.take 1 rfl (by kernel_rfl) (by kernel_rfl) (by kernel_rfl) PF.pf rfl (pv_move rfl) rfl ?_
        refine AnyH.take 2 rfl (by kernel_rfl) (by kernel_rfl) (by kernel_rfl) PF.pf rfl (pv_indexAddr rfl rfl rfl (by omega)) rfl ?_
        first | refine AnyH.take 3 rfl (by kernel_rfl) (by kernel_rfl) (by kernel_rfl) PF.pf rfl (pv_fieldAddr0 rfl rfl) rfl ?_ | refine AnyH.take 3 rfl (by kernel_rfl) (by kernel_rfl) (by kernel_rfl) PF.pf rfl (pv_fieldAddr rfl rfl) rfl ?_
        first | refine AnyH.take 4 rfl (by kernel_rfl) (by kernel_rfl) (by kernel_rfl) PF.pf rfl (pv_load rfl rfl rfl) rfl ?_ | refine AnyH.take 4 rfl (by kernel_rfl) (by kernel_rfl) (by kernel_rfl) PF.pf rfl (pv_load rfl rfl (by assumption)) rfl ?_
        first | refine AnyH.take 5 rfl (by kernel_rfl) (by kernel_rfl) (by kernel_rfl) PF.pf rfl (pv_fieldAddr0 rfl rfl) rfl ?_ | refine AnyH.take 5 rfl (by kernel_rfl) (by kernel_rfl) (by kernel_rfl) PF.pf rfl (pv_fieldAddr rfl rfl) rfl ?_
        first | refine AnyH.take 6 rfl (by kernel_rfl) (by kernel_rfl) (by kernel_rfl) PF.pf rfl (pv_load rfl rfl rfl) rfl ?_ | refine AnyH.take 6 rfl (by kernel_rfl) (by kernel_rfl) (by kernel_rfl) PF.pf rfl (pv_load rfl rfl (by assumption)) rfl ?_
        refine AnyH.take 7 rfl (by kernel_rfl) (by kernel_rfl) (by kernel_rfl) PF.pf rfl (pv_neq rfl rfl) rfl ?_
        refine AnyH.done (by kernel_rfl) ?_
        refine Ends.seq ?_
        first | refine Wp.cond_dect rfl (fun h4 => ?_) (fun h4 => ?_) | refine Wp.cond_t rfl (fun h4 => ?_) (fun h4 => ?_)
        · refine Wp.region ?_
          refine Ops.pv (pv_move rfl) rfl ?_
          refine Ops.pv (pv_move rfl) rfl ?_
          refine Ops.pv (pv_move rfl) rfl ?_
          refine Ops.pv (pv_indexAddr rfl rfl rfl (by omega)) rfl ?_
          refine Ops.pv (pv_loadK e.cells rfl rfl rfl hre) rfl ?_
          refine Ops.ef rfl (ef_buildSlice1 (k := 3) rfl rfl rfl rfl rfl) ?_
          rintro _ _ ⟨b2, rfl, rfl⟩
          refine Ops.ef rfl (ef_append (H := J) (xs := e.cells) rfl hj rfl ⟨rfl, rfl, rfl, trivial⟩ rfl rfl rfl (by omega) (by omega) rfl rfl) ?_
          rintro _ _ ⟨v1, H1, hs1, rfl, rfl⟩
          refine Ops.app ?_
          skip
          refine Ops.pv (pv_assign rfl) rfl ?_
          refine Ops.nil ?_
          refine Ends.block_normal ?_
          refine Ends.seq ?_
          refine Wp.region ?_
          refine Ops.pv (pv_move rfl) rfl ?_
          first | refine Ops.pv (pv_add rfl rfl (w64 (by omega) (by omega))) rfl ?_ | refine Ops.pv (pv_add rfl rfl rfl) rfl ?_
          refine Ops.pv (pv_assign rfl) rfl ?_
          refine Ops.nil ?_
          refine Ends.goes ?_
          refine Goes.back (hK1 (k + 1, v1, H1) ⟨by dsimp only; omega, by dsimp only; rw [hft, if_pos (by assumption), List.length_append, cel_app, cel_one1]; exact hs1⟩ (by dsimp only; omega)) ⟨rfl, rfl, rfl, rfl, rfl, rfl, rfl, trivial⟩
        · refine Wp.skip ?_
          refine Ends.block_normal ?_
          refine Ends.seq ?_
          refine Wp.region ?_
          refine Ops.pv (pv_move rfl) rfl ?_
          first | refine Ops.pv (pv_add rfl rfl (w64 (by omega) (by omega))) rfl ?_ | refine Ops.pv (pv_add rfl rfl rfl) rfl ?_
          refine Ops.pv (pv_assign rfl) rfl ?_
          refine Ops.nil ?_
          refine Ends.goes ?_
          refine Goes.back (hK1 (k + 1, w, J) ⟨by dsimp only; omega, by dsimp only; rw [hft, if_neg (by assumption), List.append_nil]; exact hj⟩ (by dsimp only; omega)) ⟨rfl, rfl, rfl, rfl, rfl, rfl, rfl, trivial⟩
      · refine Wp.exit ?_
        refine Ends.then_exit ?_
        refine Ends.then_exit ?_
        refine Ends.block_hit ?_
        refine Ends.seq ?_
        refine Wp.region ?_
        refine Ops.pv (pv_move rfl) rfl ?_
        refine Ops.pv (pv_assign rfl) rfl ?_
        refine Ops.nil ?_
        refine Ends.seq ?_
        refine Wp.seq ?_
        refine Wp.seq ?_
        refine Wp.region ?_
        first | refine Ops.pv (pv_fieldAddr0 rfl rfl) rfl ?_ | refine Ops.pv (pv_fieldAddr rfl rfl) rfl ?_
        first | refine Ops.pv (pv_load rfl rfl rfl) rfl ?_ | refine Ops.pv (pv_load rfl rfl (by assumption)) rfl ?_
        refine Ops.pv (pv_neq rfl rfl) rfl ?_
        refine Ops.pv (pv_move rfl) rfl ?_
        first | refine Ops.pvc rfl rfl (fun hg => pv_fieldAddr0 rfl rfl) rfl ?_ | refine Ops.pvc rfl rfl (fun hg => pv_fieldAddr rfl rfl) rfl ?_
        first | refine Ops.pvc rfl rfl (fun hg => Pv.setE (t := 66) rfl (cv_pos hg) (pv_load rfl rfl rfl)) rfl ?_ | refine Ops.pvc rfl rfl (fun hg => Pv.setE (t := 66) rfl (cv_pos hg) (pv_load rfl rfl (by assumption))) rfl ?_
        refine Ops.pvc rfl rfl (fun hg => Pv.setE (t := 66) rfl (cv_pos hg) (Pv.setE (t := 67) rfl (cv_pos hg) (pv_neq rfl rfl))) rfl ?_
        refine Ops.pv (pv_pick_and rfl rfl) rfl ?_
        refine Ops.nil ?_
        refine Ends.seq ?_
        refine Wp.cond_dect rfl (fun h5 => ?_) (fun h5 => (by exfalso; omega))
        refine Wp.exit ?_
        refine Ends.then_exit ?_
        refine Ends.block_hit ?_
        refine Ends.seq ?_
        refine Wp.region ?_
        refine Ops.pv (pv_move rfl) rfl ?_
        first | refine Ops.pv (pv_add rfl rfl (w64 (by omega) (by omega))) rfl ?_ | refine Ops.pv (pv_add rfl rfl rfl) rfl ?_
        refine Ops.pv (pv_assign rfl) rfl ?_
        refine Ops.nil ?_
        refine Ends.goes ?_
        obtain rfl : k = A.length := by omega
        rw [List.take_length] at hj
        refine Goes.back (hK (i + 1, A.filter (fun o => decide (o.id ≠ x.id)), ⟨S.w, remL S.l x.id⟩, _, w, J) ⟨by dsimp only; have := filterT_len A A.length x.id; rw [List.take_length] at this; omega, by dsimp only; omega, hA1, hM.cancel x.id, hj⟩ (by dsimp only; omega)) ⟨rfl, rfl, rfl, rfl, trivial⟩
    · refine Wp.skip ?_
      refine Ends.seq ?_
      refine Wp.seq ?_
      refine Wp.seq ?_
      refine Wp.region ?_
      first | refine Ops.pv (pv_fieldAddr0 rfl rfl) rfl ?_ | refine Ops.pv (pv_fieldAddr rfl rfl) rfl ?_
      first | refine Ops.pv (pv_load rfl rfl rfl) rfl ?_ | refine Ops.pv (pv_load rfl rfl (by assumption)) rfl ?_
      refine Ops.pv (pv_neq rfl rfl) rfl ?_
      refine Ops.pv (pv_move rfl) rfl ?_
      first | refine Ops.pvc rfl rfl (fun hg => pv_fieldAddr0 rfl rfl) rfl ?_ | refine Ops.pvc rfl rfl (fun hg => pv_fieldAddr rfl rfl) rfl ?_
      first | refine Ops.pvc rfl rfl (fun hg => Pv.setE (t := 66) rfl (cv_pos hg) (pv_load rfl rfl rfl)) rfl ?_ | refine Ops.pvc rfl rfl (fun hg => Pv.setE (t := 66) rfl (cv_pos hg) (pv_load rfl rfl (by assumption))) rfl ?_
      refine Ops.pvc rfl rfl (fun hg => Pv.setE (t := 66) rfl (cv_pos hg) (Pv.setE (t := 67) rfl (cv_pos hg) (pv_neq rfl rfl))) rfl ?_
      refine Ops.pv (pv_pick_and rfl rfl) rfl ?_
      refine Ops.nil ?_
      refine Ends.seq ?_
      first | refine Wp.cond_dect rfl (fun h6 => ?_) (fun h6 => ?_) | refine Wp.cond_t rfl (fun h6 => ?_) (fun h6 => ?_)
      · refine Wp.exit ?_
        refine Ends.then_exit ?_
        refine Ends.block_hit ?_
        refine Ends.seq ?_
        refine Wp.region ?_
        refine Ops.pv (pv_move rfl) rfl ?_
        first | refine Ops.pv (pv_add rfl rfl (w64 (by omega) (by omega))) rfl ?_ | refine Ops.pv (pv_add rfl rfl rfl) rfl ?_
        refine Ops.pv (pv_assign rfl) rfl ?_
        refine Ops.nil ?_
        refine Ends.goes ?_
        refine Goes.back (hK (i + 1, A, S, _, .slice vp A.length vc, K) ⟨by dsimp only; omega, by dsimp only; omega, hA, hM, hs⟩ (by dsimp only; omega)) ⟨rfl, rfl, rfl, rfl, trivial⟩
      · refine Wp.skip ?_
        refine Ends.seq ?_
        refine Wp.seq ?_
        refine Wp.region ?_
        refine Ops.pv (pv_assign rfl) rfl ?_
        refine Ops.nil ?_
        refine Ends.seq ?_
        refine Wp.seq ?_
        refine Wp.region ?_
        refine Ops.pv (pv_assign rfl) rfl ?_
        refine Ops.nil ?_
        refine Ends.seq ?_
        refine Wp.seq ?_
        refine Wp.region ?_
        refine Ops.pv (pv_assign rfl) rfl ?_
        refine Ops.nil ?_
        refine Ends.seq ?_
        refine Wp.seq ?_
        refine Wp.seq ?_
        refine Wp.region ?_
        first | refine Ops.pv (pv_fieldAddr0 rfl rfl) rfl ?_ | refine Ops.pv (pv_fieldAddr rfl rfl) rfl ?_
        first | refine Ops.pv (pv_load rfl rfl rfl) rfl ?_ | refine Ops.pv (pv_load rfl rfl (by assumption)) rfl ?_
        refine Ops.pv (pv_eql rfl rfl) rfl ?_
        refine Ops.nil ?_
        refine Ends.seq ?_
        first | refine Wp.cond_dect rfl (fun h7 => ?_) (fun h7 => ?_) | refine Wp.cond_t rfl (fun h7 => ?_) (fun h7 => ?_)
        · refine Wp.region ?_
          refine Ops.pv (pv_move rfl) rfl ?_
          first | refine Ops.pv (pv_fieldAddr0 rfl rfl) rfl ?_ | refine Ops.pv (pv_fieldAddr rfl rfl) rfl ?_
          first | refine Ops.pv (pv_load rfl rfl rfl) rfl ?_ | refine Ops.pv (pv_load rfl rfl (by assumption)) rfl ?_
          first | refine Ops.pv (pv_fieldAddr0 rfl rfl) rfl ?_ | refine Ops.pv (pv_fieldAddr rfl rfl) rfl ?_
          first | refine Ops.pv (pv_load rfl rfl rfl) rfl ?_ | refine Ops.pv (pv_load rfl rfl (by assumption)) rfl ?_
          refine Ops.ef rfl (ef_call (tr_epSend _ _ S hA (by omega) x.id x.wait) rfl rfl) ?_
          rintro _ _ ⟨_, HC2, ⟨rfl, hA2⟩, rfl, rfl⟩
          refine Ops.app ?_
          skip
          refine Ops.pv (pv_move rfl) rfl ?_
          refine Ops.pv (pv_extract rfl rfl) rfl ?_
          refine Ops.pv (pv_extract rfl rfl) rfl ?_
          refine Ops.pv (pv_extract rfl rfl) rfl ?_
          refine Ops.pv (pv_assign rfl) rfl ?_
          refine Ops.pv (pv_assign rfl) rfl ?_
          refine Ops.pv (pv_assign rfl) rfl ?_
          refine Ops.nil ?_
          refine Ends.seq ?_
          refine Wp.seq ?_
          refine Wp.seq ?_
          refine Wp.region ?_
          refine Ops.pv (pv_move rfl) rfl ?_
          refine Ops.pv (pv_neq rfl rfl) rfl ?_
          refine Ops.nil ?_
          refine Ends.seq ?_
          first | refine Wp.cond_dect rfl (fun h8 => ?_) (fun h8 => ?_) | refine Wp.cond_t rfl (fun h8 => ?_) (fun h8 => ?_)
          · have he : ¬ pushE S.l x.id = 0 := by assumption
            refine Wp.exit ?_
            refine Ends.then_exit ?_
            refine Ends.block_hit ?_
            refine Ends.seq ?_
            refine Wp.region ?_
            refine Ops.pv (pv_move rfl) rfl ?_
            first | refine Ops.pv (pv_add rfl rfl (w64 (by omega) (by omega))) rfl ?_ | refine Ops.pv (pv_add rfl rfl rfl) rfl ?_
            refine Ops.pv (pv_assign rfl) rfl ?_
            refine Ops.nil ?_
            refine Ends.goes ?_
            refine Goes.back (hK (i + 1, A, (meetS S x.id (wOf false) x.wait), _, .slice vp A.length vc, K) ⟨by dsimp only; omega, by dsimp only; omega, hA2, hM.err he, hs⟩ (by dsimp only; omega)) ⟨rfl, rfl, rfl, rfl, trivial⟩
          · have he : pushE S.l x.id = 0 := by omega
            have hw : wOf false = x.kind + 1 := (by have hk0 : x.kind = 0 := (by omega); rw [hk0]; rfl)
            rcases three_cases A x.kind with rfl | ⟨a0, t, rfl, hk⟩ | ⟨a0, t, rfl, hk⟩
            · obtain ⟨m1, m2, m3⟩ := hM.no (x := x) (wait := x.wait) (way := wOf false) hw he (by intro o ho; cases ho)
              rw [m1, m2]
              refine Wp.skip ?_
              refine Ends.seq ?_
              refine Wp.seq ?_
              refine AnyH.start (K ++ [(b1, .cells x.cells.toArray 58)]) 13 rfl ?_
              refine AnyH.take 0 rfl (by kernel_rfl) (by kernel_rfl) (by kernel_rfl) PF.pf rfl (pv_move rfl) rfl ?_
              refine AnyH.take 1 rfl (by kernel_rfl) (by kernel_rfl) (by kernel_rfl) PF.pf rfl (pv_len_slice (T := 54) rfl rfl) rfl ?_
              refine AnyH.take 2 rfl (by kernel_rfl) (by kernel_rfl) (by kernel_rfl) PF.pf rfl ((pv_gtr rfl rfl).fls (by first | exact fun h => h rfl | decide | omega | assumption)) rfl ?_
              refine AnyH.take 3 rfl (by kernel_rfl) (by kernel_rfl) (by kernel_rfl) PF.pf rfl (pv_move rfl) rfl ?_
              refine AnyH.skip 4 rfl (by kernel_rfl) (by kernel_rfl) (by kernel_rfl) PF.pf ⟨_, _, rfl, rfl, rfl⟩ rfl ?_
              refine AnyH.skip 5 rfl (by kernel_rfl) (by kernel_rfl) (by kernel_rfl) PF.pf ⟨_, _, rfl, rfl, rfl⟩ rfl ?_
              refine AnyH.skip 6 rfl (by kernel_rfl) (by kernel_rfl) (by kernel_rfl) PF.pf ⟨_, _, rfl, rfl, rfl⟩ rfl ?_
              refine AnyH.skip 7 rfl (by kernel_rfl) (by kernel_rfl) (by kernel_rfl) PF.pf ⟨_, _, rfl, rfl, rfl⟩ rfl ?_
              refine AnyH.skip 8 rfl (by kernel_rfl) (by kernel_rfl) (by kernel_rfl) PF.pf ⟨_, _, rfl, rfl, rfl⟩ rfl ?_
              refine AnyH.skip 9 rfl (by kernel_rfl) (by kernel_rfl) (by kernel_rfl) PF.pf ⟨_, _, rfl, rfl, rfl⟩ rfl ?_
              refine AnyH.skip 10 rfl (by kernel_rfl) (by kernel_rfl) (by kernel_rfl) PF.pf ⟨_, _, rfl, rfl, rfl⟩ rfl ?_
              refine AnyH.take 11 rfl (by kernel_rfl) (by kernel_rfl) (by kernel_rfl) PF.pf rfl (pv_pick_false rfl rfl) rfl ?_
              refine AnyH.take 12 rfl (by kernel_rfl) (by kernel_rfl) (by kernel_rfl) PF.pf rfl (pv_assign rfl) rfl ?_
              refine AnyH.done (by kernel_rfl) ?_
              refine Ends.seq ?_
              refine Wp.seq ?_
              refine Wp.seq ?_
              refine Wp.region ?_
              refine Ops.pv (pv_move rfl) rfl ?_
              refine Ops.pv (pv_move rfl) rfl ?_
              refine Ops.pv ((pv_neq_bool rfl rfl).is (u := .bool false) (by first | rfl | (simp; done) | simp_all)) rfl ?_
              refine Ops.pv (pv_move rfl) rfl ?_
              refine Ops.pvg ⟨_, _, rfl, rfl, rfl⟩ (pv_move rfl) rfl ?_
              refine Ops.pvg ⟨_, _, rfl, rfl, rfl⟩ (pv_move rfl) rfl ?_
              refine Ops.skipg ⟨_, _, rfl, rfl, rfl⟩ rfl ?_
              refine Ops.skipg ⟨_, _, rfl, rfl, rfl⟩ rfl ?_
              refine Ops.skipg ⟨_, _, rfl, rfl, rfl⟩ rfl ?_
              refine Ops.skipg ⟨_, _, rfl, rfl, rfl⟩ rfl ?_
              refine Ops.skipg ⟨_, _, rfl, rfl, rfl⟩ rfl ?_
              refine Ops.skipg ⟨_, _, rfl, rfl, rfl⟩ rfl ?_
              refine Ops.pvg ⟨_, _, rfl, rfl, rfl⟩ (pv_pick_false rfl rfl) rfl ?_
              refine Ops.pv (pv_pick_false rfl rfl) rfl ?_
              refine Ops.nil ?_
              refine Ends.seq ?_
              refine Wp.cond_false rfl ?_
              refine Wp.skip ?_
              refine Ends.seq ?_
              refine Wp.seq ?_
              refine Wp.seq ?_
              refine Wp.region ?_
              refine Ops.pv (pv_move rfl) rfl ?_
              refine Ops.nil ?_
              refine Ends.seq ?_
              refine Wp.cond_false rfl ?_
              refine Wp.seq ?_
              refine Wp.region ?_
              first | refine Ops.pv (pv_fieldAddr0 rfl rfl) rfl ?_ | refine Ops.pv (pv_fieldAddr rfl rfl) rfl ?_
              first | refine Ops.pv (pv_load rfl rfl rfl) rfl ?_ | refine Ops.pv (pv_load rfl rfl (by assumption)) rfl ?_
              refine Ops.nil ?_
              refine Ends.seq ?_
              first | refine Wp.cond_dect rfl (fun h9 => ?_) (fun h9 => ?_) | refine Wp.cond_t rfl (fun h9 => ?_) (fun h9 => ?_)
              · have hwt : x.wait = true := by assumption
                rw [if_pos hwt] at m3
                refine Wp.region ?_
                refine Ops.pv (pv_move rfl) rfl ?_
                refine Ops.pv (pv_loadK x.cells rfl rfl rfl ⟨rfl, rfl, rfl, trivial⟩) rfl ?_
                refine Ops.ef rfl (ef_buildSlice1 (k := 3) rfl rfl rfl rfl rfl) ?_
                rintro _ _ ⟨b3, rfl, rfl⟩
                refine Ops.ef rfl (ef_append (H := K) (xs := x.cells) rfl hs rfl ⟨rfl, rfl, rfl, trivial⟩ rfl rfl rfl (by omega) (by omega) rfl rfl) ?_
                rintro _ _ ⟨v2, H2, hs2, rfl, rfl⟩
                refine Ops.app ?_
                rw [← cel_one1 (f := OpE.cells) x, ← cel_app, show ([] : List OpE) ++ [x] = [x] from rfl, show ([] : List OpE).length + 1 = [x].length by simp] at hs2
                refine Ops.pv (pv_assign rfl) rfl ?_
                refine Ops.nil ?_
                refine Ends.seq ?_
                refine Wp.seq ?_
                refine Wp.region ?_
                refine Ops.pv (pv_assign rfl) rfl ?_
                refine Ops.nil ?_
                refine Ends.seq ?_
                refine Wp.block ?_
                have h2 := hs2
                obtain ⟨wp, wc, ew⟩ := h2.form
                rw [ew] at h2 ⊢
                have hv2 := h2.view
                have hb8 : [x].length ≤ i + 1 := by simp only [List.length_append, List.length_cons, List.length_nil] at hll ⊢; omega
                have hb9 : [x].length ≤ 101 := by omega
                refine Wp.loopK (σ := Nat) [(0, _), (3, _), (4, _), (5, _)] (fun s => [(13, .int .i64 s)]) (fun s => H2 ++ (HC2 ++ (G ++ F))) (fun s => s ≥ 1) (fun s => [x].length - s) 1 (Nat.le_refl 1) ⟨rfl, rfl, rfl, rfl, trivial⟩ ⟨rfl, trivial⟩ (by intro w ho; (try dsimp only [List.nil_append, List.cons_append]); exact Drop.own ho) ?_
                rintro k KK hk1 hK1
                dsimp only [List.cons_append, List.nil_append] at hK1 ⊢
                refine Wp.seq ?_
                refine Wp.seq ?_
                refine Wp.region ?_
                refine Ops.pv (pv_move rfl) rfl ?_
                refine Ops.pv (pv_move rfl) rfl ?_
                refine Ops.pv (pv_len_slice (T := 54) rfl rfl) rfl ?_
                refine Ops.pv (pv_lss rfl rfl) rfl ?_
                refine Ops.nil ?_
                refine Ends.seq ?_
                first | refine Wp.cond_dect rfl (fun h10 => ?_) (fun h10 => ?_) | refine Wp.cond_t rfl (fun h10 => ?_) (fun h10 => ?_)
                · obtain ⟨b8, o8, cap8, cc8, T8, f8, hv8, hbv8, hr8⟩ := hv2.open (by omega)
                  cases hv8
                  obtain ⟨e, hee⟩ : ∃ e, [x][k]? = some e := ⟨_, List.getElem?_eq_getElem (by omega)⟩
                  obtain ⟨d, hde⟩ : ∃ d, [x][0]? = some d := ⟨_, List.getElem?_eq_getElem (by omega)⟩
                  obtain ⟨e0, e1, e2, _⟩ := cel_reads hr8 hee
                  obtain ⟨d0, d1, d2, _⟩ := cel_reads hr8 hde
                  have hkk : e.kind = d.kind := m3.same (List.mem_of_getElem? hee) (List.mem_of_getElem? hde)
                  refine Wp.skip ?_
                  refine Ends.seq ?_
                  refine Wp.seq ?_
                  refine Wp.block ?_
                  refine Wp.seq ?_
                  refine AnyH.start H2 10 rfl ?_
                  refine AnyH.take 0 rfl (by kernel_rfl) (by kernel_rfl) (by kernel_rfl) PF.pf rfl (pv_move rfl) rfl ?_
                  refine AnyH.take 1 rfl (by kernel_rfl) (by kernel_rfl) (by kernel_rfl) PF.pf rfl (pv_move rfl) rfl ?_
                  refine AnyH.take 2 rfl (by kernel_rfl) (by kernel_rfl) (by kernel_rfl) PF.pf rfl (pv_indexAddr rfl rfl rfl (by omega)) rfl ?_
                  first | refine AnyH.take 3 rfl (by kernel_rfl) (by kernel_rfl) (by kernel_rfl) PF.pf rfl (pv_fieldAddr0 rfl rfl) rfl ?_ | refine AnyH.take 3 rfl (by kernel_rfl) (by kernel_rfl) (by kernel_rfl) PF.pf rfl (pv_fieldAddr rfl rfl) rfl ?_
                  first | refine AnyH.take 4 rfl (by kernel_rfl) (by kernel_rfl) (by kernel_rfl) PF.pf rfl (pv_load rfl rfl rfl) rfl ?_ | refine AnyH.take 4 rfl (by kernel_rfl) (by kernel_rfl) (by kernel_rfl) PF.pf rfl (pv_load rfl rfl (by assumption)) rfl ?_
                  refine AnyH.take 5 rfl (by kernel_rfl) (by kernel_rfl) (by kernel_rfl) PF.pf rfl (pv_move rfl) rfl ?_
                  refine AnyH.take 6 rfl (by kernel_rfl) (by kernel_rfl) (by kernel_rfl) PF.pf rfl (pv_indexAddr (i := 0) rfl rfl rfl (by omega)) rfl ?_
                  first | refine AnyH.take 7 rfl (by kernel_rfl) (by kernel_rfl) (by kernel_rfl) PF.pf rfl (pv_fieldAddr0 rfl rfl) rfl ?_ | refine AnyH.take 7 rfl (by kernel_rfl) (by kernel_rfl) (by kernel_rfl) PF.pf rfl (pv_fieldAddr rfl rfl) rfl ?_
                  first | refine AnyH.take 8 rfl (by kernel_rfl) (by kernel_rfl) (by kernel_rfl) PF.pf rfl (pv_load rfl rfl rfl) rfl ?_ | refine AnyH.take 8 rfl (by kernel_rfl) (by kernel_rfl) (by kernel_rfl) PF.pf rfl (pv_load rfl rfl (by assumption)) rfl ?_
                  refine AnyH.take 9 rfl (by kernel_rfl) (by kernel_rfl) (by kernel_rfl) PF.pf rfl ((pv_neq rfl rfl).fls (fun h => h hkk)) rfl ?_
                  refine AnyH.done (by kernel_rfl) ?_
                  refine Ends.seq ?_
                  refine Wp.cond_false rfl ?_
                  refine Wp.skip ?_
                  refine Ends.block_normal ?_
                  refine Ends.seq ?_
                  refine Wp.region ?_
                  refine Ops.pv (pv_move rfl) rfl ?_
                  first | refine Ops.pv (pv_add rfl rfl (w64 (by omega) (by omega))) rfl ?_ | refine Ops.pv (pv_add rfl rfl rfl) rfl ?_
                  refine Ops.pv (pv_assign rfl) rfl ?_
                  refine Ops.nil ?_
                  refine Ends.goes ?_
                  refine Goes.back (hK1 (k + 1) (by omega) (by omega)) ⟨rfl, rfl, rfl, rfl, rfl, trivial⟩
                · refine Wp.exit ?_
                  refine Ends.then_exit ?_
                  refine Ends.then_exit ?_
                  refine Ends.block_hit ?_
                  refine Ends.block_normal ?_
                  refine Ends.seq ?_
                  refine Wp.region ?_
                  refine Ops.pv (pv_move rfl) rfl ?_
                  first | refine Ops.pv (pv_add rfl rfl (w64 (by omega) (by omega))) rfl ?_ | refine Ops.pv (pv_add rfl rfl rfl) rfl ?_
                  refine Ops.pv (pv_assign rfl) rfl ?_
                  refine Ops.nil ?_
                  refine Ends.goes ?_
                  refine Goes.back (hK (i + 1, [x], (meetS S x.id (wOf false) x.wait), _, .slice wp [x].length wc, H2) ⟨hb8, by dsimp only; omega, hA2, m3, h2⟩ (by dsimp only; omega)) ⟨rfl, rfl, rfl, rfl, trivial⟩
              · have hwt : ¬ x.wait = true := by simp_all
                rw [if_neg hwt] at m3
                refine Wp.skip ?_
                refine Ends.seq ?_
                refine Wp.seq ?_
                refine Wp.region ?_
                refine Ops.pv (pv_assign rfl) rfl ?_
                refine Ops.nil ?_
                refine Ends.seq ?_
                refine Wp.block ?_
                have h2 := hs
                obtain ⟨wp, wc, ew⟩ := h2.form
                rw [ew] at h2 ⊢
                have hv2 := h2.view
                have hb8 : ([] : List OpE).length ≤ i + 1 := by simp only [List.length_append, List.length_cons, List.length_nil] at hll ⊢; omega
                have hb9 : ([] : List OpE).length ≤ 101 := by omega
                refine Wp.loopK (σ := Nat) [(0, _), (3, _), (4, _), (5, _)] (fun s => [(13, .int .i64 s)]) (fun s => K ++ (HC2 ++ (G ++ F))) (fun s => s ≥ 1) (fun s => ([] : List OpE).length - s) 1 (Nat.le_refl 1) ⟨rfl, rfl, rfl, rfl, trivial⟩ ⟨rfl, trivial⟩ (by intro w ho; (try dsimp only [List.nil_append, List.cons_append]); exact Drop.own ho) ?_
                rintro k KK hk1 hK1
                dsimp only [List.cons_append, List.nil_append] at hK1 ⊢
                refine Wp.seq ?_
                refine Wp.seq ?_
                refine Wp.region ?_
                refine Ops.pv (pv_move rfl) rfl ?_
                refine Ops.pv (pv_move rfl) rfl ?_
                refine Ops.pv (pv_len_slice (T := 54) rfl rfl) rfl ?_
                refine Ops.pv (pv_lss rfl rfl) rfl ?_
                refine Ops.nil ?_
                refine Ends.seq ?_
                first | refine Wp.cond_dect rfl (fun h11 => ?_) (fun h11 => ?_) | refine Wp.cond_t rfl (fun h11 => ?_) (fun h11 => ?_)
                · obtain ⟨b8, o8, cap8, cc8, T8, f8, hv8, hbv8, hr8⟩ := hv2.open (by omega)
                  cases hv8
                  obtain ⟨e, hee⟩ : ∃ e, ([] : List OpE)[k]? = some e := ⟨_, List.getElem?_eq_getElem (by omega)⟩
                  obtain ⟨d, hde⟩ : ∃ d, ([] : List OpE)[0]? = some d := ⟨_, List.getElem?_eq_getElem (by omega)⟩
                  obtain ⟨e0, e1, e2, _⟩ := cel_reads hr8 hee
                  obtain ⟨d0, d1, d2, _⟩ := cel_reads hr8 hde
                  have hkk : e.kind = d.kind := m3.same (List.mem_of_getElem? hee) (List.mem_of_getElem? hde)
                  refine Wp.skip ?_
                  refine Ends.seq ?_
                  refine Wp.seq ?_
                  refine Wp.block ?_
                  refine Wp.seq ?_
                  refine AnyH.start K 10 rfl ?_
                  refine AnyH.take 0 rfl (by kernel_rfl) (by kernel_rfl) (by kernel_rfl) PF.pf rfl (pv_move rfl) rfl ?_
                  refine AnyH.take 1 rfl (by kernel_rfl) (by kernel_rfl) (by kernel_rfl) PF.pf rfl (pv_move rfl) rfl ?_
                  refine AnyH.take 2 rfl (by kernel_rfl) (by kernel_rfl) (by kernel_rfl) PF.pf rfl (pv_indexAddr rfl rfl rfl (by omega)) rfl ?_
                  first | refine AnyH.take 3 rfl (by kernel_rfl) (by kernel_rfl) (by kernel_rfl) PF.pf rfl (pv_fieldAddr0 rfl rfl) rfl ?_ | refine AnyH.take 3 rfl (by kernel_rfl) (by kernel_rfl) (by kernel_rfl) PF.pf rfl (pv_fieldAddr rfl rfl) rfl ?_
                  first | refine AnyH.take 4 rfl (by kernel_rfl) (by kernel_rfl) (by kernel_rfl) PF.pf rfl (pv_load rfl rfl rfl) rfl ?_ | refine AnyH.take 4 rfl (by kernel_rfl) (by kernel_rfl) (by kernel_rfl) PF.pf rfl (pv_load rfl rfl (by assumption)) rfl ?_
                  refine AnyH.take 5 rfl (by kernel_rfl) (by kernel_rfl) (by kernel_rfl) PF.pf rfl (pv_move rfl) rfl ?_
                  refine AnyH.take 6 rfl (by kernel_rfl) (by kernel_rfl) (by kernel_rfl) PF.pf rfl (pv_indexAddr (i := 0) rfl rfl rfl (by omega)) rfl ?_
                  first | refine AnyH.take 7 rfl (by kernel_rfl) (by kernel_rfl) (by kernel_rfl) PF.pf rfl (pv_fieldAddr0 rfl rfl) rfl ?_ | refine AnyH.take 7 rfl (by kernel_rfl) (by kernel_rfl) (by kernel_rfl) PF.pf rfl (pv_fieldAddr rfl rfl) rfl ?_
                  first | refine AnyH.take 8 rfl (by kernel_rfl) (by kernel_rfl) (by kernel_rfl) PF.pf rfl (pv_load rfl rfl rfl) rfl ?_ | refine AnyH.take 8 rfl (by kernel_rfl) (by kernel_rfl) (by kernel_rfl) PF.pf rfl (pv_load rfl rfl (by assumption)) rfl ?_
                  refine AnyH.take 9 rfl (by kernel_rfl) (by kernel_rfl) (by kernel_rfl) PF.pf rfl ((pv_neq rfl rfl).fls (fun h => h hkk)) rfl ?_
                  refine AnyH.done (by kernel_rfl) ?_
                  refine Ends.seq ?_
                  refine Wp.cond_false rfl ?_
                  refine Wp.skip ?_
                  refine Ends.block_normal ?_
                  refine Ends.seq ?_
                  refine Wp.region ?_
                  refine Ops.pv (pv_move rfl) rfl ?_
                  first | refine Ops.pv (pv_add rfl rfl (w64 (by omega) (by omega))) rfl ?_ | refine Ops.pv (pv_add rfl rfl rfl) rfl ?_
                  refine Ops.pv (pv_assign rfl) rfl ?_
                  refine Ops.nil ?_
                  refine Ends.goes ?_
                  refine Goes.back (hK1 (k + 1) (by omega) (by omega)) ⟨rfl, rfl, rfl, rfl, rfl, trivial⟩
                · refine Wp.exit ?_
                  refine Ends.then_exit ?_
                  refine Ends.then_exit ?_
                  refine Ends.block_hit ?_
                  refine Ends.block_normal ?_
                  refine Ends.seq ?_
                  refine Wp.region ?_
                  refine Ops.pv (pv_move rfl) rfl ?_
                  first | refine Ops.pv (pv_add rfl rfl (w64 (by omega) (by omega))) rfl ?_ | refine Ops.pv (pv_add rfl rfl rfl) rfl ?_
                  refine Ops.pv (pv_assign rfl) rfl ?_
                  refine Ops.nil ?_
                  refine Ends.goes ?_
                  refine Goes.back (hK (i + 1, ([] : List OpE), (meetS S x.id (wOf false) x.wait), _, .slice wp ([] : List OpE).length wc, K) ⟨hb8, by dsimp only; omega, hA2, m3, h2⟩ (by dsimp only; omega)) ⟨rfl, rfl, rfl, rfl, trivial⟩
            · obtain ⟨b7, o7, cap7, cc7, T7, f7, hv7, hbv7, hr7⟩ := hv.open (by simp)
              cases hv7
              obtain ⟨q0, q1, q2, _⟩ := cel_reads (i := 0) hr7 rfl
              obtain ⟨m1, m2, m3⟩ := hM.yes (x := x) (wait := x.wait) (way := wOf false) hw he hk
              rw [m1, m2]
              refine Wp.skip ?_
              refine Ends.seq ?_
              refine Wp.seq ?_
              refine AnyH.start (K ++ [(b1, .cells x.cells.toArray 58)]) 13 rfl ?_
              refine AnyH.take 0 rfl (by kernel_rfl) (by kernel_rfl) (by kernel_rfl) PF.pf rfl (pv_move rfl) rfl ?_
              refine AnyH.take 1 rfl (by kernel_rfl) (by kernel_rfl) (by kernel_rfl) PF.pf rfl (pv_len_slice (T := 54) rfl rfl) rfl ?_
              refine AnyH.take 2 rfl (by kernel_rfl) (by kernel_rfl) (by kernel_rfl) PF.pf rfl ((pv_gtr rfl rfl).tru (by first | rfl | decide | omega | assumption | (simp; done) | (simp; omega))) rfl ?_
              refine AnyH.take 3 rfl (by kernel_rfl) (by kernel_rfl) (by kernel_rfl) PF.pf rfl (pv_move rfl) rfl ?_
              refine AnyH.take 4 rfl (by kernel_rfl) (by kernel_rfl) (by kernel_rfl) PF.pf ⟨_, _, rfl, rfl, rfl⟩ (pv_move rfl) rfl ?_
              refine AnyH.take 5 rfl (by kernel_rfl) (by kernel_rfl) (by kernel_rfl) PF.pf ⟨_, _, rfl, rfl, rfl⟩ (pv_indexAddr (i := 0) rfl rfl rfl (by simp)) rfl ?_
              first | refine AnyH.take 6 rfl (by kernel_rfl) (by kernel_rfl) (by kernel_rfl) PF.pf ⟨_, _, rfl, rfl, rfl⟩ (pv_fieldAddr0 rfl rfl) rfl ?_ | refine AnyH.take 6 rfl (by kernel_rfl) (by kernel_rfl) (by kernel_rfl) PF.pf ⟨_, _, rfl, rfl, rfl⟩ (pv_fieldAddr rfl rfl) rfl ?_
              first | refine AnyH.take 7 rfl (by kernel_rfl) (by kernel_rfl) (by kernel_rfl) PF.pf ⟨_, _, rfl, rfl, rfl⟩ (pv_load rfl rfl rfl) rfl ?_ | refine AnyH.take 7 rfl (by kernel_rfl) (by kernel_rfl) (by kernel_rfl) PF.pf ⟨_, _, rfl, rfl, rfl⟩ (pv_load rfl rfl (by assumption)) rfl ?_
              first | refine AnyH.take 8 rfl (by kernel_rfl) (by kernel_rfl) (by kernel_rfl) PF.pf ⟨_, _, rfl, rfl, rfl⟩ (pv_fieldAddr0 rfl rfl) rfl ?_ | refine AnyH.take 8 rfl (by kernel_rfl) (by kernel_rfl) (by kernel_rfl) PF.pf ⟨_, _, rfl, rfl, rfl⟩ (pv_fieldAddr rfl rfl) rfl ?_
              first | refine AnyH.take 9 rfl (by kernel_rfl) (by kernel_rfl) (by kernel_rfl) PF.pf ⟨_, _, rfl, rfl, rfl⟩ (pv_load rfl rfl rfl) rfl ?_ | refine AnyH.take 9 rfl (by kernel_rfl) (by kernel_rfl) (by kernel_rfl) PF.pf ⟨_, _, rfl, rfl, rfl⟩ (pv_load rfl rfl (by assumption)) rfl ?_
              refine AnyH.take 10 rfl (by kernel_rfl) (by kernel_rfl) (by kernel_rfl) PF.pf ⟨_, _, rfl, rfl, rfl⟩ ((pv_neq rfl rfl).tru (by first | rfl | decide | omega | assumption | (simp; done) | (simp; omega))) rfl ?_
              refine AnyH.take 11 rfl (by kernel_rfl) (by kernel_rfl) (by kernel_rfl) PF.pf rfl (pv_pick_true rfl rfl) rfl ?_
              refine AnyH.take 12 rfl (by kernel_rfl) (by kernel_rfl) (by kernel_rfl) PF.pf rfl (pv_assign rfl) rfl ?_
              refine AnyH.done (by kernel_rfl) ?_
              refine Ends.seq ?_
              refine Wp.seq ?_
              refine Wp.seq ?_
              refine Wp.region ?_
              refine Ops.pv (pv_move rfl) rfl ?_
              refine Ops.pv (pv_move rfl) rfl ?_
              refine Ops.pv ((pv_neq_bool rfl rfl).is (u := .bool false) (by first | rfl | (simp; done) | simp_all)) rfl ?_
              refine Ops.pv (pv_move rfl) rfl ?_
              refine Ops.pvg ⟨_, _, rfl, rfl, rfl⟩ (pv_move rfl) rfl ?_
              refine Ops.pvg ⟨_, _, rfl, rfl, rfl⟩ (pv_move rfl) rfl ?_
              refine Ops.pvg ⟨_, _, rfl, rfl, rfl⟩ (pv_move rfl) rfl ?_
              refine Ops.pvg ⟨_, _, rfl, rfl, rfl⟩ (pv_move rfl) rfl ?_
              refine Ops.pvg ⟨_, _, rfl, rfl, rfl⟩ (pv_indexAddr (i := 0) rfl rfl rfl (by simp)) rfl ?_
              first | refine Ops.pvg ⟨_, _, rfl, rfl, rfl⟩ (pv_fieldAddr0 rfl rfl) rfl ?_ | refine Ops.pvg ⟨_, _, rfl, rfl, rfl⟩ (pv_fieldAddr rfl rfl) rfl ?_
              refine Ops.pvg ⟨_, _, rfl, rfl, rfl⟩ (pv_load rfl rfl q1) rfl ?_
              refine Ops.pvg ⟨_, _, rfl, rfl, rfl⟩ ((pv_neq rfl rfl).fls (by first | exact fun h => h rfl | decide | omega | assumption)) rfl ?_
              refine Ops.pvg ⟨_, _, rfl, rfl, rfl⟩ (pv_pick_true rfl rfl) rfl ?_
              refine Ops.pv (pv_pick_false rfl rfl) rfl ?_
              refine Ops.nil ?_
              refine Ends.seq ?_
              refine Wp.cond_false rfl ?_
              refine Wp.skip ?_
              refine Ends.seq ?_
              refine Wp.seq ?_
              refine Wp.seq ?_
              refine Wp.region ?_
              refine Ops.pv (pv_move rfl) rfl ?_
              refine Ops.nil ?_
              refine Ends.seq ?_
              refine Wp.cond_true rfl ?_
              refine Wp.region ?_
              refine Ops.ef rfl (ef_buildSlice0 rfl) ?_
              rintro _ _ ⟨b4, rfl, rfl⟩
              refine Ops.pv (pv_move rfl) rfl ?_
              refine Ops.pv (pv_sliceL (i := 1) (j := t.length + 1) (r := (((a0 :: t).drop 1).take (t.length + 1 - 1)).length) rfl ⟨_, rfl⟩ rfl (by omega) hcp (plen (l := a0 :: t) (by omega) (by simp)).symm) rfl ?_
              refine Ops.ef rfl (ef_appendV (H := [(b4, .cells ([] : List Value).toArray 58)]) rfl (slc_empty' 58 3 b4) rfl ((hv.part (f := OpE.cells) (i := 1) (j := t.length + 1) (by omega) (by simp)).mono (by intro p hp; simp [hp])) (cel_one _) (by simp only [List.length_take, List.length_drop, List.length_cons] at hll ⊢; omega) (by simp only [List.length_take, List.length_drop, List.length_cons] at hll ⊢; omega) rfl rfl) ?_
              rintro _ _ ⟨v3, H3, hs3, rfl, rfl⟩
              refine Ops.app ?_
              rw [Nat.zero_add, List.nil_append, show ((a0 :: t).drop 1).take (t.length + 1 - 1) = t by simp] at hs3
              refine Ops.pv (pv_assign rfl) rfl ?_
              refine Ops.nil ?_
              refine Ends.seq ?_
              refine Wp.seq ?_
              refine Wp.region ?_
              refine Ops.pv (pv_assign rfl) rfl ?_
              refine Ops.nil ?_
              refine Ends.seq ?_
              refine Wp.block ?_
              have h2 := hs3
              obtain ⟨wp, wc, ew⟩ := h2.form
              rw [ew] at h2 ⊢
              have hv2 := h2.view
              have hb8 : t.length ≤ i + 1 := by simp only [List.length_append, List.length_cons, List.length_nil] at hll ⊢; omega
              have hb9 : t.length ≤ 101 := by omega
              refine Wp.loopK (σ := Nat) [(0, _), (3, _), (4, _), (5, _)] (fun s => [(13, .int .i64 s)]) (fun s => H3 ++ (HC2 ++ (G ++ F))) (fun s => s ≥ 1) (fun s => t.length - s) 1 (Nat.le_refl 1) ⟨rfl, rfl, rfl, rfl, trivial⟩ ⟨rfl, trivial⟩ (by intro w ho; (try dsimp only [List.nil_append, List.cons_append]); exact Drop.own ho) ?_
              rintro k KK hk1 hK1
              dsimp only [List.cons_append, List.nil_append] at hK1 ⊢
              refine Wp.seq ?_
              refine Wp.seq ?_
              refine Wp.region ?_
              refine Ops.pv (pv_move rfl) rfl ?_
              refine Ops.pv (pv_move rfl) rfl ?_
              refine Ops.pv (pv_len_slice (T := 54) rfl rfl) rfl ?_
              refine Ops.pv (pv_lss rfl rfl) rfl ?_
              refine Ops.nil ?_
              refine Ends.seq ?_
              first | refine Wp.cond_dect rfl (fun h12 => ?_) (fun h12 => ?_) | refine Wp.cond_t rfl (fun h12 => ?_) (fun h12 => ?_)
              · obtain ⟨b8, o8, cap8, cc8, T8, f8, hv8, hbv8, hr8⟩ := hv2.open (by omega)
                cases hv8
                obtain ⟨e, hee⟩ : ∃ e, t[k]? = some e := ⟨_, List.getElem?_eq_getElem (by omega)⟩
                obtain ⟨d, hde⟩ : ∃ d, t[0]? = some d := ⟨_, List.getElem?_eq_getElem (by omega)⟩
                obtain ⟨e0, e1, e2, _⟩ := cel_reads hr8 hee
                obtain ⟨d0, d1, d2, _⟩ := cel_reads hr8 hde
                have hkk : e.kind = d.kind := m3.same (List.mem_of_getElem? hee) (List.mem_of_getElem? hde)
                refine Wp.skip ?_
                refine Ends.seq ?_
                refine Wp.seq ?_
                refine Wp.block ?_
                refine Wp.seq ?_
                refine AnyH.start H3 10 rfl ?_
                refine AnyH.take 0 rfl (by kernel_rfl) (by kernel_rfl) (by kernel_rfl) PF.pf rfl (pv_move rfl) rfl ?_
                refine AnyH.take 1 rfl (by kernel_rfl) (by kernel_rfl) (by kernel_rfl) PF.pf rfl (pv_move rfl) rfl ?_
                refine AnyH.take 2 rfl (by kernel_rfl) (by kernel_rfl) (by kernel_rfl) PF.pf rfl (pv_indexAddr rfl rfl rfl (by omega)) rfl ?_
                first | refine AnyH.take 3 rfl (by kernel_rfl) (by kernel_rfl) (by kernel_rfl) PF.pf rfl (pv_fieldAddr0 rfl rfl) rfl ?_ | refine AnyH.take 3 rfl (by kernel_rfl) (by kernel_rfl) (by kernel_rfl) PF.pf rfl (pv_fieldAddr rfl rfl) rfl ?_
                first | refine AnyH.take 4 rfl (by kernel_rfl) (by kernel_rfl) (by kernel_rfl) PF.pf rfl (pv_load rfl rfl rfl) rfl ?_ | refine AnyH.take 4 rfl (by kernel_rfl) (by kernel_rfl) (by kernel_rfl) PF.pf rfl (pv_load rfl rfl (by assumption)) rfl ?_
                refine AnyH.take 5 rfl (by kernel_rfl) (by kernel_rfl) (by kernel_rfl) PF.pf rfl (pv_move rfl) rfl ?_
                refine AnyH.take 6 rfl (by kernel_rfl) (by kernel_rfl) (by kernel_rfl) PF.pf rfl (pv_indexAddr (i := 0) rfl rfl rfl (by omega)) rfl ?_
                first | refine AnyH.take 7 rfl (by kernel_rfl) (by kernel_rfl) (by kernel_rfl) PF.pf rfl (pv_fieldAddr0 rfl rfl) rfl ?_ | refine AnyH.take 7 rfl (by kernel_rfl) (by kernel_rfl) (by kernel_rfl) PF.pf rfl (pv_fieldAddr rfl rfl) rfl ?_
                first | refine AnyH.take 8 rfl (by kernel_rfl) (by kernel_rfl) (by kernel_rfl) PF.pf rfl (pv_load rfl rfl rfl) rfl ?_ | refine AnyH.take 8 rfl (by kernel_rfl) (by kernel_rfl) (by kernel_rfl) PF.pf rfl (pv_load rfl rfl (by assumption)) rfl ?_
                refine AnyH.take 9 rfl (by kernel_rfl) (by kernel_rfl) (by kernel_rfl) PF.pf rfl ((pv_neq rfl rfl).fls (fun h => h hkk)) rfl ?_
                refine AnyH.done (by kernel_rfl) ?_
                refine Ends.seq ?_
                refine Wp.cond_false rfl ?_
                refine Wp.skip ?_
                refine Ends.block_normal ?_
                refine Ends.seq ?_
                refine Wp.region ?_
                refine Ops.pv (pv_move rfl) rfl ?_
                first | refine Ops.pv (pv_add rfl rfl (w64 (by omega) (by omega))) rfl ?_ | refine Ops.pv (pv_add rfl rfl rfl) rfl ?_
                refine Ops.pv (pv_assign rfl) rfl ?_
                refine Ops.nil ?_
                refine Ends.goes ?_
                refine Goes.back (hK1 (k + 1) (by omega) (by omega)) ⟨rfl, rfl, rfl, rfl, rfl, trivial⟩
              · refine Wp.exit ?_
                refine Ends.then_exit ?_
                refine Ends.then_exit ?_
                refine Ends.block_hit ?_
                refine Ends.block_normal ?_
                refine Ends.seq ?_
                refine Wp.region ?_
                refine Ops.pv (pv_move rfl) rfl ?_
                first | refine Ops.pv (pv_add rfl rfl (w64 (by omega) (by omega))) rfl ?_ | refine Ops.pv (pv_add rfl rfl rfl) rfl ?_
                refine Ops.pv (pv_assign rfl) rfl ?_
                refine Ops.nil ?_
                refine Ends.goes ?_
                refine Goes.back (hK (i + 1, t, (meetS S x.id (wOf false) x.wait), _, .slice wp t.length wc, H3) ⟨hb8, by dsimp only; omega, hA2, m3, h2⟩ (by dsimp only; omega)) ⟨rfl, rfl, rfl, rfl, trivial⟩
            · obtain ⟨b7, o7, cap7, cc7, T7, f7, hv7, hbv7, hr7⟩ := hv.open (by simp)
              cases hv7
              obtain ⟨q0, q1, q2, _⟩ := cel_reads (i := 0) hr7 rfl
              obtain ⟨m1, m2, m3⟩ := hM.no (x := x) (wait := x.wait) (way := wOf false) hw he (fun o ho => (hM.same ho (List.mem_cons_self ..)).trans hk)
              rw [m1, m2]
              refine Wp.skip ?_
              refine Ends.seq ?_
              refine Wp.seq ?_
              refine AnyH.start (K ++ [(b1, .cells x.cells.toArray 58)]) 13 rfl ?_
              refine AnyH.take 0 rfl (by kernel_rfl) (by kernel_rfl) (by kernel_rfl) PF.pf rfl (pv_move rfl) rfl ?_
              refine AnyH.take 1 rfl (by kernel_rfl) (by kernel_rfl) (by kernel_rfl) PF.pf rfl (pv_len_slice (T := 54) rfl rfl) rfl ?_
              refine AnyH.take 2 rfl (by kernel_rfl) (by kernel_rfl) (by kernel_rfl) PF.pf rfl ((pv_gtr rfl rfl).tru (by first | rfl | decide | omega | assumption | (simp; done) | (simp; omega))) rfl ?_
              refine AnyH.take 3 rfl (by kernel_rfl) (by kernel_rfl) (by kernel_rfl) PF.pf rfl (pv_move rfl) rfl ?_
              refine AnyH.take 4 rfl (by kernel_rfl) (by kernel_rfl) (by kernel_rfl) PF.pf ⟨_, _, rfl, rfl, rfl⟩ (pv_move rfl) rfl ?_
              refine AnyH.take 5 rfl (by kernel_rfl) (by kernel_rfl) (by kernel_rfl) PF.pf ⟨_, _, rfl, rfl, rfl⟩ (pv_indexAddr (i := 0) rfl rfl rfl (by simp)) rfl ?_
              first | refine AnyH.take 6 rfl (by kernel_rfl) (by kernel_rfl) (by kernel_rfl) PF.pf ⟨_, _, rfl, rfl, rfl⟩ (pv_fieldAddr0 rfl rfl) rfl ?_ | refine AnyH.take 6 rfl (by kernel_rfl) (by kernel_rfl) (by kernel_rfl) PF.pf ⟨_, _, rfl, rfl, rfl⟩ (pv_fieldAddr rfl rfl) rfl ?_
              first | refine AnyH.take 7 rfl (by kernel_rfl) (by kernel_rfl) (by kernel_rfl) PF.pf ⟨_, _, rfl, rfl, rfl⟩ (pv_load rfl rfl rfl) rfl ?_ | refine AnyH.take 7 rfl (by kernel_rfl) (by kernel_rfl) (by kernel_rfl) PF.pf ⟨_, _, rfl, rfl, rfl⟩ (pv_load rfl rfl (by assumption)) rfl ?_
              first | refine AnyH.take 8 rfl (by kernel_rfl) (by kernel_rfl) (by kernel_rfl) PF.pf ⟨_, _, rfl, rfl, rfl⟩ (pv_fieldAddr0 rfl rfl) rfl ?_ | refine AnyH.take 8 rfl (by kernel_rfl) (by kernel_rfl) (by kernel_rfl) PF.pf ⟨_, _, rfl, rfl, rfl⟩ (pv_fieldAddr rfl rfl) rfl ?_
              first | refine AnyH.take 9 rfl (by kernel_rfl) (by kernel_rfl) (by kernel_rfl) PF.pf ⟨_, _, rfl, rfl, rfl⟩ (pv_load rfl rfl rfl) rfl ?_ | refine AnyH.take 9 rfl (by kernel_rfl) (by kernel_rfl) (by kernel_rfl) PF.pf ⟨_, _, rfl, rfl, rfl⟩ (pv_load rfl rfl (by assumption)) rfl ?_
              refine AnyH.take 10 rfl (by kernel_rfl) (by kernel_rfl) (by kernel_rfl) PF.pf ⟨_, _, rfl, rfl, rfl⟩ ((pv_neq rfl rfl).fls (by first | exact fun h => h rfl | decide | omega | assumption)) rfl ?_
              refine AnyH.take 11 rfl (by kernel_rfl) (by kernel_rfl) (by kernel_rfl) PF.pf rfl (pv_pick_true rfl rfl) rfl ?_
              refine AnyH.take 12 rfl (by kernel_rfl) (by kernel_rfl) (by kernel_rfl) PF.pf rfl (pv_assign rfl) rfl ?_
              refine AnyH.done (by kernel_rfl) ?_
              refine Ends.seq ?_
              refine Wp.seq ?_
              refine Wp.seq ?_
              refine Wp.region ?_
              refine Ops.pv (pv_move rfl) rfl ?_
              refine Ops.pv (pv_move rfl) rfl ?_
              refine Ops.pv ((pv_neq_bool rfl rfl).is (u := .bool false) (by first | rfl | (simp; done) | simp_all)) rfl ?_
              refine Ops.pv (pv_move rfl) rfl ?_
              refine Ops.pvg ⟨_, _, rfl, rfl, rfl⟩ (pv_move rfl) rfl ?_
              refine Ops.pvg ⟨_, _, rfl, rfl, rfl⟩ (pv_move rfl) rfl ?_
              refine Ops.skipg ⟨_, _, rfl, rfl, rfl⟩ rfl ?_
              refine Ops.skipg ⟨_, _, rfl, rfl, rfl⟩ rfl ?_
              refine Ops.skipg ⟨_, _, rfl, rfl, rfl⟩ rfl ?_
              refine Ops.skipg ⟨_, _, rfl, rfl, rfl⟩ rfl ?_
              refine Ops.skipg ⟨_, _, rfl, rfl, rfl⟩ rfl ?_
              refine Ops.skipg ⟨_, _, rfl, rfl, rfl⟩ rfl ?_
              refine Ops.pvg ⟨_, _, rfl, rfl, rfl⟩ (pv_pick_false rfl rfl) rfl ?_
              refine Ops.pv (pv_pick_false rfl rfl) rfl ?_
              refine Ops.nil ?_
              refine Ends.seq ?_
              refine Wp.cond_false rfl ?_
              refine Wp.skip ?_
              refine Ends.seq ?_
              refine Wp.seq ?_
              refine Wp.seq ?_
              refine Wp.region ?_
              refine Ops.pv (pv_move rfl) rfl ?_
              refine Ops.nil ?_
              refine Ends.seq ?_
              refine Wp.cond_false rfl ?_
              refine Wp.seq ?_
              refine Wp.region ?_
              first | refine Ops.pv (pv_fieldAddr0 rfl rfl) rfl ?_ | refine Ops.pv (pv_fieldAddr rfl rfl) rfl ?_
              first | refine Ops.pv (pv_load rfl rfl rfl) rfl ?_ | refine Ops.pv (pv_load rfl rfl (by assumption)) rfl ?_
              refine Ops.nil ?_
              refine Ends.seq ?_
              first | refine Wp.cond_dect rfl (fun h13 => ?_) (fun h13 => ?_) | refine Wp.cond_t rfl (fun h13 => ?_) (fun h13 => ?_)
              · have hwt : x.wait = true := by assumption
                rw [if_pos hwt] at m3
                refine Wp.region ?_
                refine Ops.pv (pv_move rfl) rfl ?_
                refine Ops.pv (pv_loadK x.cells rfl rfl rfl ⟨rfl, rfl, rfl, trivial⟩) rfl ?_
                refine Ops.ef rfl (ef_buildSlice1 (k := 3) rfl rfl rfl rfl rfl) ?_
                rintro _ _ ⟨b5, rfl, rfl⟩
                refine Ops.ef rfl (ef_append (H := K) (xs := x.cells) rfl hs rfl ⟨rfl, rfl, rfl, trivial⟩ rfl rfl rfl (by omega) (by omega) rfl rfl) ?_
                rintro _ _ ⟨v4, H4, hs4, rfl, rfl⟩
                refine Ops.app ?_
                rw [← cel_one1 (f := OpE.cells) x, ← cel_app, show (a0 :: t) ++ [x] = (a0 :: (t ++ [x])) from rfl, show (a0 :: t).length + 1 = (a0 :: (t ++ [x])).length by simp] at hs4
                refine Ops.pv (pv_assign rfl) rfl ?_
                refine Ops.nil ?_
                refine Ends.seq ?_
                refine Wp.seq ?_
                refine Wp.region ?_
                refine Ops.pv (pv_assign rfl) rfl ?_
                refine Ops.nil ?_
                refine Ends.seq ?_
                refine Wp.block ?_
                have h2 := hs4
                obtain ⟨wp, wc, ew⟩ := h2.form
                rw [ew] at h2 ⊢
                have hv2 := h2.view
                have hb8 : (a0 :: (t ++ [x])).length ≤ i + 1 := by simp only [List.length_append, List.length_cons, List.length_nil] at hll ⊢; omega
                have hb9 : (a0 :: (t ++ [x])).length ≤ 101 := by omega
                refine Wp.loopK (σ := Nat) [(0, _), (3, _), (4, _), (5, _)] (fun s => [(13, .int .i64 s)]) (fun s => H4 ++ (HC2 ++ (G ++ F))) (fun s => s ≥ 1) (fun s => (a0 :: (t ++ [x])).length - s) 1 (Nat.le_refl 1) ⟨rfl, rfl, rfl, rfl, trivial⟩ ⟨rfl, trivial⟩ (by intro w ho; (try dsimp only [List.nil_append, List.cons_append]); exact Drop.own ho) ?_
                rintro k KK hk1 hK1
                dsimp only [List.cons_append, List.nil_append] at hK1 ⊢
                refine Wp.seq ?_
                refine Wp.seq ?_
                refine Wp.region ?_
                refine Ops.pv (pv_move rfl) rfl ?_
                refine Ops.pv (pv_move rfl) rfl ?_
                refine Ops.pv (pv_len_slice (T := 54) rfl rfl) rfl ?_
                refine Ops.pv (pv_lss rfl rfl) rfl ?_
                refine Ops.nil ?_
                refine Ends.seq ?_
                first | refine Wp.cond_dect rfl (fun h14 => ?_) (fun h14 => ?_) | refine Wp.cond_t rfl (fun h14 => ?_) (fun h14 => ?_)
                · obtain ⟨b8, o8, cap8, cc8, T8, f8, hv8, hbv8, hr8⟩ := hv2.open (by omega)
                  cases hv8
                  obtain ⟨e, hee⟩ : ∃ e, (a0 :: (t ++ [x]))[k]? = some e := ⟨_, List.getElem?_eq_getElem (by omega)⟩
                  obtain ⟨d, hde⟩ : ∃ d, (a0 :: (t ++ [x]))[0]? = some d := ⟨_, List.getElem?_eq_getElem (by omega)⟩
                  obtain ⟨e0, e1, e2, _⟩ := cel_reads hr8 hee
                  obtain ⟨d0, d1, d2, _⟩ := cel_reads hr8 hde
                  have hkk : e.kind = d.kind := m3.same (List.mem_of_getElem? hee) (List.mem_of_getElem? hde)
                  refine Wp.skip ?_
                  refine Ends.seq ?_
                  refine Wp.seq ?_
                  refine Wp.block ?_
                  refine Wp.seq ?_
                  refine AnyH.start H4 10 rfl ?_
                  refine AnyH.take 0 rfl (by kernel_rfl) (by kernel_rfl) (by kernel_rfl) PF.pf rfl (pv_move rfl) rfl ?_
                  refine AnyH.take 1 rfl (by kernel_rfl) (by kernel_rfl) (by kernel_rfl) PF.pf rfl (pv_move rfl) rfl ?_
                  refine AnyH.take 2 rfl (by kernel_rfl) (by kernel_rfl) (by kernel_rfl) PF.pf rfl (pv_indexAddr rfl rfl rfl (by omega)) rfl ?_
                  first | refine AnyH.take 3 rfl (by kernel_rfl) (by kernel_rfl) (by kernel_rfl) PF.pf rfl (pv_fieldAddr0 rfl rfl) rfl ?_ | refine AnyH.take 3 rfl (by kernel_rfl) (by kernel_rfl) (by kernel_rfl) PF.pf rfl (pv_fieldAddr rfl rfl) rfl ?_
                  first | refine AnyH.take 4 rfl (by kernel_rfl) (by kernel_rfl) (by kernel_rfl) PF.pf rfl (pv_load rfl rfl rfl) rfl ?_ | refine AnyH.take 4 rfl (by kernel_rfl) (by kernel_rfl) (by kernel_rfl) PF.pf rfl (pv_load rfl rfl (by assumption)) rfl ?_
                  refine AnyH.take 5 rfl (by kernel_rfl) (by kernel_rfl) (by kernel_rfl) PF.pf rfl (pv_move rfl) rfl ?_
                  refine AnyH.take 6 rfl (by kernel_rfl) (by kernel_rfl) (by kernel_rfl) PF.pf rfl (pv_indexAddr (i := 0) rfl rfl rfl (by omega)) rfl ?_
                  first | refine AnyH.take 7 rfl (by kernel_rfl) (by kernel_rfl) (by kernel_rfl) PF.pf rfl (pv_fieldAddr0 rfl rfl) rfl ?_ | refine AnyH.take 7 rfl (by kernel_rfl) (by kernel_rfl) (by kernel_rfl) PF.pf rfl (pv_fieldAddr rfl rfl) rfl ?_
                  first | refine AnyH.take 8 rfl (by kernel_rfl) (by kernel_rfl) (by kernel_rfl) PF.pf rfl (pv_load rfl rfl rfl) rfl ?_ | refine AnyH.take 8 rfl (by kernel_rfl) (by kernel_rfl) (by kernel_rfl) PF.pf rfl (pv_load rfl rfl (by assumption)) rfl ?_
                  refine AnyH.take 9 rfl (by kernel_rfl) (by kernel_rfl) (by kernel_rfl) PF.pf rfl ((pv_neq rfl rfl).fls (fun h => h hkk)) rfl ?_
                  refine AnyH.done (by kernel_rfl) ?_
                  refine Ends.seq ?_
                  refine Wp.cond_false rfl ?_
                  refine Wp.skip ?_
                  refine Ends.block_normal ?_
                  refine Ends.seq ?_
                  refine Wp.region ?_
                  refine Ops.pv (pv_move rfl) rfl ?_
                  first | refine Ops.pv (pv_add rfl rfl (w64 (by omega) (by omega))) rfl ?_ | refine Ops.pv (pv_add rfl rfl rfl) rfl ?_
                  refine Ops.pv (pv_assign rfl) rfl ?_
                  refine Ops.nil ?_
                  refine Ends.goes ?_
                  refine Goes.back (hK1 (k + 1) (by omega) (by omega)) ⟨rfl, rfl, rfl, rfl, rfl, trivial⟩
                · refine Wp.exit ?_
                  refine Ends.then_exit ?_
                  refine Ends.then_exit ?_
                  refine Ends.block_hit ?_
                  refine Ends.block_normal ?_
                  refine Ends.seq ?_
                  refine Wp.region ?_
                  refine Ops.pv (pv_move rfl) rfl ?_
                  first | refine Ops.pv (pv_add rfl rfl (w64 (by omega) (by omega))) rfl ?_ | refine Ops.pv (pv_add rfl rfl rfl) rfl ?_
                  refine Ops.pv (pv_assign rfl) rfl ?_
                  refine Ops.nil ?_
                  refine Ends.goes ?_
                  refine Goes.back (hK (i + 1, (a0 :: (t ++ [x])), (meetS S x.id (wOf false) x.wait), _, .slice wp (a0 :: (t ++ [x])).length wc, H4) ⟨hb8, by dsimp only; omega, hA2, m3, h2⟩ (by dsimp only; omega)) ⟨rfl, rfl, rfl, rfl, trivial⟩
              · have hwt : ¬ x.wait = true := by simp_all
                rw [if_neg hwt] at m3
                refine Wp.skip ?_
                refine Ends.seq ?_
                refine Wp.seq ?_
                refine Wp.region ?_
                refine Ops.pv (pv_assign rfl) rfl ?_
                refine Ops.nil ?_
                refine Ends.seq ?_
                refine Wp.block ?_
                have h2 := hs
                obtain ⟨wp, wc, ew⟩ := h2.form
                rw [ew] at h2 ⊢
                have hv2 := h2.view
                have hb8 : (a0 :: t).length ≤ i + 1 := by simp only [List.length_append, List.length_cons, List.length_nil] at hll ⊢; omega
                have hb9 : (a0 :: t).length ≤ 101 := by omega
                refine Wp.loopK (σ := Nat) [(0, _), (3, _), (4, _), (5, _)] (fun s => [(13, .int .i64 s)]) (fun s => K ++ (HC2 ++ (G ++ F))) (fun s => s ≥ 1) (fun s => (a0 :: t).length - s) 1 (Nat.le_refl 1) ⟨rfl, rfl, rfl, rfl, trivial⟩ ⟨rfl, trivial⟩ (by intro w ho; (try dsimp only [List.nil_append, List.cons_append]); exact Drop.own ho) ?_
                rintro k KK hk1 hK1
                dsimp only [List.cons_append, List.nil_append] at hK1 ⊢
                refine Wp.seq ?_
                refine Wp.seq ?_
                refine Wp.region ?_
                refine Ops.pv (pv_move rfl) rfl ?_
                refine Ops.pv (pv_move rfl) rfl ?_
                refine Ops.pv (pv_len_slice (T := 54) rfl rfl) rfl ?_
                refine Ops.pv (pv_lss rfl rfl) rfl ?_
                refine Ops.nil ?_
                refine Ends.seq ?_
                first | refine Wp.cond_dect rfl (fun h15 => ?_) (fun h15 => ?_) | refine Wp.cond_t rfl (fun h15 => ?_) (fun h15 => ?_)
                · obtain ⟨b8, o8, cap8, cc8, T8, f8, hv8, hbv8, hr8⟩ := hv2.open (by omega)
                  cases hv8
                  obtain ⟨e, hee⟩ : ∃ e, (a0 :: t)[k]? = some e := ⟨_, List.getElem?_eq_getElem (by omega)⟩
                  obtain ⟨d, hde⟩ : ∃ d, (a0 :: t)[0]? = some d := ⟨_, List.getElem?_eq_getElem (by omega)⟩
                  obtain ⟨e0, e1, e2, _⟩ := cel_reads hr8 hee
                  obtain ⟨d0, d1, d2, _⟩ := cel_reads hr8 hde
                  have hkk : e.kind = d.kind := m3.same (List.mem_of_getElem? hee) (List.mem_of_getElem? hde)
                  refine Wp.skip ?_
                  refine Ends.seq ?_
                  refine Wp.seq ?_
                  refine Wp.block ?_
                  refine Wp.seq ?_
                  refine AnyH.start K 10 rfl ?_
                  refine AnyH.take 0 rfl (by kernel_rfl) (by kernel_rfl) (by kernel_rfl) PF.pf rfl (pv_move rfl) rfl ?_
                  refine AnyH.take 1 rfl (by kernel_rfl) (by kernel_rfl) (by kernel_rfl) PF.pf rfl (pv_move rfl) rfl ?_
                  refine AnyH.take 2 rfl (by kernel_rfl) (by kernel_rfl) (by kernel_rfl) PF.pf rfl (pv_indexAddr rfl rfl rfl (by omega)) rfl ?_
                  first | refine AnyH.take 3 rfl (by kernel_rfl) (by kernel_rfl) (by kernel_rfl) PF.pf rfl (pv_fieldAddr0 rfl rfl) rfl ?_ | refine AnyH.take 3 rfl (by kernel_rfl) (by kernel_rfl) (by kernel_rfl) PF.pf rfl (pv_fieldAddr rfl rfl) rfl ?_
                  first | refine AnyH.take 4 rfl (by kernel_rfl) (by kernel_rfl) (by kernel_rfl) PF.pf rfl (pv_load rfl rfl rfl) rfl ?_ | refine AnyH.take 4 rfl (by kernel_rfl) (by kernel_rfl) (by kernel_rfl) PF.pf rfl (pv_load rfl rfl (by assumption)) rfl ?_
                  refine AnyH.take 5 rfl (by kernel_rfl) (by kernel_rfl) (by kernel_rfl) PF.pf rfl (pv_move rfl) rfl ?_
                  refine AnyH.take 6 rfl (by kernel_rfl) (by kernel_rfl) (by kernel_rfl) PF.pf rfl (pv_indexAddr (i := 0) rfl rfl rfl (by omega)) rfl ?_
                  first | refine AnyH.take 7 rfl (by kernel_rfl) (by kernel_rfl) (by kernel_rfl) PF.pf rfl (pv_fieldAddr0 rfl rfl) rfl ?_ | refine AnyH.take 7 rfl (by kernel_rfl) (by kernel_rfl) (by kernel_rfl) PF.pf rfl (pv_fieldAddr rfl rfl) rfl ?_
                  first | refine AnyH.take 8 rfl (by kernel_rfl) (by kernel_rfl) (by kernel_rfl) PF.pf rfl (pv_load rfl rfl rfl) rfl ?_ | refine AnyH.take 8 rfl (by kernel_rfl) (by kernel_rfl) (by kernel_rfl) PF.pf rfl (pv_load rfl rfl (by assumption)) rfl ?_
                  refine AnyH.take 9 rfl (by kernel_rfl) (by kernel_rfl) (by kernel_rfl) PF.pf rfl ((pv_neq rfl rfl).fls (fun h => h hkk)) rfl ?_
                  refine AnyH.done (by kernel_rfl) ?_
                  refine Ends.seq ?_
                  refine Wp.cond_false rfl ?_
                  refine Wp.skip ?_
                  refine Ends.block_normal ?_
                  refine Ends.seq ?_
                  refine Wp.region ?_
                  refine Ops.pv (pv_move rfl) rfl ?_
                  first | refine Ops.pv (pv_add rfl rfl (w64 (by omega) (by omega))) rfl ?_ | refine Ops.pv (pv_add rfl rfl rfl) rfl ?_
                  refine Ops.pv (pv_assign rfl) rfl ?_
                  refine Ops.nil ?_
                  refine Ends.goes ?_
                  refine Goes.back (hK1 (k + 1) (by omega) (by omega)) ⟨rfl, rfl, rfl, rfl, rfl, trivial⟩
                · refine Wp.exit ?_
                  refine Ends.then_exit ?_
                  refine Ends.then_exit ?_
                  refine Ends.block_hit ?_
                  refine Ends.block_normal ?_
                  refine Ends.seq ?_
                  refine Wp.region ?_
                  refine Ops.pv (pv_move rfl) rfl ?_
                  first | refine Ops.pv (pv_add rfl rfl (w64 (by omega) (by omega))) rfl ?_ | refine Ops.pv (pv_add rfl rfl rfl) rfl ?_
                  refine Ops.pv (pv_assign rfl) rfl ?_
                  refine Ops.nil ?_
                  refine Ends.goes ?_
                  refine Goes.back (hK (i + 1, (a0 :: t), (meetS S x.id (wOf false) x.wait), _, .slice wp (a0 :: t).length wc, K) ⟨hb8, by dsimp only; omega, hA2, m3, h2⟩ (by dsimp only; omega)) ⟨rfl, rfl, rfl, rfl, trivial⟩
        · refine Wp.region ?_
          refine Ops.pv (pv_move rfl) rfl ?_
          first | refine Ops.pv (pv_fieldAddr0 rfl rfl) rfl ?_ | refine Ops.pv (pv_fieldAddr rfl rfl) rfl ?_
          first | refine Ops.pv (pv_load rfl rfl rfl) rfl ?_ | refine Ops.pv (pv_load rfl rfl (by assumption)) rfl ?_
          first | refine Ops.pv (pv_fieldAddr0 rfl rfl) rfl ?_ | refine Ops.pv (pv_fieldAddr rfl rfl) rfl ?_
          first | refine Ops.pv (pv_load rfl rfl rfl) rfl ?_ | refine Ops.pv (pv_load rfl rfl (by assumption)) rfl ?_
          refine Ops.ef rfl (ef_call (tr_epRecv _ _ S hA (by omega) x.id x.wait) rfl rfl) ?_
          rintro _ _ ⟨_, HC3, ⟨rfl, hA3⟩, rfl, rfl⟩
          refine Ops.app ?_
          skip
          refine Ops.pv (pv_move rfl) rfl ?_
          refine Ops.pv (pv_extract rfl rfl) rfl ?_
          refine Ops.pv (pv_extract rfl rfl) rfl ?_
          refine Ops.pv (pv_extract rfl rfl) rfl ?_
          refine Ops.pv (pv_assign rfl) rfl ?_
          refine Ops.pv (pv_assign rfl) rfl ?_
          refine Ops.pv (pv_assign rfl) rfl ?_
          refine Ops.nil ?_
          refine Ends.seq ?_
          refine Wp.seq ?_
          refine Wp.seq ?_
          refine Wp.region ?_
          refine Ops.pv (pv_move rfl) rfl ?_
          refine Ops.pv (pv_neq rfl rfl) rfl ?_
          refine Ops.nil ?_
          refine Ends.seq ?_
          first | refine Wp.cond_dect rfl (fun h16 => ?_) (fun h16 => ?_) | refine Wp.cond_t rfl (fun h16 => ?_) (fun h16 => ?_)
          · have he : ¬ pushE S.l x.id = 0 := by assumption
            refine Wp.exit ?_
            refine Ends.then_exit ?_
            refine Ends.block_hit ?_
            refine Ends.seq ?_
            refine Wp.region ?_
            refine Ops.pv (pv_move rfl) rfl ?_
            first | refine Ops.pv (pv_add rfl rfl (w64 (by omega) (by omega))) rfl ?_ | refine Ops.pv (pv_add rfl rfl rfl) rfl ?_
            refine Ops.pv (pv_assign rfl) rfl ?_
            refine Ops.nil ?_
            refine Ends.goes ?_
            refine Goes.back (hK (i + 1, A, (meetS S x.id (wOf true) x.wait), _, .slice vp A.length vc, K) ⟨by dsimp only; omega, by dsimp only; omega, hA3, hM.err he, hs⟩ (by dsimp only; omega)) ⟨rfl, rfl, rfl, rfl, trivial⟩
          · have he : pushE S.l x.id = 0 := by omega
            have hw : wOf true = x.kind + 1 := (by have hk0 : x.kind = 1 := (by omega); rw [hk0]; rfl)
            rcases three_cases A x.kind with rfl | ⟨a0, t, rfl, hk⟩ | ⟨a0, t, rfl, hk⟩
            · obtain ⟨m1, m2, m3⟩ := hM.no (x := x) (wait := x.wait) (way := wOf true) hw he (by intro o ho; cases ho)
              rw [m1, m2]
              refine Wp.skip ?_
              refine Ends.seq ?_
              refine Wp.seq ?_
              refine AnyH.start (K ++ [(b1, .cells x.cells.toArray 58)]) 13 rfl ?_
              refine AnyH.take 0 rfl (by kernel_rfl) (by kernel_rfl) (by kernel_rfl) PF.pf rfl (pv_move rfl) rfl ?_
              refine AnyH.take 1 rfl (by kernel_rfl) (by kernel_rfl) (by kernel_rfl) PF.pf rfl (pv_len_slice (T := 54) rfl rfl) rfl ?_
              refine AnyH.take 2 rfl (by kernel_rfl) (by kernel_rfl) (by kernel_rfl) PF.pf rfl ((pv_gtr rfl rfl).fls (by first | exact fun h => h rfl | decide | omega | assumption)) rfl ?_
              refine AnyH.take 3 rfl (by kernel_rfl) (by kernel_rfl) (by kernel_rfl) PF.pf rfl (pv_move rfl) rfl ?_
              refine AnyH.skip 4 rfl (by kernel_rfl) (by kernel_rfl) (by kernel_rfl) PF.pf ⟨_, _, rfl, rfl, rfl⟩ rfl ?_
              refine AnyH.skip 5 rfl (by kernel_rfl) (by kernel_rfl) (by kernel_rfl) PF.pf ⟨_, _, rfl, rfl, rfl⟩ rfl ?_
              refine AnyH.skip 6 rfl (by kernel_rfl) (by kernel_rfl) (by kernel_rfl) PF.pf ⟨_, _, rfl, rfl, rfl⟩ rfl ?_
              refine AnyH.skip 7 rfl (by kernel_rfl) (by kernel_rfl) (by kernel_rfl) PF.pf ⟨_, _, rfl, rfl, rfl⟩ rfl ?_
              refine AnyH.skip 8 rfl (by kernel_rfl) (by kernel_rfl) (by kernel_rfl) PF.pf ⟨_, _, rfl, rfl, rfl⟩ rfl ?_
              refine AnyH.skip 9 rfl (by kernel_rfl) (by kernel_rfl) (by kernel_rfl) PF.pf ⟨_, _, rfl, rfl, rfl⟩ rfl ?_
              refine AnyH.skip 10 rfl (by kernel_rfl) (by kernel_rfl) (by kernel_rfl) PF.pf ⟨_, _, rfl, rfl, rfl⟩ rfl ?_
              refine AnyH.take 11 rfl (by kernel_rfl) (by kernel_rfl) (by kernel_rfl) PF.pf rfl (pv_pick_false rfl rfl) rfl ?_
              refine AnyH.take 12 rfl (by kernel_rfl) (by kernel_rfl) (by kernel_rfl) PF.pf rfl (pv_assign rfl) rfl ?_
              refine AnyH.done (by kernel_rfl) ?_
              refine Ends.seq ?_
              refine Wp.seq ?_
              refine Wp.seq ?_
              refine Wp.region ?_
              refine Ops.pv (pv_move rfl) rfl ?_
              refine Ops.pv (pv_move rfl) rfl ?_
              refine Ops.pv ((pv_neq_bool rfl rfl).is (u := .bool false) (by first | rfl | (simp; done) | simp_all)) rfl ?_
              refine Ops.pv (pv_move rfl) rfl ?_
              refine Ops.pvg ⟨_, _, rfl, rfl, rfl⟩ (pv_move rfl) rfl ?_
              refine Ops.pvg ⟨_, _, rfl, rfl, rfl⟩ (pv_move rfl) rfl ?_
              refine Ops.skipg ⟨_, _, rfl, rfl, rfl⟩ rfl ?_
              refine Ops.skipg ⟨_, _, rfl, rfl, rfl⟩ rfl ?_
              refine Ops.skipg ⟨_, _, rfl, rfl, rfl⟩ rfl ?_
              refine Ops.skipg ⟨_, _, rfl, rfl, rfl⟩ rfl ?_
              refine Ops.skipg ⟨_, _, rfl, rfl, rfl⟩ rfl ?_
              refine Ops.skipg ⟨_, _, rfl, rfl, rfl⟩ rfl ?_
              refine Ops.pvg ⟨_, _, rfl, rfl, rfl⟩ (pv_pick_false rfl rfl) rfl ?_
              refine Ops.pv (pv_pick_false rfl rfl) rfl ?_
              refine Ops.nil ?_
              refine Ends.seq ?_
              refine Wp.cond_false rfl ?_
              refine Wp.skip ?_
              refine Ends.seq ?_
              refine Wp.seq ?_
              refine Wp.seq ?_
              refine Wp.region ?_
              refine Ops.pv (pv_move rfl) rfl ?_
              refine Ops.nil ?_
              refine Ends.seq ?_
              refine Wp.cond_false rfl ?_
              refine Wp.seq ?_
              refine Wp.region ?_
              first | refine Ops.pv (pv_fieldAddr0 rfl rfl) rfl ?_ | refine Ops.pv (pv_fieldAddr rfl rfl) rfl ?_
              first | refine Ops.pv (pv_load rfl rfl rfl) rfl ?_ | refine Ops.pv (pv_load rfl rfl (by assumption)) rfl ?_
              refine Ops.nil ?_
              refine Ends.seq ?_
              first | refine Wp.cond_dect rfl (fun h17 => ?_) (fun h17 => ?_) | refine Wp.cond_t rfl (fun h17 => ?_) (fun h17 => ?_)
              · have hwt : x.wait = true := by assumption
                rw [if_pos hwt] at m3
                refine Wp.region ?_
                refine Ops.pv (pv_move rfl) rfl ?_
                refine Ops.pv (pv_loadK x.cells rfl rfl rfl ⟨rfl, rfl, rfl, trivial⟩) rfl ?_
                refine Ops.ef rfl (ef_buildSlice1 (k := 3) rfl rfl rfl rfl rfl) ?_
                rintro _ _ ⟨b6, rfl, rfl⟩
                refine Ops.ef rfl (ef_append (H := K) (xs := x.cells) rfl hs rfl ⟨rfl, rfl, rfl, trivial⟩ rfl rfl rfl (by omega) (by omega) rfl rfl) ?_
                rintro _ _ ⟨v5, H5, hs5, rfl, rfl⟩
                refine Ops.app ?_
                rw [← cel_one1 (f := OpE.cells) x, ← cel_app, show ([] : List OpE) ++ [x] = [x] from rfl, show ([] : List OpE).length + 1 = [x].length by simp] at hs5
                refine Ops.pv (pv_assign rfl) rfl ?_
                refine Ops.nil ?_
                refine Ends.seq ?_
                refine Wp.seq ?_
                refine Wp.region ?_
                refine Ops.pv (pv_assign rfl) rfl ?_
                refine Ops.nil ?_
                refine Ends.seq ?_
                refine Wp.block ?_
                have h2 := hs5
                obtain ⟨wp, wc, ew⟩ := h2.form
                rw [ew] at h2 ⊢
                have hv2 := h2.view
                have hb8 : [x].length ≤ i + 1 := by simp only [List.length_append, List.length_cons, List.length_nil] at hll ⊢; omega
                have hb9 : [x].length ≤ 101 := by omega
                refine Wp.loopK (σ := Nat) [(0, _), (3, _), (4, _), (5, _)] (fun s => [(13, .int .i64 s)]) (fun s => H5 ++ (HC3 ++ (G ++ F))) (fun s => s ≥ 1) (fun s => [x].length - s) 1 (Nat.le_refl 1) ⟨rfl, rfl, rfl, rfl, trivial⟩ ⟨rfl, trivial⟩ (by intro w ho; (try dsimp only [List.nil_append, List.cons_append]); exact Drop.own ho) ?_
                rintro k KK hk1 hK1
                dsimp only [List.cons_append, List.nil_append] at hK1 ⊢
                refine Wp.seq ?_
                refine Wp.seq ?_
                refine Wp.region ?_
                refine Ops.pv (pv_move rfl) rfl ?_
                refine Ops.pv (pv_move rfl) rfl ?_
                refine Ops.pv (pv_len_slice (T := 54) rfl rfl) rfl ?_
                refine Ops.pv (pv_lss rfl rfl) rfl ?_
                refine Ops.nil ?_
                refine Ends.seq ?_
                first | refine Wp.cond_dect rfl (fun h18 => ?_) (fun h18 => ?_) | refine Wp.cond_t rfl (fun h18 => ?_) (fun h18 => ?_)
                · obtain ⟨b8, o8, cap8, cc8, T8, f8, hv8, hbv8, hr8⟩ := hv2.open (by omega)
                  cases hv8
                  obtain ⟨e, hee⟩ : ∃ e, [x][k]? = some e := ⟨_, List.getElem?_eq_getElem (by omega)⟩
                  obtain ⟨d, hde⟩ : ∃ d, [x][0]? = some d := ⟨_, List.getElem?_eq_getElem (by omega)⟩
                  obtain ⟨e0, e1, e2, _⟩ := cel_reads hr8 hee
                  obtain ⟨d0, d1, d2, _⟩ := cel_reads hr8 hde
                  have hkk : e.kind = d.kind := m3.same (List.mem_of_getElem? hee) (List.mem_of_getElem? hde)
                  refine Wp.skip ?_
                  refine Ends.seq ?_
                  refine Wp.seq ?_
                  refine Wp.block ?_
                  refine Wp.seq ?_
                  refine AnyH.start H5 10 rfl ?_
                  refine AnyH.take 0 rfl (by kernel_rfl) (by kernel_rfl) (by kernel_rfl) PF.pf rfl (pv_move rfl) rfl ?_
                  refine AnyH.take 1 rfl (by kernel_rfl) (by kernel_rfl) (by kernel_rfl) PF.pf rfl (pv_move rfl) rfl ?_
                  refine AnyH.take 2 rfl (by kernel_rfl) (by kernel_rfl) (by kernel_rfl) PF.pf rfl (pv_indexAddr rfl rfl rfl (by omega)) rfl ?_
                  first | refine AnyH.take 3 rfl (by kernel_rfl) (by kernel_rfl) (by kernel_rfl) PF.pf rfl (pv_fieldAddr0 rfl rfl) rfl ?_ | refine AnyH.take 3 rfl (by kernel_rfl) (by kernel_rfl) (by kernel_rfl) PF.pf rfl (pv_fieldAddr rfl rfl) rfl ?_
                  first | refine AnyH.take 4 rfl (by kernel_rfl) (by kernel_rfl) (by kernel_rfl) PF.pf rfl (pv_load rfl rfl rfl) rfl ?_ | refine AnyH.take 4 rfl (by kernel_rfl) (by kernel_rfl) (by kernel_rfl) PF.pf rfl (pv_load rfl rfl (by assumption)) rfl ?_
                  refine AnyH.take 5 rfl (by kernel_rfl) (by kernel_rfl) (by kernel_rfl) PF.pf rfl (pv_move rfl) rfl ?_
                  refine AnyH.take 6 rfl (by kernel_rfl) (by kernel_rfl) (by kernel_rfl) PF.pf rfl (pv_indexAddr (i := 0) rfl rfl rfl (by omega)) rfl ?_
                  first | refine AnyH.take 7 rfl (by kernel_rfl) (by kernel_rfl) (by kernel_rfl) PF.pf rfl (pv_fieldAddr0 rfl rfl) rfl ?_ | refine AnyH.take 7 rfl (by kernel_rfl) (by kernel_rfl) (by kernel_rfl) PF.pf rfl (pv_fieldAddr rfl rfl) rfl ?_
                  first | refine AnyH.take 8 rfl (by kernel_rfl) (by kernel_rfl) (by kernel_rfl) PF.pf rfl (pv_load rfl rfl rfl) rfl ?_ | refine AnyH.take 8 rfl (by kernel_rfl) (by kernel_rfl) (by kernel_rfl) PF.pf rfl (pv_load rfl rfl (by assumption)) rfl ?_
                  refine AnyH.take 9 rfl (by kernel_rfl) (by kernel_rfl) (by kernel_rfl) PF.pf rfl ((pv_neq rfl rfl).fls (fun h => h hkk)) rfl ?_
                  refine AnyH.done (by kernel_rfl) ?_
                  refine Ends.seq ?_
                  refine Wp.cond_false rfl ?_
                  refine Wp.skip ?_
                  refine Ends.block_normal ?_
                  refine Ends.seq ?_
                  refine Wp.region ?_
                  refine Ops.pv (pv_move rfl) rfl ?_
                  first | refine Ops.pv (pv_add rfl rfl (w64 (by omega) (by omega))) rfl ?_ | refine Ops.pv (pv_add rfl rfl rfl) rfl ?_
                  refine Ops.pv (pv_assign rfl) rfl ?_
                  refine Ops.nil ?_
                  refine Ends.goes ?_
                  refine Goes.back (hK1 (k + 1) (by omega) (by omega)) ⟨rfl, rfl, rfl, rfl, rfl, trivial⟩
                · refine Wp.exit ?_
                  refine Ends.then_exit ?_
                  refine Ends.then_exit ?_
                  refine Ends.block_hit ?_
                  refine Ends.block_normal ?_
                  refine Ends.seq ?_
                  refine Wp.region ?_
                  refine Ops.pv (pv_move rfl) rfl ?_
                  first | refine Ops.pv (pv_add rfl rfl (w64 (by omega) (by omega))) rfl ?_ | refine Ops.pv (pv_add rfl rfl rfl) rfl ?_
                  refine Ops.pv (pv_assign rfl) rfl ?_
                  refine Ops.nil ?_
                  refine Ends.goes ?_
                  refine Goes.back (hK (i + 1, [x], (meetS S x.id (wOf true) x.wait), _, .slice wp [x].length wc, H5) ⟨hb8, by dsimp only; omega, hA3, m3, h2⟩ (by dsimp only; omega)) ⟨rfl, rfl, rfl, rfl, trivial⟩
              · have hwt : ¬ x.wait = true := by simp_all
                rw [if_neg hwt] at m3
                refine Wp.skip ?_
                refine Ends.seq ?_
                refine Wp.seq ?_
                refine Wp.region ?_
                refine Ops.pv (pv_assign rfl) rfl ?_
                refine Ops.nil ?_
                refine Ends.seq ?_
                refine Wp.block ?_
                have h2 := hs
                obtain ⟨wp, wc, ew⟩ := h2.form
                rw [ew] at h2 ⊢
                have hv2 := h2.view
                have hb8 : ([] : List OpE).length ≤ i + 1 := by simp only [List.length_append, List.length_cons, List.length_nil] at hll ⊢; omega
                have hb9 : ([] : List OpE).length ≤ 101 := by omega
                refine Wp.loopK (σ := Nat) [(0, _), (3, _), (4, _), (5, _)] (fun s => [(13, .int .i64 s)]) (fun s => K ++ (HC3 ++ (G ++ F))) (fun s => s ≥ 1) (fun s => ([] : List OpE).length - s) 1 (Nat.le_refl 1) ⟨rfl, rfl, rfl, rfl, trivial⟩ ⟨rfl, trivial⟩ (by intro w ho; (try dsimp only [List.nil_append, List.cons_append]); exact Drop.own ho) ?_
                rintro k KK hk1 hK1
                dsimp only [List.cons_append, List.nil_append] at hK1 ⊢
                refine Wp.seq ?_
                refine Wp.seq ?_
                refine Wp.region ?_
                refine Ops.pv (pv_move rfl) rfl ?_
                refine Ops.pv (pv_move rfl) rfl ?_
                refine Ops.pv (pv_len_slice (T := 54) rfl rfl) rfl ?_
                refine Ops.pv (pv_lss rfl rfl) rfl ?_
                refine Ops.nil ?_
                refine Ends.seq ?_
                first | refine Wp.cond_dect rfl (fun h19 => ?_) (fun h19 => ?_) | refine Wp.cond_t rfl (fun h19 => ?_) (fun h19 => ?_)
                · obtain ⟨b8, o8, cap8, cc8, T8, f8, hv8, hbv8, hr8⟩ := hv2.open (by omega)
                  cases hv8
                  obtain ⟨e, hee⟩ : ∃ e, ([] : List OpE)[k]? = some e := ⟨_, List.getElem?_eq_getElem (by omega)⟩
                  obtain ⟨d, hde⟩ : ∃ d, ([] : List OpE)[0]? = some d := ⟨_, List.getElem?_eq_getElem (by omega)⟩
                  obtain ⟨e0, e1, e2, _⟩ := cel_reads hr8 hee
                  obtain ⟨d0, d1, d2, _⟩ := cel_reads hr8 hde
                  have hkk : e.kind = d.kind := m3.same (List.mem_of_getElem? hee) (List.mem_of_getElem? hde)
                  refine Wp.skip ?_
                  refine Ends.seq ?_
                  refine Wp.seq ?_
                  refine Wp.block ?_
                  refine Wp.seq ?_
                  refine AnyH.start K 10 rfl ?_
                  refine AnyH.take 0 rfl (by kernel_rfl) (by kernel_rfl) (by kernel_rfl) PF.pf rfl (pv_move rfl) rfl ?_
                  refine AnyH.take 1 rfl (by kernel_rfl) (by kernel_rfl) (by kernel_rfl) PF.pf rfl (pv_move rfl) rfl ?_
                  refine AnyH.take 2 rfl (by kernel_rfl) (by kernel_rfl) (by kernel_rfl) PF.pf rfl (pv_indexAddr rfl rfl rfl (by omega)) rfl ?_
                  first | refine AnyH.take 3 rfl (by kernel_rfl) (by kernel_rfl) (by kernel_rfl) PF.pf rfl (pv_fieldAddr0 rfl rfl) rfl ?_ | refine AnyH.take 3 rfl (by kernel_rfl) (by kernel_rfl) (by kernel_rfl) PF.pf rfl (pv_fieldAddr rfl rfl) rfl ?_
                  first | refine AnyH.take 4 rfl (by kernel_rfl) (by kernel_rfl) (by kernel_rfl) PF.pf rfl (pv_load rfl rfl rfl) rfl ?_ | refine AnyH.take 4 rfl (by kernel_rfl) (by kernel_rfl) (by kernel_rfl) PF.pf rfl (pv_load rfl rfl (by assumption)) rfl ?_
                  refine AnyH.take 5 rfl (by kernel_rfl) (by kernel_rfl) (by kernel_rfl) PF.pf rfl (pv_move rfl) rfl ?_
                  refine AnyH.take 6 rfl (by kernel_rfl) (by kernel_rfl) (by kernel_rfl) PF.pf rfl (pv_indexAddr (i := 0) rfl rfl rfl (by omega)) rfl ?_
                  first | refine AnyH.take 7 rfl (by kernel_rfl) (by kernel_rfl) (by kernel_rfl) PF.pf rfl (pv_fieldAddr0 rfl rfl) rfl ?_ | refine AnyH.take 7 rfl (by kernel_rfl) (by kernel_rfl) (by kernel_rfl) PF.pf rfl (pv_fieldAddr rfl rfl) rfl ?_
                  first | refine AnyH.take 8 rfl (by kernel_rfl) (by kernel_rfl) (by kernel_rfl) PF.pf rfl (pv_load rfl rfl rfl) rfl ?_ | refine AnyH.take 8 rfl (by kernel_rfl) (by kernel_rfl) (by kernel_rfl) PF.pf rfl (pv_load rfl rfl (by assumption)) rfl ?_
                  refine AnyH.take 9 rfl (by kernel_rfl) (by kernel_rfl) (by kernel_rfl) PF.pf rfl ((pv_neq rfl rfl).fls (fun h => h hkk)) rfl ?_
                  refine AnyH.done (by kernel_rfl) ?_
                  refine Ends.seq ?_
                  refine Wp.cond_false rfl ?_
                  refine Wp.skip ?_
                  refine Ends.block_normal ?_
                  refine Ends.seq ?_
                  refine Wp.region ?_
                  refine Ops.pv (pv_move rfl) rfl ?_
                  first | refine Ops.pv (pv_add rfl rfl (w64 (by omega) (by omega))) rfl ?_ | refine Ops.pv (pv_add rfl rfl rfl) rfl ?_
                  refine Ops.pv (pv_assign rfl) rfl ?_
                  refine Ops.nil ?_
                  refine Ends.goes ?_
                  refine Goes.back (hK1 (k + 1) (by omega) (by omega)) ⟨rfl, rfl, rfl, rfl, rfl, trivial⟩
                · refine Wp.exit ?_
                  refine Ends.then_exit ?_
                  refine Ends.then_exit ?_
                  refine Ends.block_hit ?_
                  refine Ends.block_normal ?_
                  refine Ends.seq ?_
                  refine Wp.region ?_
                  refine Ops.pv (pv_move rfl) rfl ?_
                  first | refine Ops.pv (pv_add rfl rfl (w64 (by omega) (by omega))) rfl ?_ | refine Ops.pv (pv_add rfl rfl rfl) rfl ?_
                  refine Ops.pv (pv_assign rfl) rfl ?_
                  refine Ops.nil ?_
                  refine Ends.goes ?_
                  refine Goes.back (hK (i + 1, ([] : List OpE), (meetS S x.id (wOf true) x.wait), _, .slice wp ([] : List OpE).length wc, K) ⟨hb8, by dsimp only; omega, hA3, m3, h2⟩ (by dsimp only; omega)) ⟨rfl, rfl, rfl, rfl, trivial⟩
            · obtain ⟨b7, o7, cap7, cc7, T7, f7, hv7, hbv7, hr7⟩ := hv.open (by simp)
              cases hv7
              obtain ⟨q0, q1, q2, _⟩ := cel_reads (i := 0) hr7 rfl
              obtain ⟨m1, m2, m3⟩ := hM.yes (x := x) (wait := x.wait) (way := wOf true) hw he hk
              rw [m1, m2]
              refine Wp.skip ?_
              refine Ends.seq ?_
              refine Wp.seq ?_
              refine AnyH.start (K ++ [(b1, .cells x.cells.toArray 58)]) 13 rfl ?_
              refine AnyH.take 0 rfl (by kernel_rfl) (by kernel_rfl) (by kernel_rfl) PF.pf rfl (pv_move rfl) rfl ?_
              refine AnyH.take 1 rfl (by kernel_rfl) (by kernel_rfl) (by kernel_rfl) PF.pf rfl (pv_len_slice (T := 54) rfl rfl) rfl ?_
              refine AnyH.take 2 rfl (by kernel_rfl) (by kernel_rfl) (by kernel_rfl) PF.pf rfl ((pv_gtr rfl rfl).tru (by first | rfl | decide | omega | assumption | (simp; done) | (simp; omega))) rfl ?_
              refine AnyH.take 3 rfl (by kernel_rfl) (by kernel_rfl) (by kernel_rfl) PF.pf rfl (pv_move rfl) rfl ?_
              refine AnyH.take 4 rfl (by kernel_rfl) (by kernel_rfl) (by kernel_rfl) PF.pf ⟨_, _, rfl, rfl, rfl⟩ (pv_move rfl) rfl ?_
              refine AnyH.take 5 rfl (by kernel_rfl) (by kernel_rfl) (by kernel_rfl) PF.pf ⟨_, _, rfl, rfl, rfl⟩ (pv_indexAddr (i := 0) rfl rfl rfl (by simp)) rfl ?_
              first | refine AnyH.take 6 rfl (by kernel_rfl) (by kernel_rfl) (by kernel_rfl) PF.pf ⟨_, _, rfl, rfl, rfl⟩ (pv_fieldAddr0 rfl rfl) rfl ?_ | refine AnyH.take 6 rfl (by kernel_rfl) (by kernel_rfl) (by kernel_rfl) PF.pf ⟨_, _, rfl, rfl, rfl⟩ (pv_fieldAddr rfl rfl) rfl ?_
              first | refine AnyH.take 7 rfl (by kernel_rfl) (by kernel_rfl) (by kernel_rfl) PF.pf ⟨_, _, rfl, rfl, rfl⟩ (pv_load rfl rfl rfl) rfl ?_ | refine AnyH.take 7 rfl (by kernel_rfl) (by kernel_rfl) (by kernel_rfl) PF.pf ⟨_, _, rfl, rfl, rfl⟩ (pv_load rfl rfl (by assumption)) rfl ?_
              first | refine AnyH.take 8 rfl (by kernel_rfl) (by kernel_rfl) (by kernel_rfl) PF.pf ⟨_, _, rfl, rfl, rfl⟩ (pv_fieldAddr0 rfl rfl) rfl ?_ | refine AnyH.take 8 rfl (by kernel_rfl) (by kernel_rfl) (by kernel_rfl) PF.pf ⟨_, _, rfl, rfl, rfl⟩ (pv_fieldAddr rfl rfl) rfl ?_
              first | refine AnyH.take 9 rfl (by kernel_rfl) (by kernel_rfl) (by kernel_rfl) PF.pf ⟨_, _, rfl, rfl, rfl⟩ (pv_load rfl rfl rfl) rfl ?_ | refine AnyH.take 9 rfl (by kernel_rfl) (by kernel_rfl) (by kernel_rfl) PF.pf ⟨_, _, rfl, rfl, rfl⟩ (pv_load rfl rfl (by assumption)) rfl ?_
              refine AnyH.take 10 rfl (by kernel_rfl) (by kernel_rfl) (by kernel_rfl) PF.pf ⟨_, _, rfl, rfl, rfl⟩ ((pv_neq rfl rfl).tru (by first | rfl | decide | omega | assumption | (simp; done) | (simp; omega))) rfl ?_
              refine AnyH.take 11 rfl (by kernel_rfl) (by kernel_rfl) (by kernel_rfl) PF.pf rfl (pv_pick_true rfl rfl) rfl ?_
              refine AnyH.take 12 rfl (by kernel_rfl) (by kernel_rfl) (by kernel_rfl) PF.pf rfl (pv_assign rfl) rfl ?_
              refine AnyH.done (by kernel_rfl) ?_
              refine Ends.seq ?_
              refine Wp.seq ?_
              refine Wp.seq ?_
              refine Wp.region ?_
              refine Ops.pv (pv_move rfl) rfl ?_
              refine Ops.pv (pv_move rfl) rfl ?_
              refine Ops.pv ((pv_neq_bool rfl rfl).is (u := .bool false) (by first | rfl | (simp; done) | simp_all)) rfl ?_
              refine Ops.pv (pv_move rfl) rfl ?_
              refine Ops.pvg ⟨_, _, rfl, rfl, rfl⟩ (pv_move rfl) rfl ?_
              refine Ops.pvg ⟨_, _, rfl, rfl, rfl⟩ (pv_move rfl) rfl ?_
              refine Ops.pvg ⟨_, _, rfl, rfl, rfl⟩ (pv_move rfl) rfl ?_
              refine Ops.pvg ⟨_, _, rfl, rfl, rfl⟩ (pv_move rfl) rfl ?_
              refine Ops.pvg ⟨_, _, rfl, rfl, rfl⟩ (pv_indexAddr (i := 0) rfl rfl rfl (by simp)) rfl ?_
              first | refine Ops.pvg ⟨_, _, rfl, rfl, rfl⟩ (pv_fieldAddr0 rfl rfl) rfl ?_ | refine Ops.pvg ⟨_, _, rfl, rfl, rfl⟩ (pv_fieldAddr rfl rfl) rfl ?_
              refine Ops.pvg ⟨_, _, rfl, rfl, rfl⟩ (pv_load rfl rfl q1) rfl ?_
              refine Ops.pvg ⟨_, _, rfl, rfl, rfl⟩ ((pv_neq rfl rfl).fls (by first | exact fun h => h rfl | decide | omega | assumption)) rfl ?_
              refine Ops.pvg ⟨_, _, rfl, rfl, rfl⟩ (pv_pick_true rfl rfl) rfl ?_
              refine Ops.pv (pv_pick_false rfl rfl) rfl ?_
              refine Ops.nil ?_
              refine Ends.seq ?_
              refine Wp.cond_false rfl ?_
              refine Wp.skip ?_
              refine Ends.seq ?_
              refine Wp.seq ?_
              refine Wp.seq ?_
              refine Wp.region ?_
              refine Ops.pv (pv_move rfl) rfl ?_
              refine Ops.nil ?_
              refine Ends.seq ?_
              refine Wp.cond_true rfl ?_
              refine Wp.region ?_
              refine Ops.ef rfl (ef_buildSlice0 rfl) ?_
              rintro _ _ ⟨b7, rfl, rfl⟩
              refine Ops.pv (pv_move rfl) rfl ?_
              refine Ops.pv (pv_sliceL (i := 1) (j := t.length + 1) (r := (((a0 :: t).drop 1).take (t.length + 1 - 1)).length) rfl ⟨_, rfl⟩ rfl (by omega) hcp (plen (l := a0 :: t) (by omega) (by simp)).symm) rfl ?_
              refine Ops.ef rfl (ef_appendV (H := [(b7, .cells ([] : List Value).toArray 58)]) rfl (slc_empty' 58 3 b7) rfl ((hv.part (f := OpE.cells) (i := 1) (j := t.length + 1) (by omega) (by simp)).mono (by intro p hp; simp [hp])) (cel_one _) (by simp only [List.length_take, List.length_drop, List.length_cons] at hll ⊢; omega) (by simp only [List.length_take, List.length_drop, List.length_cons] at hll ⊢; omega) rfl rfl) ?_
              rintro _ _ ⟨v6, H6, hs6, rfl, rfl⟩
              refine Ops.app ?_
              rw [Nat.zero_add, List.nil_append, show ((a0 :: t).drop 1).take (t.length + 1 - 1) = t by simp] at hs6
              refine Ops.pv (pv_assign rfl) rfl ?_
              refine Ops.nil ?_
              refine Ends.seq ?_
              refine Wp.seq ?_
              refine Wp.region ?_
              refine Ops.pv (pv_assign rfl) rfl ?_
              refine Ops.nil ?_
              refine Ends.seq ?_
              refine Wp.block ?_
              have h2 := hs6
              obtain ⟨wp, wc, ew⟩ := h2.form
              rw [ew] at h2 ⊢
              have hv2 := h2.view
              have hb8 : t.length ≤ i + 1 := by simp only [List.length_append, List.length_cons, List.length_nil] at hll ⊢; omega
              have hb9 : t.length ≤ 101 := by omega
              refine Wp.loopK (σ := Nat) [(0, _), (3, _), (4, _), (5, _)] (fun s => [(13, .int .i64 s)]) (fun s => H6 ++ (HC3 ++ (G ++ F))) (fun s => s ≥ 1) (fun s => t.length - s) 1 (Nat.le_refl 1) ⟨rfl, rfl, rfl, rfl, trivial⟩ ⟨rfl, trivial⟩ (by intro w ho; (try dsimp only [List.nil_append, List.cons_append]); exact Drop.own ho) ?_
              rintro k KK hk1 hK1
              dsimp only [List.cons_append, List.nil_append] at hK1 ⊢
              refine Wp.seq ?_
              refine Wp.seq ?_
              refine Wp.region ?_
              refine Ops.pv (pv_move rfl) rfl ?_
              refine Ops.pv (pv_move rfl) rfl ?_
              refine Ops.pv (pv_len_slice (T := 54) rfl rfl) rfl ?_
              refine Ops.pv (pv_lss rfl rfl) rfl ?_
              refine Ops.nil ?_
              refine Ends.seq ?_
              first | refine Wp.cond_dect rfl (fun h20 => ?_) (fun h20 => ?_) | refine Wp.cond_t rfl (fun h20 => ?_) (fun h20 => ?_)
              · obtain ⟨b8, o8, cap8, cc8, T8, f8, hv8, hbv8, hr8⟩ := hv2.open (by omega)
                cases hv8
                obtain ⟨e, hee⟩ : ∃ e, t[k]? = some e := ⟨_, List.getElem?_eq_getElem (by omega)⟩
                obtain ⟨d, hde⟩ : ∃ d, t[0]? = some d := ⟨_, List.getElem?_eq_getElem (by omega)⟩
                obtain ⟨e0, e1, e2, _⟩ := cel_reads hr8 hee
                obtain ⟨d0, d1, d2, _⟩ := cel_reads hr8 hde
                have hkk : e.kind = d.kind := m3.same (List.mem_of_getElem? hee) (List.mem_of_getElem? hde)
                refine Wp.skip ?_
                refine Ends.seq ?_
                refine Wp.seq ?_
                refine Wp.block ?_
                refine Wp.seq ?_
                refine AnyH.start H6 10 rfl ?_
                refine AnyH.take 0 rfl (by kernel_rfl) (by kernel_rfl) (by kernel_rfl) PF.pf rfl (pv_move rfl) rfl ?_
                refine AnyH.take 1 rfl (by kernel_rfl) (by kernel_rfl) (by kernel_rfl) PF.pf rfl (pv_move rfl) rfl ?_
                refine AnyH.take 2 rfl (by kernel_rfl) (by kernel_rfl) (by kernel_rfl) PF.pf rfl (pv_indexAddr rfl rfl rfl (by omega)) rfl ?_
                first | refine AnyH.take 3 rfl (by kernel_rfl) (by kernel_rfl) (by kernel_rfl) PF.pf rfl (pv_fieldAddr0 rfl rfl) rfl ?_ | refine AnyH.take 3 rfl (by kernel_rfl) (by kernel_rfl) (by kernel_rfl) PF.pf rfl (pv_fieldAddr rfl rfl) rfl ?_
                first | refine AnyH.take 4 rfl (by kernel_rfl) (by kernel_rfl) (by kernel_rfl) PF.pf rfl (pv_load rfl rfl rfl) rfl ?_ | refine AnyH.take 4 rfl (by kernel_rfl) (by kernel_rfl) (by kernel_rfl) PF.pf rfl (pv_load rfl rfl (by assumption)) rfl ?_
                refine AnyH.take 5 rfl (by kernel_rfl) (by kernel_rfl) (by kernel_rfl) PF.pf rfl (pv_move rfl) rfl ?_
                refine AnyH.take 6 rfl (by kernel_rfl) (by kernel_rfl) (by kernel_rfl) PF.pf rfl (pv_indexAddr (i := 0) rfl rfl rfl (by omega)) rfl ?_
                first | refine AnyH.take 7 rfl (by kernel_rfl) (by kernel_rfl) (by kernel_rfl) PF.pf rfl (pv_fieldAddr0 rfl rfl) rfl ?_ | refine AnyH.take 7 rfl (by kernel_rfl) (by kernel_rfl) (by kernel_rfl) PF.pf rfl (pv_fieldAddr rfl rfl) rfl ?_
                first | refine AnyH.take 8 rfl (by kernel_rfl) (by kernel_rfl) (by kernel_rfl) PF.pf rfl (pv_load rfl rfl rfl) rfl ?_ | refine AnyH.take 8 rfl (by kernel_rfl) (by kernel_rfl) (by kernel_rfl) PF.pf rfl (pv_load rfl rfl (by assumption)) rfl ?_
                refine AnyH.take 9 rfl (by kernel_rfl) (by kernel_rfl) (by kernel_rfl) PF.pf rfl ((pv_neq rfl rfl).fls (fun h => h hkk)) rfl ?_
                refine AnyH.done (by kernel_rfl) ?_
                refine Ends.seq ?_
                refine Wp.cond_false rfl ?_
                refine Wp.skip ?_
                refine Ends.block_normal ?_
                refine Ends.seq ?_
                refine Wp.region ?_
                refine Ops.pv (pv_move rfl) rfl ?_
                first | refine Ops.pv (pv_add rfl rfl (w64 (by omega) (by omega))) rfl ?_ | refine Ops.pv (pv_add rfl rfl rfl) rfl ?_
                refine Ops.pv (pv_assign rfl) rfl ?_
                refine Ops.nil ?_
                refine Ends.goes ?_
                refine Goes.back (hK1 (k + 1) (by omega) (by omega)) ⟨rfl, rfl, rfl, rfl, rfl, trivial⟩
              · refine Wp.exit ?_
                refine Ends.then_exit ?_
                refine Ends.then_exit ?_
                refine Ends.block_hit ?_
                refine Ends.block_normal ?_
                refine Ends.seq ?_
                refine Wp.region ?_
                refine Ops.pv (pv_move rfl) rfl ?_
                first | refine Ops.pv (pv_add rfl rfl (w64 (by omega) (by omega))) rfl ?_ | refine Ops.pv (pv_add rfl rfl rfl) rfl ?_
                refine Ops.pv (pv_assign rfl) rfl ?_
                refine Ops.nil ?_
                refine Ends.goes ?_
                refine Goes.back (hK (i + 1, t, (meetS S x.id (wOf true) x.wait), _, .slice wp t.length wc, H6) ⟨hb8, by dsimp only; omega, hA3, m3, h2⟩ (by dsimp only; omega)) ⟨rfl, rfl, rfl, rfl, trivial⟩
            · obtain ⟨b7, o7, cap7, cc7, T7, f7, hv7, hbv7, hr7⟩ := hv.open (by simp)
              cases hv7
              obtain ⟨q0, q1, q2, _⟩ := cel_reads (i := 0) hr7 rfl
              obtain ⟨m1, m2, m3⟩ := hM.no (x := x) (wait := x.wait) (way := wOf true) hw he (fun o ho => (hM.same ho (List.mem_cons_self ..)).trans hk)
              rw [m1, m2]
              refine Wp.skip ?_
              refine Ends.seq ?_
              refine Wp.seq ?_
              refine AnyH.start (K ++ [(b1, .cells x.cells.toArray 58)]) 13 rfl ?_
              refine AnyH.take 0 rfl (by kernel_rfl) (by kernel_rfl) (by kernel_rfl) PF.pf rfl (pv_move rfl) rfl ?_
              refine AnyH.take 1 rfl (by kernel_rfl) (by kernel_rfl) (by kernel_rfl) PF.pf rfl (pv_len_slice (T := 54) rfl rfl) rfl ?_
              refine AnyH.take 2 rfl (by kernel_rfl) (by kernel_rfl) (by kernel_rfl) PF.pf rfl ((pv_gtr rfl rfl).tru (by first | rfl | decide | omega | assumption | (simp; done) | (simp; omega))) rfl ?_
              refine AnyH.take 3 rfl (by kernel_rfl) (by kernel_rfl) (by kernel_rfl) PF.pf rfl (pv_move rfl) rfl ?_
              refine AnyH.take 4 rfl (by kernel_rfl) (by kernel_rfl) (by kernel_rfl) PF.pf ⟨_, _, rfl, rfl, rfl⟩ (pv_move rfl) rfl ?_
              refine AnyH.take 5 rfl (by kernel_rfl) (by kernel_rfl) (by kernel_rfl) PF.pf ⟨_, _, rfl, rfl, rfl⟩ (pv_indexAddr (i := 0) rfl rfl rfl (by simp)) rfl ?_
              first | refine AnyH.take 6 rfl (by kernel_rfl) (by kernel_rfl) (by kernel_rfl) PF.pf ⟨_, _, rfl, rfl, rfl⟩ (pv_fieldAddr0 rfl rfl) rfl ?_ | refine AnyH.take 6 rfl (by kernel_rfl) (by kernel_rfl) (by kernel_rfl) PF.pf ⟨_, _, rfl, rfl, rfl⟩ (pv_fieldAddr rfl rfl) rfl ?_
              first | refine AnyH.take 7 rfl (by kernel_rfl) (by kernel_rfl) (by kernel_rfl) PF.pf ⟨_, _, rfl, rfl, rfl⟩ (pv_load rfl rfl rfl) rfl ?_ | refine AnyH.take 7 rfl (by kernel_rfl) (by kernel_rfl) (by kernel_rfl) PF.pf ⟨_, _, rfl, rfl, rfl⟩ (pv_load rfl rfl (by assumption)) rfl ?_
              first | refine AnyH.take 8 rfl (by kernel_rfl) (by kernel_rfl) (by kernel_rfl) PF.pf ⟨_, _, rfl, rfl, rfl⟩ (pv_fieldAddr0 rfl rfl) rfl ?_ | refine AnyH.take 8 rfl (by kernel_rfl) (by kernel_rfl) (by kernel_rfl) PF.pf ⟨_, _, rfl, rfl, rfl⟩ (pv_fieldAddr rfl rfl) rfl ?_
              first | refine AnyH.take 9 rfl (by kernel_rfl) (by kernel_rfl) (by kernel_rfl) PF.pf ⟨_, _, rfl, rfl, rfl⟩ (pv_load rfl rfl rfl) rfl ?_ | refine AnyH.take 9 rfl (by kernel_rfl) (by kernel_rfl) (by kernel_rfl) PF.pf ⟨_, _, rfl, rfl, rfl⟩ (pv_load rfl rfl (by assumption)) rfl ?_
              refine AnyH.take 10 rfl (by kernel_rfl) (by kernel_rfl) (by kernel_rfl) PF.pf ⟨_, _, rfl, rfl, rfl⟩ ((pv_neq rfl rfl).fls (by first | exact fun h => h rfl | decide | omega | assumption)) rfl ?_
              refine AnyH.take 11 rfl (by kernel_rfl) (by kernel_rfl) (by kernel_rfl) PF.pf rfl (pv_pick_true rfl rfl) rfl ?_
              refine AnyH.take 12 rfl (by kernel_rfl) (by kernel_rfl) (by kernel_rfl) PF.pf rfl (pv_assign rfl) rfl ?_
              refine AnyH.done (by kernel_rfl) ?_
              refine Ends.seq ?_
              refine Wp.seq ?_
              refine Wp.seq ?_
              refine Wp.region ?_
              refine Ops.pv (pv_move rfl) rfl ?_
              refine Ops.pv (pv_move rfl) rfl ?_
              refine Ops.pv ((pv_neq_bool rfl rfl).is (u := .bool false) (by first | rfl | (simp; done) | simp_all)) rfl ?_
              refine Ops.pv (pv_move rfl) rfl ?_
              refine Ops.pvg ⟨_, _, rfl, rfl, rfl⟩ (pv_move rfl) rfl ?_
              refine Ops.pvg ⟨_, _, rfl, rfl, rfl⟩ (pv_move rfl) rfl ?_
              refine Ops.skipg ⟨_, _, rfl, rfl, rfl⟩ rfl ?_
              refine Ops.skipg ⟨_, _, rfl, rfl, rfl⟩ rfl ?_
              refine Ops.skipg ⟨_, _, rfl, rfl, rfl⟩ rfl ?_
              refine Ops.skipg ⟨_, _, rfl, rfl, rfl⟩ rfl ?_
              refine Ops.skipg ⟨_, _, rfl, rfl, rfl⟩ rfl ?_
              refine Ops.skipg ⟨_, _, rfl, rfl, rfl⟩ rfl ?_
              refine Ops.pvg ⟨_, _, rfl, rfl, rfl⟩ (pv_pick_false rfl rfl) rfl ?_
              refine Ops.pv (pv_pick_false rfl rfl) rfl ?_
              refine Ops.nil ?_
              refine Ends.seq ?_
              refine Wp.cond_false rfl ?_
              refine Wp.skip ?_
              refine Ends.seq ?_
              refine Wp.seq ?_
              refine Wp.seq ?_
              refine Wp.region ?_
              refine Ops.pv (pv_move rfl) rfl ?_
              refine Ops.nil ?_
              refine Ends.seq ?_
              refine Wp.cond_false rfl ?_
              refine Wp.seq ?_
              refine Wp.region ?_
              first | refine Ops.pv (pv_fieldAddr0 rfl rfl) rfl ?_ | refine Ops.pv (pv_fieldAddr rfl rfl) rfl ?_
              first | refine Ops.pv (pv_load rfl rfl rfl) rfl ?_ | refine Ops.pv (pv_load rfl rfl (by assumption)) rfl ?_
              refine Ops.nil ?_
              refine Ends.seq ?_
              first | refine Wp.cond_dect rfl (fun h21 => ?_) (fun h21 => ?_) | refine Wp.cond_t rfl (fun h21 => ?_) (fun h21 => ?_)
              · have hwt : x.wait = true := by assumption
                rw [if_pos hwt] at m3
                refine Wp.region ?_
                refine Ops.pv (pv_move rfl) rfl ?_
                refine Ops.pv (pv_loadK x.cells rfl rfl rfl ⟨rfl, rfl, rfl, trivial⟩) rfl ?_
                refine Ops.ef rfl (ef_buildSlice1 (k := 3) rfl rfl rfl rfl rfl) ?_
                rintro _ _ ⟨b8, rfl, rfl⟩
                refine Ops.ef rfl (ef_append (H := K) (xs := x.cells) rfl hs rfl ⟨rfl, rfl, rfl, trivial⟩ rfl rfl rfl (by omega) (by omega) rfl rfl) ?_
                rintro _ _ ⟨v7, H7, hs7, rfl, rfl⟩
                refine Ops.app ?_
                rw [← cel_one1 (f := OpE.cells) x, ← cel_app, show (a0 :: t) ++ [x] = (a0 :: (t ++ [x])) from rfl, show (a0 :: t).length + 1 = (a0 :: (t ++ [x])).length by simp] at hs7
                refine Ops.pv (pv_assign rfl) rfl ?_
                refine Ops.nil ?_
                refine Ends.seq ?_
                refine Wp.seq ?_
                refine Wp.region ?_
                refine Ops.pv (pv_assign rfl) rfl ?_
                refine Ops.nil ?_
                refine Ends.seq ?_
                refine Wp.block ?_
                have h2 := hs7
                obtain ⟨wp, wc, ew⟩ := h2.form
                rw [ew] at h2 ⊢
                have hv2 := h2.view
                have hb8 : (a0 :: (t ++ [x])).length ≤ i + 1 := by simp only [List.length_append, List.length_cons, List.length_nil] at hll ⊢; omega
                have hb9 : (a0 :: (t ++ [x])).length ≤ 101 := by omega
                refine Wp.loopK (σ := Nat) [(0, _), (3, _), (4, _), (5, _)] (fun s => [(13, .int .i64 s)]) (fun s => H7 ++ (HC3 ++ (G ++ F))) (fun s => s ≥ 1) (fun s => (a0 :: (t ++ [x])).length - s) 1 (Nat.le_refl 1) ⟨rfl, rfl, rfl, rfl, trivial⟩ ⟨rfl, trivial⟩ (by intro w ho; (try dsimp only [List.nil_append, List.cons_append]); exact Drop.own ho) ?_
                rintro k KK hk1 hK1
                dsimp only [List.cons_append, List.nil_append] at hK1 ⊢
                refine Wp.seq ?_
                refine Wp.seq ?_
                refine Wp.region ?_
                refine Ops.pv (pv_move rfl) rfl ?_
                refine Ops.pv (pv_move rfl) rfl ?_
                refine Ops.pv (pv_len_slice (T := 54) rfl rfl) rfl ?_
                refine Ops.pv (pv_lss rfl rfl) rfl ?_
                refine Ops.nil ?_
                refine Ends.seq ?_
                first | refine Wp.cond_dect rfl (fun h22 => ?_) (fun h22 => ?_) | refine Wp.cond_t rfl (fun h22 => ?_) (fun h22 => ?_)
                · obtain ⟨b8, o8, cap8, cc8, T8, f8, hv8, hbv8, hr8⟩ := hv2.open (by omega)
                  cases hv8
                  obtain ⟨e, hee⟩ : ∃ e, (a0 :: (t ++ [x]))[k]? = some e := ⟨_, List.getElem?_eq_getElem (by omega)⟩
                  obtain ⟨d, hde⟩ : ∃ d, (a0 :: (t ++ [x]))[0]? = some d := ⟨_, List.getElem?_eq_getElem (by omega)⟩
                  obtain ⟨e0, e1, e2, _⟩ := cel_reads hr8 hee
                  obtain ⟨d0, d1, d2, _⟩ := cel_reads hr8 hde
                  have hkk : e.kind = d.kind := m3.same (List.mem_of_getElem? hee) (List.mem_of_getElem? hde)
                  refine Wp.skip ?_
                  refine Ends.seq ?_
                  refine Wp.seq ?_
                  refine Wp.block ?_
                  refine Wp.seq ?_
                  refine AnyH.start H7 10 rfl ?_
                  refine AnyH.take 0 rfl (by kernel_rfl) (by kernel_rfl) (by kernel_rfl) PF.pf rfl (pv_move rfl) rfl ?_
                  refine AnyH.take 1 rfl (by kernel_rfl) (by kernel_rfl) (by kernel_rfl) PF.pf rfl (pv_move rfl) rfl ?_
                  refine AnyH.take 2 rfl (by kernel_rfl) (by kernel_rfl) (by kernel_rfl) PF.pf rfl (pv_indexAddr rfl rfl rfl (by omega)) rfl ?_
                  first | refine AnyH.take 3 rfl (by kernel_rfl) (by kernel_rfl) (by kernel_rfl) PF.pf rfl (pv_fieldAddr0 rfl rfl) rfl ?_ | refine AnyH.take 3 rfl (by kernel_rfl) (by kernel_rfl) (by kernel_rfl) PF.pf rfl (pv_fieldAddr rfl rfl) rfl ?_
                  first | refine AnyH.take 4 rfl (by kernel_rfl) (by kernel_rfl) (by kernel_rfl) PF.pf rfl (pv_load rfl rfl rfl) rfl ?_ | refine AnyH.take 4 rfl (by kernel_rfl) (by kernel_rfl) (by kernel_rfl) PF.pf rfl (pv_load rfl rfl (by assumption)) rfl ?_
                  refine AnyH.take 5 rfl (by kernel_rfl) (by kernel_rfl) (by kernel_rfl) PF.pf rfl (pv_move rfl) rfl ?_
                  refine AnyH.take 6 rfl (by kernel_rfl) (by kernel_rfl) (by kernel_rfl) PF.pf rfl (pv_indexAddr (i := 0) rfl rfl rfl (by omega)) rfl ?_
                  first | refine AnyH.take 7 rfl (by kernel_rfl) (by kernel_rfl) (by kernel_rfl) PF.pf rfl (pv_fieldAddr0 rfl rfl) rfl ?_ | refine AnyH.take 7 rfl (by kernel_rfl) (by kernel_rfl) (by kernel_rfl) PF.pf rfl (pv_fieldAddr rfl rfl) rfl ?_
                  first | refine AnyH.take 8 rfl (by kernel_rfl) (by kernel_rfl) (by kernel_rfl) PF.pf rfl (pv_load rfl rfl rfl) rfl ?_ | refine AnyH.take 8 rfl (by kernel_rfl) (by kernel_rfl) (by kernel_rfl) PF.pf rfl (pv_load rfl rfl (by assumption)) rfl ?_
                  refine AnyH.take 9 rfl (by kernel_rfl) (by kernel_rfl) (by kernel_rfl) PF.pf rfl ((pv_neq rfl rfl).fls (fun h => h hkk)) rfl ?_
                  refine AnyH.done (by kernel_rfl) ?_
                  refine Ends.seq ?_
                  refine Wp.cond_false rfl ?_
                  refine Wp.skip ?_
                  refine Ends.block_normal ?_
                  refine Ends.seq ?_
                  refine Wp.region ?_
                  refine Ops.pv (pv_move rfl) rfl ?_
                  first | refine Ops.pv (pv_add rfl rfl (w64 (by omega) (by omega))) rfl ?_ | refine Ops.pv (pv_add rfl rfl rfl) rfl ?_
                  refine Ops.pv (pv_assign rfl) rfl ?_
                  refine Ops.nil ?_
                  refine Ends.goes ?_
                  refine Goes.back (hK1 (k + 1) (by omega) (by omega)) ⟨rfl, rfl, rfl, rfl, rfl, trivial⟩
                · refine Wp.exit ?_
                  refine Ends.then_exit ?_
                  refine Ends.then_exit ?_
                  refine Ends.block_hit ?_
                  refine Ends.block_normal ?_
                  refine Ends.seq ?_
                  refine Wp.region ?_
                  refine Ops.pv (pv_move rfl) rfl ?_
                  first | refine Ops.pv (pv_add rfl rfl (w64 (by omega) (by omega))) rfl ?_ | refine Ops.pv (pv_add rfl rfl rfl) rfl ?_
                  refine Ops.pv (pv_assign rfl) rfl ?_
                  refine Ops.nil ?_
                  refine Ends.goes ?_
                  refine Goes.back (hK (i + 1, (a0 :: (t ++ [x])), (meetS S x.id (wOf true) x.wait), _, .slice wp (a0 :: (t ++ [x])).length wc, H7) ⟨hb8, by dsimp only; omega, hA3, m3, h2⟩ (by dsimp only; omega)) ⟨rfl, rfl, rfl, rfl, trivial⟩
              · have hwt : ¬ x.wait = true := by simp_all
                rw [if_neg hwt] at m3
                refine Wp.skip ?_
                refine Ends.seq ?_
                refine Wp.seq ?_
                refine Wp.region ?_
                refine Ops.pv (pv_assign rfl) rfl ?_
                refine Ops.nil ?_
                refine Ends.seq ?_
                refine Wp.block ?_
                have h2 := hs
                obtain ⟨wp, wc, ew⟩ := h2.form
                rw [ew] at h2 ⊢
                have hv2 := h2.view
                have hb8 : (a0 :: t).length ≤ i + 1 := by simp only [List.length_append, List.length_cons, List.length_nil] at hll ⊢; omega
                have hb9 : (a0 :: t).length ≤ 101 := by omega
                refine Wp.loopK (σ := Nat) [(0, _), (3, _), (4, _), (5, _)] (fun s => [(13, .int .i64 s)]) (fun s => K ++ (HC3 ++ (G ++ F))) (fun s => s ≥ 1) (fun s => (a0 :: t).length - s) 1 (Nat.le_refl 1) ⟨rfl, rfl, rfl, rfl, trivial⟩ ⟨rfl, trivial⟩ (by intro w ho; (try dsimp only [List.nil_append, List.cons_append]); exact Drop.own ho) ?_
                rintro k KK hk1 hK1
                dsimp only [List.cons_append, List.nil_append] at hK1 ⊢
                refine Wp.seq ?_
                refine Wp.seq ?_
                refine Wp.region ?_
                refine Ops.pv (pv_move rfl) rfl ?_
                refine Ops.pv (pv_move rfl) rfl ?_
                refine Ops.pv (pv_len_slice (T := 54) rfl rfl) rfl ?_
                refine Ops.pv (pv_lss rfl rfl) rfl ?_
                refine Ops.nil ?_
                refine Ends.seq ?_
                first | refine Wp.cond_dect rfl (fun h23 => ?_) (fun h23 => ?_) | refine Wp.cond_t rfl (fun h23 => ?_) (fun h23 => ?_)
                · obtain ⟨b8, o8, cap8, cc8, T8, f8, hv8, hbv8, hr8⟩ := hv2.open (by omega)
                  cases hv8
                  obtain ⟨e, hee⟩ : ∃ e, (a0 :: t)[k]? = some e := ⟨_, List.getElem?_eq_getElem (by omega)⟩
                  obtain ⟨d, hde⟩ : ∃ d, (a0 :: t)[0]? = some d := ⟨_, List.getElem?_eq_getElem (by omega)⟩
                  obtain ⟨e0, e1, e2, _⟩ := cel_reads hr8 hee
                  obtain ⟨d0, d1, d2, _⟩ := cel_reads hr8 hde
                  have hkk : e.kind = d.kind := m3.same (List.mem_of_getElem? hee) (List.mem_of_getElem? hde)
                  refine Wp.skip ?_
                  refine Ends.seq ?_
                  refine Wp.seq ?_
                  refine Wp.block ?_
                  refine Wp.seq ?_
                  refine AnyH.start K 10 rfl ?_
                  refine AnyH.take 0 rfl (by kernel_rfl) (by kernel_rfl) (by kernel_rfl) PF.pf rfl (pv_move rfl) rfl ?_
                  refine AnyH.take 1 rfl (by kernel_rfl) (by kernel_rfl) (by kernel_rfl) PF.pf rfl (pv_move rfl) rfl ?_
                  refine AnyH.take 2 rfl (by kernel_rfl) (by kernel_rfl) (by kernel_rfl) PF.pf rfl (pv_indexAddr rfl rfl rfl (by omega)) rfl ?_
                  first | refine AnyH.take 3 rfl (by kernel_rfl) (by kernel_rfl) (by kernel_rfl) PF.pf rfl (pv_fieldAddr0 rfl rfl) rfl ?_ | refine AnyH.take 3 rfl (by kernel_rfl) (by kernel_rfl) (by kernel_rfl) PF.pf rfl (pv_fieldAddr rfl rfl) rfl ?_
                  first | refine AnyH.take 4 rfl (by kernel_rfl) (by kernel_rfl) (by kernel_rfl) PF.pf rfl (pv_load rfl rfl rfl) rfl ?_ | refine AnyH.take 4 rfl (by kernel_rfl) (by kernel_rfl) (by kernel_rfl) PF.pf rfl (pv_load rfl rfl (by assumption)) rfl ?_
                  refine AnyH.take 5 rfl (by kernel_rfl) (by kernel_rfl) (by kernel_rfl) PF.pf rfl (pv_move rfl) rfl ?_
                  refine AnyH.take 6 rfl (by kernel_rfl) (by kernel_rfl) (by kernel_rfl) PF.pf rfl (pv_indexAddr (i := 0) rfl rfl rfl (by omega)) rfl ?_
                  first | refine AnyH.take 7 rfl (by kernel_rfl) (by kernel_rfl) (by kernel_rfl) PF.pf rfl (pv_fieldAddr0 rfl rfl) rfl ?_ | refine AnyH.take 7 rfl (by kernel_rfl) (by kernel_rfl) (by kernel_rfl) PF.pf rfl (pv_fieldAddr rfl rfl) rfl ?_
                  first | refine AnyH.take 8 rfl (by kernel_rfl) (by kernel_rfl) (by kernel_rfl) PF.pf rfl (pv_load rfl rfl rfl) rfl ?_ | refine AnyH.take 8 rfl (by kernel_rfl) (by kernel_rfl) (by kernel_rfl) PF.pf rfl (pv_load rfl rfl (by assumption)) rfl ?_
                  refine AnyH.take 9 rfl (by kernel_rfl) (by kernel_rfl) (by kernel_rfl) PF.pf rfl ((pv_neq rfl rfl).fls (fun h => h hkk)) rfl ?_
                  refine AnyH.done (by kernel_rfl) ?_
                  refine Ends.seq ?_
                  refine Wp.cond_false rfl ?_
                  refine Wp.skip ?_
                  refine Ends.block_normal ?_
                  refine Ends.seq ?_
                  refine Wp.region ?_
                  refine Ops.pv (pv_move rfl) rfl ?_
                  first | refine Ops.pv (pv_add rfl rfl (w64 (by omega) (by omega))) rfl ?_ | refine Ops.pv (pv_add rfl rfl rfl) rfl ?_
                  refine Ops.pv (pv_assign rfl) rfl ?_
                  refine Ops.nil ?_
                  refine Ends.goes ?_
                  refine Goes.back (hK1 (k + 1) (by omega) (by omega)) ⟨rfl, rfl, rfl, rfl, rfl, trivial⟩
                · refine Wp.exit ?_
                  refine Ends.then_exit ?_
                  refine Ends.then_exit ?_
                  refine Ends.block_hit ?_
                  refine Ends.block_normal ?_
                  refine Ends.seq ?_
                  refine Wp.region ?_
                  refine Ops.pv (pv_move rfl) rfl ?_
                  first | refine Ops.pv (pv_add rfl rfl (w64 (by omega) (by omega))) rfl ?_ | refine Ops.pv (pv_add rfl rfl rfl) rfl ?_
                  refine Ops.pv (pv_assign rfl) rfl ?_
                  refine Ops.nil ?_
                  refine Ends.goes ?_
                  refine Goes.back (hK (i + 1, (a0 :: t), (meetS S x.id (wOf true) x.wait), _, .slice wp (a0 :: t).length wc, K) ⟨hb8, by dsimp only; omega, hA3, m3, h2⟩ (by dsimp only; omega)) ⟨rfl, rfl, rfl, rfl, trivial⟩
  · refine Wp.exit ?_
    refine Ends.then_exit ?_
    refine Ends.then_exit ?_
    refine Ends.block_hit ?_
    refine Ends.seq ?_
    refine Wp.seq ?_
    refine Wp.region ?_
    refine Ops.pv (pv_move rfl) rfl ?_
    refine Ops.ef rfl (ef_call (tr_epState _ _ S hA (by omega)) rfl rfl) ?_
    rintro _ _ ⟨_, _, ⟨w1, C1, rfl, hc1, rfl⟩, rfl, rfl⟩
    refine Ops.app ?_
    obtain ⟨p1, q1, rfl⟩ := hc1.form
    refine Ops.pv (pv_move rfl) rfl ?_
    refine Ops.pv (pv_extract rfl rfl) rfl ?_
    refine Ops.pv (pv_extract rfl rfl) rfl ?_
    refine Ops.pv (pv_assign rfl) rfl ?_
    refine Ops.pv (pv_assign rfl) rfl ?_
    refine Ops.nil ?_
    refine Ends.seq ?_
    refine Wp.seq ?_
    refine Wp.region ?_
    refine Ops.pv (pv_move rfl) rfl ?_
    refine Ops.pv (pv_len_slice (T := 26) rfl rfl) rfl ?_
    refine Ops.pv (pv_move rfl) rfl ?_
    refine Ops.pv (pv_len_slice (T := 54) rfl rfl) rfl ?_
    refine Ops.pv ((pv_eql rfl rfl).tru (by first | rfl | decide | omega | assumption | (simp; done) | (simp; omega))) rfl ?_
    refine Ops.pv (pv_assign rfl) rfl ?_
    refine Ops.nil ?_
    refine Ends.seq ?_
    refine Wp.ret ?_
    exact Ends.ret (res1 rfl rfl) ⟨rfl, rfl⟩

set_option maxHeartbeats 4000000 in
theorem tr_endpointRow (n m : Int) (b : Bool) : TrR Try.prog 9 [.int .i64 n, .int .i64 m, .bool b] ([]) (.bool true) := by
  refine Tr.enter Try.func9 rfl Try.ntmps9 rfl (fun W F => ?_)
  refine Wp.app ?_
  refine Wp.seq ?_
  refine Wp.region ?_
  refine Ops.pv (pv_assign rfl) rfl ?_
  refine Ops.nil ?_
  refine Ends.seq ?_
  refine Wp.seq ?_
  refine Wp.seq ?_
  refine Wp.region ?_
  refine Ops.ef rfl (ef_callr (tr_works18) rfl rfl) ?_
  rintro _ _ ⟨rfl, rfl⟩
  rename_i F
  first | refine Ops.pv (pv_not_dec rfl) rfl ?_ | refine Ops.pv (pv_not rfl) rfl ?_
  refine Ops.nil ?_
  refine Ends.seq ?_
  refine Wp.cond_false rfl ?_
  refine Wp.skip ?_
  refine Ends.seq ?_
  refine Wp.seq ?_
  refine Wp.region ?_
  refine Ops.pv (pv_move rfl) rfl ?_
  refine Ops.pv (pv_conv rfl (uI_eq _)) rfl ?_
  refine Ops.pv (pv_rem rfl rfl (by omega) (tmod_nat (b := 30) rfl)) rfl ?_
  refine Ops.pv (pv_conv rfl (w64n rfl (by omega))) rfl ?_
  refine Ops.pv (pv_move rfl) rfl ?_
  refine Ops.pv (pv_conv rfl (uI_eq _)) rfl ?_
  refine Ops.pv (pv_rem rfl rfl (by omega) (tmod_nat (b := 30) rfl)) rfl ?_
  refine Ops.pv (pv_conv rfl (w64n rfl (by omega))) rfl ?_
  refine Ops.pv (pv_assign rfl) rfl ?_
  refine Ops.pv (pv_assign rfl) rfl ?_
  refine Ops.nil ?_
  refine Ends.seq ?_
  refine Wp.seq ?_
  refine Wp.region ?_
  obtain ⟨n0, hn0, hn30⟩ : ∃ n0 : Nat, uI n % 30 = n0 ∧ n0 < 30 := ⟨_, rfl, Nat.mod_lt _ (by omega)⟩
  obtain ⟨m0, hm0, hm30⟩ : ∃ m0 : Nat, uI m % 30 = m0 ∧ m0 < 30 := ⟨_, rfl, Nat.mod_lt _ (by omega)⟩
  rw [hn0, hm0]
  refine Ops.ef rfl (ef_call (tr_epNew) rfl rfl) ?_
  rintro _ _ ⟨_, _, ⟨pb1, rfl, hZ1⟩, rfl, rfl⟩
  refine Ops.app ?_
  refine Ops.pv (pv_assign rfl) rfl ?_
  refine Ops.nil ?_
  refine Ends.seq ?_
  refine Wp.seq ?_
  refine Wp.seq ?_
  refine Wp.region ?_
  refine Ops.pv (pv_assign rfl) rfl ?_
  refine Ops.nil ?_
  refine Ends.seq ?_
  refine Wp.block ?_
  refine Wp.loopK (σ := Nat × Hp) [(0, _), (1, _), (2, _), (7, _)] (fun s => [(8, .int .i64 s.1)]) (fun s => s.2 ++ F) (fun s => s.1 ≤ n0 ∧ EpH ⟨rowW b s.1, seg 0 s.1⟩ pb1 s.2) (fun s => n0 - s.1) (0, _) ⟨Nat.zero_le _, hZ1⟩ ⟨rfl, rfl, rfl, rfl, trivial⟩ ⟨rfl, trivial⟩ (by intro w ho; (try dsimp only [List.nil_append, List.cons_append]); exact Drop.own ho) ?_
  rintro ⟨i, H⟩ KK ⟨hi, hA⟩ hK
  dsimp only [List.cons_append, List.nil_append] at hK ⊢
  dsimp only at hi hA ⊢
  refine Wp.seq ?_
  refine Wp.seq ?_
  refine Wp.region ?_
  refine Ops.pv (pv_move rfl) rfl ?_
  refine Ops.pv (pv_move rfl) rfl ?_
  refine Ops.pv (pv_lss rfl rfl) rfl ?_
  refine Ops.nil ?_
  refine Ends.seq ?_
  first | refine Wp.cond_dect rfl (fun h1 => ?_) (fun h1 => ?_) | refine Wp.cond_t rfl (fun h1 => ?_) (fun h1 => ?_)
  · refine Wp.skip ?_
    refine Ends.seq ?_
    refine Wp.seq ?_
    refine Wp.block ?_
    refine Wp.seq ?_
    refine Wp.region ?_
    refine Ops.pv (pv_assign rfl) rfl ?_
    refine Ops.nil ?_
    refine Ends.seq ?_
    refine Wp.seq ?_
    refine Wp.region ?_
    refine Ops.pv (pv_assign rfl) rfl ?_
    refine Ops.nil ?_
    refine Ends.seq ?_
    refine Wp.seq ?_
    refine Wp.seq ?_
    refine Wp.region ?_
    refine Ops.pv (pv_move rfl) rfl ?_
    refine Ops.nil ?_
    refine Ends.seq ?_
    refine Wp.cond_t rfl (fun h2 => ?_) (fun h2 => ?_)
    · have hb : b = true := by assumption
      subst hb
      refine Wp.region ?_
      refine Ops.pv (pv_move rfl) rfl ?_
      refine Ops.pv (pv_move rfl) rfl ?_
      refine Ops.ef rfl (ef_call (tr_epRecv _ _ ⟨rowW true i, seg 0 i⟩ hA (by dsimp only; rw [seg_len]; omega) i true) rfl rfl) ?_
      rintro _ _ ⟨_, _, ⟨rfl, hA1⟩, rfl, rfl⟩
      refine Ops.app ?_
      obtain ⟨g1, g2, g3⟩ := row_put true (i := i) (by omega)
      rw [g1, g2]
      rw [g3] at hA1
      refine Ops.pv (pv_move rfl) rfl ?_
      refine Ops.pv (pv_extract rfl rfl) rfl ?_
      refine Ops.pv (pv_extract rfl rfl) rfl ?_
      refine Ops.pv (pv_extract rfl rfl) rfl ?_
      refine Ops.pv (pv_assign rfl) rfl ?_
      refine Ops.pv (pv_assign rfl) rfl ?_
      refine Ops.nil ?_
      refine Ends.seq ?_
      refine Wp.seq ?_
      refine Wp.region ?_
      refine Ops.pv (pv_move rfl) rfl ?_
      refine Ops.pv (pv_move rfl) rfl ?_
      refine Ops.pvg ⟨_, _, rfl, rfl, rfl⟩ (pv_move rfl) rfl ?_
      refine Ops.pvg ⟨_, _, rfl, rfl, rfl⟩ ((pv_neq rfl rfl).fls (by first | exact fun h => h rfl | decide | omega | assumption)) rfl ?_
      refine Ops.pv (pv_pick_false rfl rfl) rfl ?_
      refine Ops.nil ?_
      refine Ends.seq ?_
      refine Wp.cond_false rfl ?_
      refine Wp.skip ?_
      refine Ends.block_normal ?_
      refine Ends.seq ?_
      refine Wp.region ?_
      refine Ops.pv (pv_move rfl) rfl ?_
      first | refine Ops.pv (pv_add rfl rfl (w64 (by omega) (by omega))) rfl ?_ | refine Ops.pv (pv_add rfl rfl rfl) rfl ?_
      refine Ops.pv (pv_assign rfl) rfl ?_
      refine Ops.nil ?_
      refine Ends.goes ?_
      refine Goes.back (hK (i + 1, _) ⟨by dsimp only; omega, hA1⟩ (by dsimp only; omega)) ⟨rfl, rfl, rfl, rfl, rfl, trivial⟩
    · have hb : b = false := by assumption
      subst hb
      refine Wp.region ?_
      refine Ops.pv (pv_move rfl) rfl ?_
      refine Ops.pv (pv_move rfl) rfl ?_
      refine Ops.ef rfl (ef_call (tr_epSend _ _ ⟨rowW false i, seg 0 i⟩ hA (by dsimp only; rw [seg_len]; omega) i true) rfl rfl) ?_
      rintro _ _ ⟨_, _, ⟨rfl, hA2⟩, rfl, rfl⟩
      refine Ops.app ?_
      obtain ⟨g1, g2, g3⟩ := row_put false (i := i) (by omega)
      rw [g1, g2]
      rw [g3] at hA2
      refine Ops.pv (pv_move rfl) rfl ?_
      refine Ops.pv (pv_extract rfl rfl) rfl ?_
      refine Ops.pv (pv_extract rfl rfl) rfl ?_
      refine Ops.pv (pv_extract rfl rfl) rfl ?_
      refine Ops.pv (pv_assign rfl) rfl ?_
      refine Ops.pv (pv_assign rfl) rfl ?_
      refine Ops.nil ?_
      refine Ends.seq ?_
      refine Wp.seq ?_
      refine Wp.region ?_
      refine Ops.pv (pv_move rfl) rfl ?_
      refine Ops.pv (pv_move rfl) rfl ?_
      refine Ops.pvg ⟨_, _, rfl, rfl, rfl⟩ (pv_move rfl) rfl ?_
      refine Ops.pvg ⟨_, _, rfl, rfl, rfl⟩ ((pv_neq rfl rfl).fls (by first | exact fun h => h rfl | decide | omega | assumption)) rfl ?_
      refine Ops.pv (pv_pick_false rfl rfl) rfl ?_
      refine Ops.nil ?_
      refine Ends.seq ?_
      refine Wp.cond_false rfl ?_
      refine Wp.skip ?_
      refine Ends.block_normal ?_
      refine Ends.seq ?_
      refine Wp.region ?_
      refine Ops.pv (pv_move rfl) rfl ?_
      first | refine Ops.pv (pv_add rfl rfl (w64 (by omega) (by omega))) rfl ?_ | refine Ops.pv (pv_add rfl rfl rfl) rfl ?_
      refine Ops.pv (pv_assign rfl) rfl ?_
      refine Ops.nil ?_
      refine Ends.goes ?_
      refine Goes.back (hK (i + 1, _) ⟨by dsimp only; omega, hA2⟩ (by dsimp only; omega)) ⟨rfl, rfl, rfl, rfl, rfl, trivial⟩
  · refine Wp.exit ?_
    refine Ends.then_exit ?_
    refine Ends.then_exit ?_
    refine Ends.block_hit ?_
    refine Ends.seq ?_
    refine Wp.seq ?_
    refine Wp.seq ?_
    refine Wp.region ?_
    refine Ops.pv (pv_assign rfl) rfl ?_
    refine Ops.nil ?_
    refine Ends.seq ?_
    refine Wp.block ?_
    have hin : n0 = i := by omega
    subst hin
    refine Wp.loopK (σ := Nat × Hp) [(0, _), (1, _), (2, _), (7, _)] (fun s => [(11, .int .i64 s.1)]) (fun s => s.2 ++ F) (fun s => s.1 ≤ m0 ∧ EpH ⟨rowW b n0, seg s.1 n0⟩ pb1 s.2) (fun s => m0 - s.1) (0, _) ⟨Nat.zero_le _, hA⟩ ⟨rfl, rfl, rfl, rfl, trivial⟩ ⟨rfl, trivial⟩ (by intro w ho; (try dsimp only [List.nil_append, List.cons_append]); exact Drop.own ho) ?_
    rintro ⟨i, H⟩ KK ⟨hi, hA⟩ hK
    dsimp only [List.cons_append, List.nil_append] at hK ⊢
    dsimp only at hi hA ⊢
    refine Wp.seq ?_
    refine Wp.seq ?_
    refine Wp.region ?_
    refine Ops.pv (pv_move rfl) rfl ?_
    refine Ops.pv (pv_move rfl) rfl ?_
    refine Ops.pv (pv_lss rfl rfl) rfl ?_
    refine Ops.nil ?_
    refine Ends.seq ?_
    first | refine Wp.cond_dect rfl (fun h3 => ?_) (fun h3 => ?_) | refine Wp.cond_t rfl (fun h3 => ?_) (fun h3 => ?_)
    · refine Wp.skip ?_
      refine Ends.seq ?_
      refine Wp.seq ?_
      refine Wp.block ?_
      refine Wp.seq ?_
      refine Wp.region ?_
      refine Ops.pv (pv_assign rfl) rfl ?_
      refine Ops.nil ?_
      refine Ends.seq ?_
      refine Wp.seq ?_
      refine Wp.region ?_
      refine Ops.pv (pv_assign rfl) rfl ?_
      refine Ops.nil ?_
      refine Ends.seq ?_
      refine Wp.seq ?_
      refine Wp.seq ?_
      refine Wp.region ?_
      refine Ops.pv (pv_move rfl) rfl ?_
      refine Ops.nil ?_
      refine Ends.seq ?_
      refine Wp.cond_t rfl (fun h4 => ?_) (fun h4 => ?_)
      · have hb : b = true := by assumption
        subst hb
        refine Wp.region ?_
        refine Ops.pv (pv_move rfl) rfl ?_
        refine Ops.pv (pv_move rfl) rfl ?_
        first | refine Ops.pv (pv_add rfl rfl (w64 (by omega) (by omega))) rfl ?_ | refine Ops.pv (pv_add rfl rfl rfl) rfl ?_
        refine Ops.ef rfl (ef_call (tr_epSend _ _ ⟨rowW true n0, seg i n0⟩ hA (by dsimp only; rw [seg_len]; omega) (32 + i) false) rfl rfl) ?_
        rintro _ _ ⟨_, _, ⟨rfl, hA3⟩, rfl, rfl⟩
        refine Ops.app ?_
        obtain ⟨g1, g2, g3⟩ := row_take true false (by decide) (i := i) (n := n0) (by omega) hn30
        rw [g1, g2]
        rw [g3] at hA3
        refine Ops.pv (pv_move rfl) rfl ?_
        refine Ops.pv (pv_extract rfl rfl) rfl ?_
        refine Ops.pv (pv_extract rfl rfl) rfl ?_
        refine Ops.pv (pv_extract rfl rfl) rfl ?_
        refine Ops.pv (pv_assign rfl) rfl ?_
        refine Ops.pv (pv_assign rfl) rfl ?_
        refine Ops.nil ?_
        refine Ends.seq ?_
        refine Wp.seq ?_
        refine Wp.region ?_
        refine Ops.pv (pv_move rfl) rfl ?_
        refine Ops.pv (pv_move rfl) rfl ?_
        refine Ops.pv (pv_move rfl) rfl ?_
        refine Ops.pv (pv_lss rfl rfl) rfl ?_
        refine Ops.pv ((pv_neq_bool rfl rfl).is (u := .bool false) (by simp)) rfl ?_
        refine Ops.pv (pv_move rfl) rfl ?_
        refine Ops.pvg ⟨_, _, rfl, rfl, rfl⟩ (pv_move rfl) rfl ?_
        refine Ops.pvg ⟨_, _, rfl, rfl, rfl⟩ (pv_move rfl) rfl ?_
        first | refine Ops.split (t := 84) rfl (fun h5 => ?_) (fun h5 => ?_) | refine Ops.splitb (t := 84) rfl (fun h5 => ?_) (fun h5 => ?_)
        · refine Ops.pvg ⟨_, _, rfl, rfl, rfl⟩ (pv_move rfl) rfl ?_
          refine Ops.pvg ⟨_, _, rfl, rfl, rfl⟩ (pv_move rfl) rfl ?_
          refine Ops.pvg ⟨_, _, rfl, rfl, rfl⟩ ((pv_neq rfl rfl).fls (fun e => e (if_pos (by assumption)))) rfl ?_
          refine Ops.pvg ⟨_, _, rfl, rfl, rfl⟩ (pv_pick_true rfl rfl) rfl ?_
          refine Ops.pv (pv_pick_false rfl rfl) rfl ?_
          refine Ops.nil ?_
          refine Ends.seq ?_
          refine Wp.cond_false rfl ?_
          refine Wp.skip ?_
          refine Ends.block_normal ?_
          refine Ends.seq ?_
          refine Wp.region ?_
          refine Ops.pv (pv_move rfl) rfl ?_
          first | refine Ops.pv (pv_add rfl rfl (w64 (by omega) (by omega))) rfl ?_ | refine Ops.pv (pv_add rfl rfl rfl) rfl ?_
          refine Ops.pv (pv_assign rfl) rfl ?_
          refine Ops.nil ?_
          refine Ends.goes ?_
          refine Goes.back (hK (i + 1, _) ⟨by dsimp only; omega, hA3⟩ (by dsimp only; omega)) ⟨rfl, rfl, rfl, rfl, rfl, trivial⟩
        · refine Ops.skipg ⟨_, _, rfl, rfl, rfl⟩ rfl ?_
          refine Ops.skipg ⟨_, _, rfl, rfl, rfl⟩ rfl ?_
          refine Ops.skipg ⟨_, _, rfl, rfl, rfl⟩ rfl ?_
          refine Ops.pvg ⟨_, _, rfl, rfl, rfl⟩ (pv_pick_false rfl rfl) rfl ?_
          refine Ops.pv (pv_pick_false rfl rfl) rfl ?_
          refine Ops.nil ?_
          refine Ends.seq ?_
          refine Wp.cond_false rfl ?_
          refine Wp.skip ?_
          refine Ends.block_normal ?_
          refine Ends.seq ?_
          refine Wp.region ?_
          refine Ops.pv (pv_move rfl) rfl ?_
          first | refine Ops.pv (pv_add rfl rfl (w64 (by omega) (by omega))) rfl ?_ | refine Ops.pv (pv_add rfl rfl rfl) rfl ?_
          refine Ops.pv (pv_assign rfl) rfl ?_
          refine Ops.nil ?_
          refine Ends.goes ?_
          refine Goes.back (hK (i + 1, _) ⟨by dsimp only; omega, hA3⟩ (by dsimp only; omega)) ⟨rfl, rfl, rfl, rfl, rfl, trivial⟩
      · have hb : b = false := by assumption
        subst hb
        refine Wp.region ?_
        refine Ops.pv (pv_move rfl) rfl ?_
        refine Ops.pv (pv_move rfl) rfl ?_
        first | refine Ops.pv (pv_add rfl rfl (w64 (by omega) (by omega))) rfl ?_ | refine Ops.pv (pv_add rfl rfl rfl) rfl ?_
        refine Ops.ef rfl (ef_call (tr_epRecv _ _ ⟨rowW false n0, seg i n0⟩ hA (by dsimp only; rw [seg_len]; omega) (32 + i) false) rfl rfl) ?_
        rintro _ _ ⟨_, _, ⟨rfl, hA4⟩, rfl, rfl⟩
        refine Ops.app ?_
        obtain ⟨g1, g2, g3⟩ := row_take false true (by decide) (i := i) (n := n0) (by omega) hn30
        rw [g1, g2]
        rw [g3] at hA4
        refine Ops.pv (pv_move rfl) rfl ?_
        refine Ops.pv (pv_extract rfl rfl) rfl ?_
        refine Ops.pv (pv_extract rfl rfl) rfl ?_
        refine Ops.pv (pv_extract rfl rfl) rfl ?_
        refine Ops.pv (pv_assign rfl) rfl ?_
        refine Ops.pv (pv_assign rfl) rfl ?_
        refine Ops.nil ?_
        refine Ends.seq ?_
        refine Wp.seq ?_
        refine Wp.region ?_
        refine Ops.pv (pv_move rfl) rfl ?_
        refine Ops.pv (pv_move rfl) rfl ?_
        refine Ops.pv (pv_move rfl) rfl ?_
        refine Ops.pv (pv_lss rfl rfl) rfl ?_
        refine Ops.pv ((pv_neq_bool rfl rfl).is (u := .bool false) (by simp)) rfl ?_
        refine Ops.pv (pv_move rfl) rfl ?_
        refine Ops.pvg ⟨_, _, rfl, rfl, rfl⟩ (pv_move rfl) rfl ?_
        refine Ops.pvg ⟨_, _, rfl, rfl, rfl⟩ (pv_move rfl) rfl ?_
        first | refine Ops.split (t := 84) rfl (fun h6 => ?_) (fun h6 => ?_) | refine Ops.splitb (t := 84) rfl (fun h6 => ?_) (fun h6 => ?_)
        · refine Ops.pvg ⟨_, _, rfl, rfl, rfl⟩ (pv_move rfl) rfl ?_
          refine Ops.pvg ⟨_, _, rfl, rfl, rfl⟩ (pv_move rfl) rfl ?_
          refine Ops.pvg ⟨_, _, rfl, rfl, rfl⟩ ((pv_neq rfl rfl).fls (fun e => e (if_pos (by assumption)))) rfl ?_
          refine Ops.pvg ⟨_, _, rfl, rfl, rfl⟩ (pv_pick_true rfl rfl) rfl ?_
          refine Ops.pv (pv_pick_false rfl rfl) rfl ?_
          refine Ops.nil ?_
          refine Ends.seq ?_
          refine Wp.cond_false rfl ?_
          refine Wp.skip ?_
          refine Ends.block_normal ?_
          refine Ends.seq ?_
          refine Wp.region ?_
          refine Ops.pv (pv_move rfl) rfl ?_
          first | refine Ops.pv (pv_add rfl rfl (w64 (by omega) (by omega))) rfl ?_ | refine Ops.pv (pv_add rfl rfl rfl) rfl ?_
          refine Ops.pv (pv_assign rfl) rfl ?_
          refine Ops.nil ?_
          refine Ends.goes ?_
          refine Goes.back (hK (i + 1, _) ⟨by dsimp only; omega, hA4⟩ (by dsimp only; omega)) ⟨rfl, rfl, rfl, rfl, rfl, trivial⟩
        · refine Ops.skipg ⟨_, _, rfl, rfl, rfl⟩ rfl ?_
          refine Ops.skipg ⟨_, _, rfl, rfl, rfl⟩ rfl ?_
          refine Ops.skipg ⟨_, _, rfl, rfl, rfl⟩ rfl ?_
          refine Ops.pvg ⟨_, _, rfl, rfl, rfl⟩ (pv_pick_false rfl rfl) rfl ?_
          refine Ops.pv (pv_pick_false rfl rfl) rfl ?_
          refine Ops.nil ?_
          refine Ends.seq ?_
          refine Wp.cond_false rfl ?_
          refine Wp.skip ?_
          refine Ends.block_normal ?_
          refine Ends.seq ?_
          refine Wp.region ?_
          refine Ops.pv (pv_move rfl) rfl ?_
          first | refine Ops.pv (pv_add rfl rfl (w64 (by omega) (by omega))) rfl ?_ | refine Ops.pv (pv_add rfl rfl rfl) rfl ?_
          refine Ops.pv (pv_assign rfl) rfl ?_
          refine Ops.nil ?_
          refine Ends.goes ?_
          refine Goes.back (hK (i + 1, _) ⟨by dsimp only; omega, hA4⟩ (by dsimp only; omega)) ⟨rfl, rfl, rfl, rfl, rfl, trivial⟩
    · refine Wp.exit ?_
      refine Ends.then_exit ?_
      refine Ends.then_exit ?_
      refine Ends.block_hit ?_
      refine Ends.seq ?_
      refine Wp.seq ?_
      refine Wp.region ?_
      have him : i = m0 := by omega
      subst him
      refine Ops.pv (pv_move rfl) rfl ?_
      refine Ops.ef rfl (ef_call (tr_epState _ _ (⟨rowW b n0, seg i n0⟩ : Ep) hA (by dsimp only; rw [seg_len]; omega)) rfl rfl) ?_
      rintro _ _ ⟨_, _, ⟨w1, C1, rfl, hc1, rfl⟩, rfl, rfl⟩
      refine Ops.app ?_
      obtain ⟨p1, q1, rfl⟩ := hc1.form
      refine Ops.pv (pv_move rfl) rfl ?_
      refine Ops.pv (pv_extract rfl rfl) rfl ?_
      refine Ops.pv (pv_extract rfl rfl) rfl ?_
      refine Ops.pv (pv_assign rfl) rfl ?_
      refine Ops.pv (pv_assign rfl) rfl ?_
      refine Ops.nil ?_
      refine Ends.seq ?_
      refine Wp.seq ?_
      refine Wp.region ?_
      refine Ops.pv (pv_assign rfl) rfl ?_
      refine Ops.nil ?_
      refine Ends.seq ?_
      refine Wp.seq ?_
      refine Wp.seq ?_
      refine Wp.region ?_
      refine Ops.pv (pv_move rfl) rfl ?_
      refine Ops.pv (pv_assign rfl) rfl ?_
      refine Ops.nil ?_
      refine Ends.seq ?_
      refine Wp.block ?_
      refine Wp.loopK (σ := Nat × Value × Hp) [(0, _), (2, _), (7, _), (14, _), (15, _)] (fun s => [(16, s.2.1), (17, .int .i64 s.1)]) (fun s => s.2.2 ++ (C1 ++ (H ++ F))) (fun s => i ≤ s.1 ∧ (s.1 ≤ n0 ∨ s.1 = i) ∧ Slc 3 1 s.2.1 (seg i s.1).length (intsC (seg i s.1)) s.2.2) (fun s => n0 - s.1) (i, .slice none 0 0, []) ⟨Nat.le_refl _, .inr rfl, by dsimp only; rw [seg_nil (Nat.le_refl _)]; exact Slc.nil _ _⟩ ⟨rfl, rfl, rfl, rfl, rfl, trivial⟩ ⟨rfl, rfl, trivial⟩ (by intro w ho; (try dsimp only [List.nil_append, List.cons_append]); exact Drop.own ho) ?_
      rintro ⟨k, w, J⟩ KK ⟨hk1, hk2, hw⟩ hK
      dsimp only [List.cons_append, List.nil_append] at hK ⊢
      dsimp only at hk1 hk2 hw ⊢
      refine Wp.seq ?_
      refine Wp.seq ?_
      refine Wp.region ?_
      refine Ops.pv (pv_move rfl) rfl ?_
      refine Ops.pv (pv_move rfl) rfl ?_
      refine Ops.pv (pv_lss rfl rfl) rfl ?_
      refine Ops.nil ?_
      refine Ends.seq ?_
      first | refine Wp.cond_dect rfl (fun h7 => ?_) (fun h7 => ?_) | refine Wp.cond_t rfl (fun h7 => ?_) (fun h7 => ?_)
      · refine Wp.skip ?_
        refine Ends.seq ?_
        refine Wp.seq ?_
        refine Wp.block ?_
        refine Wp.region ?_
        refine Ops.pv (pv_move rfl) rfl ?_
        refine Ops.pv (pv_move rfl) rfl ?_
        refine Ops.ef rfl (ef_buildSlice1 (k := 1) rfl rfl rfl rfl rfl) ?_
        rintro _ _ ⟨b1, rfl, rfl⟩
        refine Ops.ef rfl (ef_append (H := J) (xs := [.int .i64 k]) rfl hw rfl ⟨rfl, trivial⟩ rfl rfl rfl (by rw [seg_len]; omega) (by rw [seg_len]; omega) rfl rfl) ?_
        rintro _ _ ⟨v1, H1, hs1, rfl, rfl⟩
        refine Ops.app ?_
        skip
        refine Ops.pv (pv_assign rfl) rfl ?_
        refine Ops.nil ?_
        refine Ends.block_normal ?_
        refine Ends.seq ?_
        refine Wp.region ?_
        refine Ops.pv (pv_move rfl) rfl ?_
        first | refine Ops.pv (pv_add rfl rfl (w64 (by omega) (by omega))) rfl ?_ | refine Ops.pv (pv_add rfl rfl rfl) rfl ?_
        refine Ops.pv (pv_assign rfl) rfl ?_
        refine Ops.nil ?_
        refine Ends.goes ?_
        refine Goes.back (hK (k + 1, v1, H1) ⟨by dsimp only; omega, by dsimp only; omega, by dsimp only; rw [seg_snoc hk1, List.length_append, intsC_app]; exact hs1⟩ (by dsimp only; omega)) ⟨rfl, rfl, rfl, rfl, rfl, rfl, rfl, trivial⟩
      · refine Wp.exit ?_
        refine Ends.then_exit ?_
        refine Ends.then_exit ?_
        refine Ends.block_hit ?_
        refine Ends.seq ?_
        refine Wp.seq ?_
        refine Wp.region ?_
        have hkn : seg i k = seg i n0 := by rcases hk2 with h9 | h9; (rw [show k = n0 by omega]); (rw [h9, seg_nil (Nat.le_refl _), seg_nil (by omega)])
        rw [hkn] at hw
        obtain ⟨wp, wc, rfl⟩ := hw.form
        refine Ops.pv (pv_assign rfl) rfl ?_
        refine Ops.nil ?_
        refine Ends.seq ?_
        refine Wp.seq ?_
        refine Wp.seq ?_
        refine Wp.region ?_
        refine Ops.pv (pv_move rfl) rfl ?_
        refine Ops.nil ?_
        refine Ends.seq ?_
        refine Wp.cond_t rfl (fun h8 => ?_) (fun h8 => ?_)
        · have hb : b = true := by assumption
          refine Wp.region ?_
          refine Ops.pv (pv_assign rfl) rfl ?_
          refine Ops.nil ?_
          refine Ends.seq ?_
          refine Wp.seq ?_
          refine Wp.seq ?_
          refine Wp.region ?_
          refine Ops.pv (pv_move rfl) rfl ?_
          refine Ops.pv (pv_len_slice (T := 26) rfl rfl) rfl ?_
          refine Ops.pv (pv_eql rfl rfl) rfl ?_
          refine Ops.nil ?_
          refine Ends.seq ?_
          first | refine Wp.cond_dect rfl (fun h9 => ?_) (fun h9 => ?_) | refine Wp.cond_t rfl (fun h9 => ?_) (fun h9 => ?_)
          · have hz : seg i n0 = [] := List.eq_nil_of_length_eq_zero (by omega)
            refine Wp.region ?_
            refine Ops.pv (pv_assign rfl) rfl ?_
            refine Ops.nil ?_
            refine Ends.seq ?_
            refine Wp.seq ?_
            refine Wp.region ?_
            rw [show stW (⟨rowW b n0, seg i n0⟩ : Ep) = 0 from (by unfold stW; rw [if_pos hz])]
            refine Ops.pv (pv_move rfl) rfl ?_
            refine Ops.pv (pv_move rfl) rfl ?_
            refine Ops.pv ((pv_eql rfl rfl).tru (by first | rfl | decide | omega | assumption | (simp; done) | (simp; omega))) rfl ?_
            refine Ops.pv (pv_move rfl) rfl ?_
            refine Ops.pvg ⟨_, _, rfl, rfl, rfl⟩ (pv_move rfl) rfl ?_
            refine Ops.pvg ⟨_, _, rfl, rfl, rfl⟩ (pv_move rfl) rfl ?_
            refine Ops.efg ⟨_, _, rfl, rfl, rfl⟩ (ef_callr (tr_same C1 J _ _ _ _ (seg i n0) hc1.view hw.view (by rw [seg_len]; omega)) rfl rfl) ?_
            rintro _ _ ⟨rfl, rfl⟩
            refine Ops.pv (pv_pick_true rfl rfl) rfl ?_
            refine Ops.pv (pv_move rfl) rfl ?_
            refine Ops.pvg ⟨_, _, rfl, rfl, rfl⟩ (pv_move rfl) rfl ?_
            refine Ops.efg ⟨_, _, rfl, rfl, rfl⟩ (ef_call (tr_epClear _ _ (⟨rowW b n0, seg i n0⟩ : Ep) hA (by dsimp only; rw [seg_len]; omega)) rfl rfl) ?_
            rintro _ _ ⟨_, _, ⟨C2, H2, hc2, hA5, rfl⟩, rfl, rfl⟩
            refine Ops.app ?_
            obtain ⟨p2, q2, rfl⟩ := hc2.form
            refine Ops.pvg ⟨_, _, rfl, rfl, rfl⟩ (pv_move rfl) rfl ?_
            refine Ops.efg ⟨_, _, rfl, rfl, rfl⟩ (ef_callr (tr_same C2 J _ _ _ _ (seg i n0) hc2.view hw.view (by rw [seg_len]; omega)) rfl rfl) ?_
            rintro _ _ ⟨rfl, rfl⟩
            refine Ops.pv (pv_pick_true rfl rfl) rfl ?_
            refine Ops.pv (pv_move rfl) rfl ?_
            refine Ops.pvg ⟨_, _, rfl, rfl, rfl⟩ (pv_move rfl) rfl ?_
            refine Ops.efg ⟨_, _, rfl, rfl, rfl⟩ (ef_call (tr_epClear _ _ ⟨rowW b n0, []⟩ hA5 (by simp)) rfl rfl) ?_
            rintro _ _ ⟨_, _, ⟨C3, H3, hc3, hA6, rfl⟩, rfl, rfl⟩
            refine Ops.app ?_
            obtain ⟨p3, q3, rfl⟩ := hc3.form
            refine Ops.pvg ⟨_, _, rfl, rfl, rfl⟩ (pv_len_slice (T := 26) rfl rfl) rfl ?_
            refine Ops.pvg ⟨_, _, rfl, rfl, rfl⟩ ((pv_eql rfl rfl).tru (by first | rfl | decide | omega | assumption | (simp; done) | (simp; omega))) rfl ?_
            refine Ops.pv (pv_pick_true rfl rfl) rfl ?_
            refine Ops.pv (pv_assign rfl) rfl ?_
            refine Ops.nil ?_
            refine Ends.seq ?_
            refine Wp.ret ?_
            exact Ends.ret (res1 rfl rfl) ⟨rfl, rfl⟩
          · have hz : ¬ seg i n0 = [] := fun e => by have h9 : (seg i n0).length = 0 := (by rw [e]; rfl); omega
            refine Wp.skip ?_
            refine Ends.seq ?_
            refine Wp.seq ?_
            refine Wp.region ?_
            rw [show stW (⟨rowW b n0, seg i n0⟩ : Ep) = 2 from (by unfold stW; rw [if_neg hz]; dsimp only; unfold rowW; rw [if_neg (fun h0 => hz (seg_nil (by omega))), hb]; rfl)]
            refine Ops.pv (pv_move rfl) rfl ?_
            refine Ops.pv (pv_move rfl) rfl ?_
            refine Ops.pv ((pv_eql rfl rfl).tru (by first | rfl | decide | omega | assumption | (simp; done) | (simp; omega))) rfl ?_
            refine Ops.pv (pv_move rfl) rfl ?_
            refine Ops.pvg ⟨_, _, rfl, rfl, rfl⟩ (pv_move rfl) rfl ?_
            refine Ops.pvg ⟨_, _, rfl, rfl, rfl⟩ (pv_move rfl) rfl ?_
            refine Ops.efg ⟨_, _, rfl, rfl, rfl⟩ (ef_callr (tr_same C1 J _ _ _ _ (seg i n0) hc1.view hw.view (by rw [seg_len]; omega)) rfl rfl) ?_
            rintro _ _ ⟨rfl, rfl⟩
            refine Ops.pv (pv_pick_true rfl rfl) rfl ?_
            refine Ops.pv (pv_move rfl) rfl ?_
            refine Ops.pvg ⟨_, _, rfl, rfl, rfl⟩ (pv_move rfl) rfl ?_
            refine Ops.efg ⟨_, _, rfl, rfl, rfl⟩ (ef_call (tr_epClear _ _ (⟨rowW b n0, seg i n0⟩ : Ep) hA (by dsimp only; rw [seg_len]; omega)) rfl rfl) ?_
            rintro _ _ ⟨_, _, ⟨C4, H4, hc4, hA7, rfl⟩, rfl, rfl⟩
            refine Ops.app ?_
            obtain ⟨p4, q4, rfl⟩ := hc4.form
            refine Ops.pvg ⟨_, _, rfl, rfl, rfl⟩ (pv_move rfl) rfl ?_
            refine Ops.efg ⟨_, _, rfl, rfl, rfl⟩ (ef_callr (tr_same C4 J _ _ _ _ (seg i n0) hc4.view hw.view (by rw [seg_len]; omega)) rfl rfl) ?_
            rintro _ _ ⟨rfl, rfl⟩
            refine Ops.pv (pv_pick_true rfl rfl) rfl ?_
            refine Ops.pv (pv_move rfl) rfl ?_
            refine Ops.pvg ⟨_, _, rfl, rfl, rfl⟩ (pv_move rfl) rfl ?_
            refine Ops.efg ⟨_, _, rfl, rfl, rfl⟩ (ef_call (tr_epClear _ _ ⟨rowW b n0, []⟩ hA7 (by simp)) rfl rfl) ?_
            rintro _ _ ⟨_, _, ⟨C5, H5, hc5, hA8, rfl⟩, rfl, rfl⟩
            refine Ops.app ?_
            obtain ⟨p5, q5, rfl⟩ := hc5.form
            refine Ops.pvg ⟨_, _, rfl, rfl, rfl⟩ (pv_len_slice (T := 26) rfl rfl) rfl ?_
            refine Ops.pvg ⟨_, _, rfl, rfl, rfl⟩ ((pv_eql rfl rfl).tru (by first | rfl | decide | omega | assumption | (simp; done) | (simp; omega))) rfl ?_
            refine Ops.pv (pv_pick_true rfl rfl) rfl ?_
            refine Ops.pv (pv_assign rfl) rfl ?_
            refine Ops.nil ?_
            refine Ends.seq ?_
            refine Wp.ret ?_
            exact Ends.ret (res1 rfl rfl) ⟨rfl, rfl⟩
        · have hb : b = false := by assumption
          refine Wp.skip ?_
          refine Ends.seq ?_
          refine Wp.seq ?_
          refine Wp.seq ?_
          refine Wp.region ?_
          refine Ops.pv (pv_move rfl) rfl ?_
          refine Ops.pv (pv_len_slice (T := 26) rfl rfl) rfl ?_
          refine Ops.pv (pv_eql rfl rfl) rfl ?_
          refine Ops.nil ?_
          refine Ends.seq ?_
          first | refine Wp.cond_dect rfl (fun h10 => ?_) (fun h10 => ?_) | refine Wp.cond_t rfl (fun h10 => ?_) (fun h10 => ?_)
          · have hz : seg i n0 = [] := List.eq_nil_of_length_eq_zero (by omega)
            refine Wp.region ?_
            refine Ops.pv (pv_assign rfl) rfl ?_
            refine Ops.nil ?_
            refine Ends.seq ?_
            refine Wp.seq ?_
            refine Wp.region ?_
            rw [show stW (⟨rowW b n0, seg i n0⟩ : Ep) = 0 from (by unfold stW; rw [if_pos hz])]
            refine Ops.pv (pv_move rfl) rfl ?_
            refine Ops.pv (pv_move rfl) rfl ?_
            refine Ops.pv ((pv_eql rfl rfl).tru (by first | rfl | decide | omega | assumption | (simp; done) | (simp; omega))) rfl ?_
            refine Ops.pv (pv_move rfl) rfl ?_
            refine Ops.pvg ⟨_, _, rfl, rfl, rfl⟩ (pv_move rfl) rfl ?_
            refine Ops.pvg ⟨_, _, rfl, rfl, rfl⟩ (pv_move rfl) rfl ?_
            refine Ops.efg ⟨_, _, rfl, rfl, rfl⟩ (ef_callr (tr_same C1 J _ _ _ _ (seg i n0) hc1.view hw.view (by rw [seg_len]; omega)) rfl rfl) ?_
            rintro _ _ ⟨rfl, rfl⟩
            refine Ops.pv (pv_pick_true rfl rfl) rfl ?_
            refine Ops.pv (pv_move rfl) rfl ?_
            refine Ops.pvg ⟨_, _, rfl, rfl, rfl⟩ (pv_move rfl) rfl ?_
            refine Ops.efg ⟨_, _, rfl, rfl, rfl⟩ (ef_call (tr_epClear _ _ (⟨rowW b n0, seg i n0⟩ : Ep) hA (by dsimp only; rw [seg_len]; omega)) rfl rfl) ?_
            rintro _ _ ⟨_, _, ⟨C6, H6, hc6, hA9, rfl⟩, rfl, rfl⟩
            refine Ops.app ?_
            obtain ⟨p6, q6, rfl⟩ := hc6.form
            refine Ops.pvg ⟨_, _, rfl, rfl, rfl⟩ (pv_move rfl) rfl ?_
            refine Ops.efg ⟨_, _, rfl, rfl, rfl⟩ (ef_callr (tr_same C6 J _ _ _ _ (seg i n0) hc6.view hw.view (by rw [seg_len]; omega)) rfl rfl) ?_
            rintro _ _ ⟨rfl, rfl⟩
            refine Ops.pv (pv_pick_true rfl rfl) rfl ?_
            refine Ops.pv (pv_move rfl) rfl ?_
            refine Ops.pvg ⟨_, _, rfl, rfl, rfl⟩ (pv_move rfl) rfl ?_
            refine Ops.efg ⟨_, _, rfl, rfl, rfl⟩ (ef_call (tr_epClear _ _ ⟨rowW b n0, []⟩ hA9 (by simp)) rfl rfl) ?_
            rintro _ _ ⟨_, _, ⟨C7, H7, hc7, hA10, rfl⟩, rfl, rfl⟩
            refine Ops.app ?_
            obtain ⟨p7, q7, rfl⟩ := hc7.form
            refine Ops.pvg ⟨_, _, rfl, rfl, rfl⟩ (pv_len_slice (T := 26) rfl rfl) rfl ?_
            refine Ops.pvg ⟨_, _, rfl, rfl, rfl⟩ ((pv_eql rfl rfl).tru (by first | rfl | decide | omega | assumption | (simp; done) | (simp; omega))) rfl ?_
            refine Ops.pv (pv_pick_true rfl rfl) rfl ?_
            refine Ops.pv (pv_assign rfl) rfl ?_
            refine Ops.nil ?_
            refine Ends.seq ?_
            refine Wp.ret ?_
            exact Ends.ret (res1 rfl rfl) ⟨rfl, rfl⟩
          · have hz : ¬ seg i n0 = [] := fun e => by have h9 : (seg i n0).length = 0 := (by rw [e]; rfl); omega
            refine Wp.skip ?_
            refine Ends.seq ?_
            refine Wp.seq ?_
            refine Wp.region ?_
            rw [show stW (⟨rowW b n0, seg i n0⟩ : Ep) = 1 from (by unfold stW; rw [if_neg hz]; dsimp only; unfold rowW; rw [if_neg (fun h0 => hz (seg_nil (by omega))), hb]; rfl)]
            refine Ops.pv (pv_move rfl) rfl ?_
            refine Ops.pv (pv_move rfl) rfl ?_
            refine Ops.pv ((pv_eql rfl rfl).tru (by first | rfl | decide | omega | assumption | (simp; done) | (simp; omega))) rfl ?_
            refine Ops.pv (pv_move rfl) rfl ?_
            refine Ops.pvg ⟨_, _, rfl, rfl, rfl⟩ (pv_move rfl) rfl ?_
            refine Ops.pvg ⟨_, _, rfl, rfl, rfl⟩ (pv_move rfl) rfl ?_
            refine Ops.efg ⟨_, _, rfl, rfl, rfl⟩ (ef_callr (tr_same C1 J _ _ _ _ (seg i n0) hc1.view hw.view (by rw [seg_len]; omega)) rfl rfl) ?_
            rintro _ _ ⟨rfl, rfl⟩
            refine Ops.pv (pv_pick_true rfl rfl) rfl ?_
            refine Ops.pv (pv_move rfl) rfl ?_
            refine Ops.pvg ⟨_, _, rfl, rfl, rfl⟩ (pv_move rfl) rfl ?_
            refine Ops.efg ⟨_, _, rfl, rfl, rfl⟩ (ef_call (tr_epClear _ _ (⟨rowW b n0, seg i n0⟩ : Ep) hA (by dsimp only; rw [seg_len]; omega)) rfl rfl) ?_
            rintro _ _ ⟨_, _, ⟨C8, H8, hc8, hA11, rfl⟩, rfl, rfl⟩
            refine Ops.app ?_
            obtain ⟨p8, q8, rfl⟩ := hc8.form
            refine Ops.pvg ⟨_, _, rfl, rfl, rfl⟩ (pv_move rfl) rfl ?_
            refine Ops.efg ⟨_, _, rfl, rfl, rfl⟩ (ef_callr (tr_same C8 J _ _ _ _ (seg i n0) hc8.view hw.view (by rw [seg_len]; omega)) rfl rfl) ?_
            rintro _ _ ⟨rfl, rfl⟩
            refine Ops.pv (pv_pick_true rfl rfl) rfl ?_
            refine Ops.pv (pv_move rfl) rfl ?_
            refine Ops.pvg ⟨_, _, rfl, rfl, rfl⟩ (pv_move rfl) rfl ?_
            refine Ops.efg ⟨_, _, rfl, rfl, rfl⟩ (ef_call (tr_epClear _ _ ⟨rowW b n0, []⟩ hA11 (by simp)) rfl rfl) ?_
            rintro _ _ ⟨_, _, ⟨C9, H9, hc9, hA12, rfl⟩, rfl, rfl⟩
            refine Ops.app ?_
            obtain ⟨p9, q9, rfl⟩ := hc9.form
            refine Ops.pvg ⟨_, _, rfl, rfl, rfl⟩ (pv_len_slice (T := 26) rfl rfl) rfl ?_
            refine Ops.pvg ⟨_, _, rfl, rfl, rfl⟩ ((pv_eql rfl rfl).tru (by first | rfl | decide | omega | assumption | (simp; done) | (simp; omega))) rfl ?_
            refine Ops.pv (pv_pick_true rfl rfl) rfl ?_
            refine Ops.pv (pv_assign rfl) rfl ?_
            refine Ops.nil ?_
            refine Ends.seq ?_
            refine Wp.ret ?_
            exact Ends.ret (res1 rfl rfl) ⟨rfl, rfl⟩

end Go.Proofs.Ytpjodkcghiklcaa
