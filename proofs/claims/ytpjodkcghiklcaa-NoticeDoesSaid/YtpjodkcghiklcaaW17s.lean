/- Walks of layer 17's works. No condition. -/
import Derived.Test.YtpjodkcghiklcaaW17r
import Derived.Test.YtpjodkcghiklcaaM17o
set_option linter.unusedVariables false
set_option linter.unusedSimpArgs false
namespace Go.Proofs.Ytpjodkcghiklcaa
open Go.SL

theorem tr_lnew  : Tr Try.prog 15 [] ([]) (fun v L' => ∃ lb, v = .pointer (some ⟨lb, 0, none⟩) ∧ L' = [(lb, .cells [.slice none 0 0].toArray 87)]) := by
  refine Tr.enter Try.func15 rfl Try.ntmps15 rfl (fun W F => ?_)
  refine Wp.app ?_
  refine Wp.seq ?_
  refine Wp.region ?_
  refine Ops.pv (pv_assign rfl) rfl ?_
  refine Ops.nil ?_
  refine Ends.seq ?_
  refine Wp.seq ?_
  refine Wp.region ?_
  refine Ops.pv (pv_build rfl) rfl ?_
  refine Ops.ef rfl (ef_boxK rfl rfl) ?_
  rintro _ _ ⟨b1, rfl, rfl⟩
  refine Ops.pv (pv_assign rfl) rfl ?_
  refine Ops.nil ?_
  refine Ends.seq ?_
  refine Wp.ret ?_
  exact Ends.ret (L' := [(b1, .cells [.slice none 0 0].toArray 87)]) (res1 rfl rfl) ⟨b1, rfl, rfl⟩

set_option maxHeartbeats 2000000 in
theorem tr_works17  : TrR Try.prog 24 [] ([]) (.bool true) := by
  refine Tr.enter Try.func24 rfl Try.ntmps24 rfl (fun W F => ?_)
  refine Wp.app ?_
  refine Wp.seq ?_
  refine Wp.region ?_
  refine Ops.pv (pv_assign rfl) rfl ?_
  refine Ops.nil ?_
  refine Ends.seq ?_
  refine Wp.seq ?_
  refine Wp.region ?_
  refine Ops.ef rfl (ef_call (tr_newReady) rfl rfl) ?_
  rintro _ _ ⟨_, _, ⟨rb1, rfl, hR1⟩, rfl, rfl⟩
  refine Ops.app ?_
  refine Ops.pv (pv_assign rfl) rfl ?_
  refine Ops.nil ?_
  refine Ends.seq ?_
  refine Wp.seq ?_
  refine Wp.region ?_
  refine Ops.ef rfl (ef_call (tr_lnew) rfl rfl) ?_
  rintro _ _ ⟨_, _, ⟨lb1, rfl, rfl⟩, rfl, rfl⟩
  refine Ops.app ?_
  have H0 : Hp := []
  have hs0 := Slc.nil 3 1
  have w0 := RdyW.nil
  refine Ops.pv (pv_assign rfl) rfl ?_
  refine Ops.nil ?_
  refine Ends.seq ?_
  refine Wp.seq ?_
  refine Wp.seq ?_
  refine Wp.region ?_
  refine Ops.pv (pv_move rfl) rfl ?_
  refine Ops.pv (pv_eql_nil rfl rfl) rfl ?_
  refine Ops.pv (pv_move rfl) rfl ?_
  refine Ops.pvg ⟨_, _, rfl, rfl, rfl⟩ (pv_move rfl) rfl ?_
  refine Ops.pvg ⟨_, _, rfl, rfl, rfl⟩ (pv_eql_nil rfl rfl) rfl ?_
  refine Ops.pv (pv_pick_false rfl rfl) rfl ?_
  refine Ops.pv (pv_move rfl) rfl ?_
  refine Ops.pvg ⟨_, _, rfl, rfl, rfl⟩ (pv_move rfl) rfl ?_
  refine Ops.efg ⟨_, _, rfl, rfl, rfl⟩ (ef_call (tr_rdyPut _ _ ([] : Ones) hR1 (by exact w0) (by decide) 3 1) rfl rfl) ?_
  rintro _ _ ⟨_, _, ⟨rfl, hR2⟩, rfl, rfl⟩
  refine Ops.app ?_
  rw [show putE ([] : Ones) 3 1 = 0 by decide]
  have w1 := w0.put 3 1
  rw [show putR ([] : Ones) 3 1 = [(3, 1)] by decide] at hR2 w1
  refine Ops.pvg ⟨_, _, rfl, rfl, rfl⟩ ((pv_neq rfl rfl).fls (by first | exact fun h => h rfl | decide | omega | assumption)) rfl ?_
  refine Ops.pv (pv_pick_false rfl rfl) rfl ?_
  refine Ops.pv (pv_move rfl) rfl ?_
  refine Ops.pvg ⟨_, _, rfl, rfl, rfl⟩ (pv_move rfl) rfl ?_
  refine Ops.efg ⟨_, _, rfl, rfl, rfl⟩ (ef_call (tr_rdyPut _ _ [(3, 1)] hR2 (by exact w1) (by decide) 4 5) rfl rfl) ?_
  rintro _ _ ⟨_, _, ⟨rfl, hR3⟩, rfl, rfl⟩
  refine Ops.app ?_
  rw [show putE [(3, 1)] 4 5 = 0 by decide]
  have w2 := w1.put 4 5
  rw [show putR [(3, 1)] 4 5 = [(3, 1), (4, 5)] by decide] at hR3 w2
  refine Ops.pvg ⟨_, _, rfl, rfl, rfl⟩ ((pv_neq rfl rfl).fls (by first | exact fun h => h rfl | decide | omega | assumption)) rfl ?_
  refine Ops.pv (pv_pick_false rfl rfl) rfl ?_
  refine Ops.pv (pv_move rfl) rfl ?_
  refine Ops.pvg ⟨_, _, rfl, rfl, rfl⟩ (pv_move rfl) rfl ?_
  refine Ops.efg ⟨_, _, rfl, rfl, rfl⟩ (ef_call (tr_rdyPut _ _ [(3, 1), (4, 5)] hR3 (by exact w2) (by decide) 5 5) rfl rfl) ?_
  rintro _ _ ⟨_, _, ⟨rfl, hR4⟩, rfl, rfl⟩
  refine Ops.app ?_
  rw [show putE [(3, 1), (4, 5)] 5 5 = 0 by decide]
  have w3 := w2.put 5 5
  rw [show putR [(3, 1), (4, 5)] 5 5 = [(3, 1), (4, 5), (5, 5)] by decide] at hR4 w3
  refine Ops.pvg ⟨_, _, rfl, rfl, rfl⟩ ((pv_neq rfl rfl).fls (by first | exact fun h => h rfl | decide | omega | assumption)) rfl ?_
  refine Ops.pv (pv_pick_false rfl rfl) rfl ?_
  refine Ops.pv (pv_move rfl) rfl ?_
  refine Ops.pvg ⟨_, _, rfl, rfl, rfl⟩ (pv_move rfl) rfl ?_
  refine Ops.efg ⟨_, _, rfl, rfl, rfl⟩ (ef_call (tr_lpush _ _ [] [] 7 hs0 (by decide)) rfl rfl) ?_
  rintro _ _ ⟨_, _, ⟨rfl, v1, H1, hs1, rfl⟩, rfl, rfl⟩
  refine Ops.app ?_
  rw [show pushE [] 7 = 0 by decide]
  rw [show pushL [] 7 = [7] by decide] at hs1
  refine Ops.pvg ⟨_, _, rfl, rfl, rfl⟩ ((pv_neq rfl rfl).fls (by first | exact fun h => h rfl | decide | omega | assumption)) rfl ?_
  refine Ops.pv (pv_pick_false rfl rfl) rfl ?_
  refine Ops.pv (pv_move rfl) rfl ?_
  refine Ops.pvg ⟨_, _, rfl, rfl, rfl⟩ (pv_move rfl) rfl ?_
  refine Ops.efg ⟨_, _, rfl, rfl, rfl⟩ (ef_call (tr_lpush _ _ H1 [7] 7 hs1 (by decide)) rfl rfl) ?_
  rintro _ _ ⟨_, _, ⟨rfl, v2, H2, hs2, rfl⟩, rfl, rfl⟩
  refine Ops.app ?_
  rw [show pushE [7] 7 = 4 by decide]
  rw [show pushL [7] 7 = [7] by decide] at hs2
  refine Ops.pvg ⟨_, _, rfl, rfl, rfl⟩ ((pv_neq rfl rfl).fls (by first | exact fun h => h rfl | decide | omega | assumption)) rfl ?_
  refine Ops.pv (pv_pick_false rfl rfl) rfl ?_
  refine Ops.pv (pv_move rfl) rfl ?_
  refine Ops.pvg ⟨_, _, rfl, rfl, rfl⟩ (pv_move rfl) rfl ?_
  refine Ops.efg ⟨_, _, rfl, rfl, rfl⟩ (ef_call (tr_lpush _ _ H2 [7] 64 hs2 (by decide)) rfl rfl) ?_
  rintro _ _ ⟨_, _, ⟨rfl, v3, H3, hs3, rfl⟩, rfl, rfl⟩
  refine Ops.app ?_
  rw [show pushE [7] 64 = 1 by decide]
  rw [show pushL [7] 64 = [7] by decide] at hs3
  refine Ops.pvg ⟨_, _, rfl, rfl, rfl⟩ ((pv_neq rfl rfl).fls (by first | exact fun h => h rfl | decide | omega | assumption)) rfl ?_
  refine Ops.pv (pv_pick_false rfl rfl) rfl ?_
  refine Ops.nil ?_
  refine Ends.seq ?_
  refine Wp.cond_false rfl ?_
  refine Wp.skip ?_
  refine Ends.seq ?_
  refine Wp.seq ?_
  refine Wp.region ?_
  refine Ops.pv (pv_move rfl) rfl ?_
  refine Ops.ef rfl (ef_callr ((tr_rdyNext _ _ [(3, 1), (4, 5), (5, 5)] hR4 (by exact w3) (by decide)).eq (r' := .tuple #[.int .i64 4, .bool true]) (by rw [show nextV [(3, 1), (4, 5), (5, 5)] = 4 by decide, show nextB [(3, 1), (4, 5), (5, 5)] = true by decide])) rfl rfl) ?_
  rintro _ _ ⟨rfl, rfl⟩
  refine Ops.pv (pv_move rfl) rfl ?_
  refine Ops.pv (pv_extract rfl rfl) rfl ?_
  refine Ops.pv (pv_extract rfl rfl) rfl ?_
  refine Ops.pv (pv_assign rfl) rfl ?_
  refine Ops.pv (pv_assign rfl) rfl ?_
  refine Ops.nil ?_
  refine Ends.seq ?_
  refine Wp.seq ?_
  refine Wp.region ?_
  refine Ops.pv (pv_move rfl) rfl ?_
  refine Ops.ef rfl (ef_callr ((tr_rdyLevels _ _ [(3, 1), (4, 5), (5, 5)] hR4 (by exact w3) (by decide)).eq (r' := .int .u64 34) (by rw [show levN [(3, 1), (4, 5), (5, 5)] = 34 by decide]; rfl)) rfl rfl) ?_
  rintro _ _ ⟨rfl, rfl⟩
  refine Ops.pv (pv_assign rfl) rfl ?_
  refine Ops.nil ?_
  refine Ends.seq ?_
  refine Wp.seq ?_
  refine Wp.region ?_
  refine Ops.pv (pv_move rfl) rfl ?_
  refine Ops.ef rfl (ef_call (tr_rdyDrop _ _ [(3, 1), (4, 5), (5, 5)] hR4 (by exact w3) (by decide) 4) rfl rfl) ?_
  rintro _ _ ⟨_, _, ⟨rfl, hR5⟩, rfl, rfl⟩
  refine Ops.app ?_
  rw [show inR [(3, 1), (4, 5), (5, 5)] 4 = true by decide]
  have w4 := w3.drop 4
  rw [show dropR [(3, 1), (4, 5), (5, 5)] 4 = [(3, 1), (5, 5)] by decide] at hR5 w4
  refine Ops.pv (pv_move rfl) rfl ?_
  refine Ops.ef rfl (ef_call (tr_rdyDrop _ _ [(3, 1), (5, 5)] hR5 (by exact w4) (by decide) 5) rfl rfl) ?_
  rintro _ _ ⟨_, _, ⟨rfl, hR6⟩, rfl, rfl⟩
  refine Ops.app ?_
  rw [show inR [(3, 1), (5, 5)] 5 = true by decide]
  have w5 := w4.drop 5
  rw [show dropR [(3, 1), (5, 5)] 5 = [(3, 1)] by decide] at hR6 w5
  refine Ops.pv (pv_assign rfl) rfl ?_
  refine Ops.pv (pv_assign rfl) rfl ?_
  refine Ops.nil ?_
  refine Ends.seq ?_
  refine Wp.seq ?_
  refine Wp.region ?_
  refine Ops.pv (pv_move rfl) rfl ?_
  refine Ops.ef rfl (ef_callr ((tr_rdyNext _ _ [(3, 1)] hR6 (by exact w5) (by decide)).eq (r' := .tuple #[.int .i64 3, .bool true]) (by rw [show nextV [(3, 1)] = 3 by decide, show nextB [(3, 1)] = true by decide])) rfl rfl) ?_
  rintro _ _ ⟨rfl, rfl⟩
  refine Ops.pv (pv_move rfl) rfl ?_
  refine Ops.pv (pv_extract rfl rfl) rfl ?_
  refine Ops.pv (pv_extract rfl rfl) rfl ?_
  refine Ops.pv (pv_assign rfl) rfl ?_
  refine Ops.pv (pv_assign rfl) rfl ?_
  refine Ops.nil ?_
  refine Ends.seq ?_
  refine Wp.seq ?_
  refine Wp.region ?_
  refine Ops.pv (pv_move rfl) rfl ?_
  refine Ops.ef rfl (ef_call (tr_lpop _ _ H3 [7] hs3 (by decide)) rfl rfl) ?_
  rintro _ _ ⟨_, _, ⟨rfl, v4, H4, hs4, rfl⟩, rfl, rfl⟩
  refine Ops.app ?_
  rw [show popV [7] = 7 by decide, show popB [7] = true by decide]
  dsimp only [List.tail_cons] at hs4
  refine Ops.pv (pv_move rfl) rfl ?_
  refine Ops.pv (pv_extract rfl rfl) rfl ?_
  refine Ops.pv (pv_extract rfl rfl) rfl ?_
  refine Ops.pv (pv_assign rfl) rfl ?_
  refine Ops.pv (pv_assign rfl) rfl ?_
  refine Ops.nil ?_
  refine Ends.seq ?_
  refine Wp.seq ?_
  refine Wp.region ?_
  refine Ops.pv (pv_move rfl) rfl ?_
  refine Ops.ef rfl (ef_call (tr_lpop _ _ H4 [] hs4 (by decide)) rfl rfl) ?_
  rintro _ _ ⟨_, _, ⟨rfl, v5, H5, hs5, rfl⟩, rfl, rfl⟩
  refine Ops.app ?_
  rw [show popV [] = 0 by decide, show popB [] = false by decide]
  refine Ops.pv (pv_move rfl) rfl ?_
  refine Ops.pv (pv_extract rfl rfl) rfl ?_
  refine Ops.pv (pv_extract rfl rfl) rfl ?_
  refine Ops.pv (pv_assign rfl) rfl ?_
  refine Ops.pv (pv_assign rfl) rfl ?_
  refine Ops.nil ?_
  refine Ends.seq ?_
  refine Wp.seq ?_
  refine Wp.region ?_
  refine Ops.pv (pv_move rfl) rfl ?_
  refine Ops.pv ((pv_eql rfl rfl).tru (by first | rfl | decide | omega | assumption)) rfl ?_
  refine Ops.pv (pv_move rfl) rfl ?_
  refine Ops.pvg ⟨_, _, rfl, rfl, rfl⟩ (pv_move rfl) rfl ?_
  refine Ops.pv (pv_pick_true rfl rfl) rfl ?_
  refine Ops.pv (pv_move rfl) rfl ?_
  refine Ops.pvg ⟨_, _, rfl, rfl, rfl⟩ (pv_move rfl) rfl ?_
  refine Ops.pvg ⟨_, _, rfl, rfl, rfl⟩ ((pv_eql rfl rfl).tru (by first | rfl | decide | omega | assumption)) rfl ?_
  refine Ops.pv (pv_pick_true rfl rfl) rfl ?_
  refine Ops.pv (pv_move rfl) rfl ?_
  refine Ops.pvg ⟨_, _, rfl, rfl, rfl⟩ (pv_move rfl) rfl ?_
  refine Ops.pv (pv_pick_true rfl rfl) rfl ?_
  refine Ops.pv (pv_move rfl) rfl ?_
  refine Ops.pvg ⟨_, _, rfl, rfl, rfl⟩ (pv_move rfl) rfl ?_
  refine Ops.pv (pv_pick_true rfl rfl) rfl ?_
  refine Ops.pv (pv_move rfl) rfl ?_
  refine Ops.pvg ⟨_, _, rfl, rfl, rfl⟩ (pv_move rfl) rfl ?_
  refine Ops.pvg ⟨_, _, rfl, rfl, rfl⟩ ((pv_eql rfl rfl).tru (by first | rfl | decide | omega | assumption)) rfl ?_
  refine Ops.pv (pv_pick_true rfl rfl) rfl ?_
  refine Ops.pv (pv_move rfl) rfl ?_
  refine Ops.pvg ⟨_, _, rfl, rfl, rfl⟩ (pv_move rfl) rfl ?_
  refine Ops.pv (pv_pick_true rfl rfl) rfl ?_
  refine Ops.pv (pv_move rfl) rfl ?_
  refine Ops.pvg ⟨_, _, rfl, rfl, rfl⟩ (pv_move rfl) rfl ?_
  refine Ops.pvg ⟨_, _, rfl, rfl, rfl⟩ ((pv_eql rfl rfl).tru (by first | rfl | decide | omega | assumption)) rfl ?_
  refine Ops.pv (pv_pick_true rfl rfl) rfl ?_
  refine Ops.pv (pv_move rfl) rfl ?_
  refine Ops.pvg ⟨_, _, rfl, rfl, rfl⟩ (pv_move rfl) rfl ?_
  refine Ops.pv (pv_pick_true rfl rfl) rfl ?_
  refine Ops.pv (pv_move rfl) rfl ?_
  refine Ops.pvg ⟨_, _, rfl, rfl, rfl⟩ (pv_move rfl) rfl ?_
  first | refine Ops.pvg ⟨_, _, rfl, rfl, rfl⟩ (pv_not_dec rfl) rfl ?_ | refine Ops.pvg ⟨_, _, rfl, rfl, rfl⟩ (pv_not rfl) rfl ?_
  refine Ops.pv (pv_pick_true rfl rfl) rfl ?_
  refine Ops.pv (pv_move rfl) rfl ?_
  refine Ops.pvg ⟨_, _, rfl, rfl, rfl⟩ (pv_move rfl) rfl ?_
  refine Ops.efg ⟨_, _, rfl, rfl, rfl⟩ (ef_call (tr_rdyDrop _ _ [(3, 1)] hR6 (by exact w5) (by decide) 5) rfl rfl) ?_
  rintro _ _ ⟨_, _, ⟨rfl, hR7⟩, rfl, rfl⟩
  refine Ops.app ?_
  rw [show inR [(3, 1)] 5 = false by decide]
  first | refine Ops.pvg ⟨_, _, rfl, rfl, rfl⟩ (pv_not_dec rfl) rfl ?_ | refine Ops.pvg ⟨_, _, rfl, rfl, rfl⟩ (pv_not rfl) rfl ?_
  refine Ops.pv (pv_pick_true rfl rfl) rfl ?_
  refine Ops.pv (pv_assign rfl) rfl ?_
  refine Ops.nil ?_
  refine Ends.seq ?_
  refine Wp.ret ?_
  exact Ends.ret (res1 rfl rfl) ⟨rfl, rfl⟩

set_option maxHeartbeats 4000000 in
theorem tr_lineReady (G : Hp) (a : Option Addr) (c : Nat) (ops : List OpL) (ha : ArgS G 3 a (ops.map OpL.cells)) (hol : ops.length ≤ maxLen) : TrR Try.prog 5 [.slice a ops.length c] (G) (.bool true) := by
  refine Tr.enter Try.func5 rfl Try.ntmps5 rfl (fun W F => ?_)
  refine Wp.app ?_
  refine Wp.seq ?_
  refine Wp.region ?_
  refine Ops.pv (pv_assign rfl) rfl ?_
  refine Ops.nil ?_
  refine Ends.seq ?_
  refine Wp.seq ?_
  refine Wp.region ?_
  refine Ops.ef rfl (ef_call (tr_newReady) rfl rfl) ?_
  rintro _ _ ⟨_, _, ⟨rb1, rfl, hA1⟩, rfl, rfl⟩
  refine Ops.app ?_
  refine Ops.pv (pv_build rfl) rfl ?_
  refine Ops.ef rfl (ef_boxK rfl rfl) ?_
  rintro _ _ ⟨b1, rfl, rfl⟩
  refine Ops.pv (pv_assign rfl) rfl ?_
  refine Ops.pv (pv_assign rfl) rfl ?_
  refine Ops.nil ?_
  refine Ends.seq ?_
  refine Wp.seq ?_
  refine Wp.seq ?_
  refine Wp.region ?_
  refine Ops.pv (pv_move rfl) rfl ?_
  refine Ops.pv (pv_eql_nil rfl rfl) rfl ?_
  refine Ops.nil ?_
  refine Ends.seq ?_
  refine Wp.cond_false rfl ?_
  refine Wp.skip ?_
  refine Ends.seq ?_
  refine Wp.seq ?_
  refine Wp.seq ?_
  refine Wp.region ?_
  refine Ops.pv (pv_assign rfl) rfl ?_
  refine Ops.nil ?_
  refine Ends.seq ?_
  refine Wp.block ?_
  refine Wp.loopK (σ := Nat × Ones × Hp × Hp) [(0, _), (3, _), (4, _)] (fun s => [(5, .int .i64 s.1)]) (fun s => s.2.2.1 ++ (s.2.2.2 ++ (G ++ F))) (fun s => s.2.1.length ≤ s.1 ∧ s.1 ≤ 100 ∧ RdyW s.2.1 ∧ RdyH s.2.1 rb1 s.2.2.1 ∧ DRdyH s.2.1 b1 s.2.2.2) (fun s => ops.length - s.1) (0, [], _, [(b1, .cells [.slice none 0 0].toArray 50)]) ⟨Nat.le_refl _, Nat.zero_le _, RdyW.nil, hA1, _, [], Slc.nil _ _, rfl⟩ ⟨rfl, rfl, rfl, trivial⟩ ⟨rfl, trivial⟩ (by intro w ho; (try dsimp only [List.nil_append, List.cons_append]); exact Drop.own ho) ?_
  rintro ⟨i, L, H, K⟩ KK ⟨hll, hi, hW, hA, hB⟩ hK
  dsimp only [List.cons_append, List.nil_append] at hK ⊢
  dsimp only at hll hi hW hA hB ⊢
  refine Wp.seq ?_
  refine Wp.seq ?_
  refine Wp.region ?_
  refine Ops.pv (pv_move rfl) rfl ?_
  refine Ops.pv (pv_move rfl) rfl ?_
  refine Ops.pv (pv_len_slice (T := 22) rfl rfl) rfl ?_
  refine Ops.pv (pv_lss rfl rfl) rfl ?_
  refine Ops.pv (pv_move rfl) rfl ?_
  first | refine Ops.split (t := 19) rfl (fun h1 => ?_) (fun h1 => ?_) | refine Ops.splitb (t := 19) rfl (fun h1 => ?_) (fun h1 => ?_)
  · refine Ops.pvg ⟨_, _, rfl, rfl, rfl⟩ (pv_move rfl) rfl ?_
    refine Ops.pvg ⟨_, _, rfl, rfl, rfl⟩ (pv_lss rfl rfl) rfl ?_
    refine Ops.pv (pv_pick_true rfl rfl) rfl ?_
    refine Ops.nil ?_
    refine Ends.seq ?_
    first | refine Wp.cond_dect rfl (fun h2 => ?_) (fun h2 => ?_) | refine Wp.cond_t rfl (fun h2 => ?_) (fun h2 => ?_)
    · obtain ⟨x, hq⟩ : ∃ x, ops[i]? = some x := ⟨_, List.getElem?_eq_getElem (by omega)⟩
      obtain ⟨_, b, o, cc, T, f, rfl, hm, hr⟩ := ha i x.cells (by rw [List.getElem?_map, hq]; rfl)
      have hbg : Blk G b (.cells cc.toArray T f) := ⟨hm⟩
      obtain ⟨r0, r1, r2, _⟩ := hr
      have hb1 := putR_len L x.id x.level
      have hb2 := dropR_len L x.id
      refine Wp.skip ?_
      refine Ends.seq ?_
      refine Wp.seq ?_
      refine Wp.block ?_
      refine Wp.seq ?_
      refine Wp.seq ?_
      refine Wp.region ?_
      refine Ops.pv (pv_move rfl) rfl ?_
      refine Ops.pv (pv_move rfl) rfl ?_
      refine Ops.pv (pv_indexAddr rfl rfl rfl (by omega)) rfl ?_
      first | refine Ops.pv (pv_fieldAddr0 rfl rfl) rfl ?_ | refine Ops.pv (pv_fieldAddr rfl rfl) rfl ?_
      first | refine Ops.pv (pv_load rfl rfl rfl) rfl ?_ | refine Ops.pv (pv_load rfl rfl (by assumption)) rfl ?_
      refine Ops.pv (pv_eql rfl rfl) rfl ?_
      refine Ops.nil ?_
      refine Ends.seq ?_
      first | refine Wp.cond_dect rfl (fun h3 => ?_) (fun h3 => ?_) | refine Wp.cond_t rfl (fun h3 => ?_) (fun h3 => ?_)
      · refine Wp.seq ?_
        refine AnyH.start G 25 rfl ?_
        refine AnyH.take 0 rfl (by kernel_rfl) (by kernel_rfl) (by kernel_rfl) PF.pf rfl (pv_move rfl) rfl ?_
        refine AnyH.take 1 rfl (by kernel_rfl) (by kernel_rfl) (by kernel_rfl) PF.pf rfl (pv_move rfl) rfl ?_
        refine AnyH.take 2 rfl (by kernel_rfl) (by kernel_rfl) (by kernel_rfl) PF.pf rfl (pv_move rfl) rfl ?_
        refine AnyH.take 3 rfl (by kernel_rfl) (by kernel_rfl) (by kernel_rfl) PF.pf rfl (pv_indexAddr rfl rfl rfl (by omega)) rfl ?_
        first | refine AnyH.take 4 rfl (by kernel_rfl) (by kernel_rfl) (by kernel_rfl) PF.pf rfl (pv_fieldAddr0 rfl rfl) rfl ?_ | refine AnyH.take 4 rfl (by kernel_rfl) (by kernel_rfl) (by kernel_rfl) PF.pf rfl (pv_fieldAddr rfl rfl) rfl ?_
        first | refine AnyH.take 5 rfl (by kernel_rfl) (by kernel_rfl) (by kernel_rfl) PF.pf rfl (pv_load rfl rfl rfl) rfl ?_ | refine AnyH.take 5 rfl (by kernel_rfl) (by kernel_rfl) (by kernel_rfl) PF.pf rfl (pv_load rfl rfl (by assumption)) rfl ?_
        refine AnyH.take 6 rfl (by kernel_rfl) (by kernel_rfl) (by kernel_rfl) PF.pf rfl (pv_move rfl) rfl ?_
        refine AnyH.take 7 rfl (by kernel_rfl) (by kernel_rfl) (by kernel_rfl) PF.pf rfl (pv_move rfl) rfl ?_
        refine AnyH.take 8 rfl (by kernel_rfl) (by kernel_rfl) (by kernel_rfl) PF.pf rfl (pv_indexAddr rfl rfl rfl (by omega)) rfl ?_
        first | refine AnyH.take 9 rfl (by kernel_rfl) (by kernel_rfl) (by kernel_rfl) PF.pf rfl (pv_fieldAddr0 rfl rfl) rfl ?_ | refine AnyH.take 9 rfl (by kernel_rfl) (by kernel_rfl) (by kernel_rfl) PF.pf rfl (pv_fieldAddr rfl rfl) rfl ?_
        first | refine AnyH.take 10 rfl (by kernel_rfl) (by kernel_rfl) (by kernel_rfl) PF.pf rfl (pv_load rfl rfl rfl) rfl ?_ | refine AnyH.take 10 rfl (by kernel_rfl) (by kernel_rfl) (by kernel_rfl) PF.pf rfl (pv_load rfl rfl (by assumption)) rfl ?_
        refine AnyH.take 12 rfl (by kernel_rfl) (by kernel_rfl) (by kernel_rfl) PF.pf rfl (pv_move rfl) rfl ?_
        refine AnyH.take 13 rfl (by kernel_rfl) (by kernel_rfl) (by kernel_rfl) PF.pf rfl (pv_move rfl) rfl ?_
        refine AnyH.take 14 rfl (by kernel_rfl) (by kernel_rfl) (by kernel_rfl) PF.pf rfl (pv_move rfl) rfl ?_
        refine AnyH.take 15 rfl (by kernel_rfl) (by kernel_rfl) (by kernel_rfl) PF.pf rfl (pv_indexAddr rfl rfl rfl (by omega)) rfl ?_
        first | refine AnyH.take 16 rfl (by kernel_rfl) (by kernel_rfl) (by kernel_rfl) PF.pf rfl (pv_fieldAddr0 rfl rfl) rfl ?_ | refine AnyH.take 16 rfl (by kernel_rfl) (by kernel_rfl) (by kernel_rfl) PF.pf rfl (pv_fieldAddr rfl rfl) rfl ?_
        first | refine AnyH.take 17 rfl (by kernel_rfl) (by kernel_rfl) (by kernel_rfl) PF.pf rfl (pv_load rfl rfl rfl) rfl ?_ | refine AnyH.take 17 rfl (by kernel_rfl) (by kernel_rfl) (by kernel_rfl) PF.pf rfl (pv_load rfl rfl (by assumption)) rfl ?_
        refine AnyH.take 18 rfl (by kernel_rfl) (by kernel_rfl) (by kernel_rfl) PF.pf rfl (pv_move rfl) rfl ?_
        refine AnyH.take 19 rfl (by kernel_rfl) (by kernel_rfl) (by kernel_rfl) PF.pf rfl (pv_move rfl) rfl ?_
        refine AnyH.take 20 rfl (by kernel_rfl) (by kernel_rfl) (by kernel_rfl) PF.pf rfl (pv_indexAddr rfl rfl rfl (by omega)) rfl ?_
        first | refine AnyH.take 21 rfl (by kernel_rfl) (by kernel_rfl) (by kernel_rfl) PF.pf rfl (pv_fieldAddr0 rfl rfl) rfl ?_ | refine AnyH.take 21 rfl (by kernel_rfl) (by kernel_rfl) (by kernel_rfl) PF.pf rfl (pv_fieldAddr rfl rfl) rfl ?_
        first | refine AnyH.take 22 rfl (by kernel_rfl) (by kernel_rfl) (by kernel_rfl) PF.pf rfl (pv_load rfl rfl rfl) rfl ?_ | refine AnyH.take 22 rfl (by kernel_rfl) (by kernel_rfl) (by kernel_rfl) PF.pf rfl (pv_load rfl rfl (by assumption)) rfl ?_
        refine AnyH.one 11 (by kernel_rfl) ?_
        refine Turn.ef rfl rfl (ef_call (tr_rdyPut _ _ L hA hW (by omega) x.id x.level) rfl rfl) ?_ ?_
        · rintro _ _ ⟨_, _, ⟨rfl, hA2⟩, rfl, rfl⟩; infer_instance
        rintro _ _ ⟨_, _, ⟨rfl, hA2⟩, rfl, rfl⟩
        refine AnyH.app ?_
        refine AnyH.one 23 (by kernel_rfl) ?_
        refine Turn.ef rfl rfl (ef_call (tr_drPut _ _ L hB (by omega) x.id x.level) rfl rfl) ?_ ?_
        · rintro _ _ ⟨_, _, ⟨rfl, hB1⟩, rfl, rfl⟩; infer_instance
        rintro _ _ ⟨_, _, ⟨rfl, hB1⟩, rfl, rfl⟩
        refine AnyH.app ?_
        refine AnyH.take 24 rfl (by kernel_rfl) (by kernel_rfl) (by kernel_rfl) PF.pf rfl ((pv_neq rfl rfl).fls (by first | exact fun h => h rfl | decide | omega | assumption)) rfl ?_
        refine AnyH.done (by kernel_rfl) ?_
        refine Ends.seq ?_
        refine Wp.cond_false rfl ?_
        refine Wp.skip ?_
        refine Ends.seq ?_
        refine Wp.seq ?_
        refine Wp.region ?_
        refine Ops.pv (pv_move rfl) rfl ?_
        refine Ops.ef rfl (ef_callr (tr_rdyNext _ _ (putR L x.id x.level) hA2 (by first | exact hW.put _ _ | exact hW.drop _) (by omega)) rfl rfl) ?_
        rintro _ _ ⟨rfl, rfl⟩
        refine Ops.pv (pv_move rfl) rfl ?_
        refine Ops.pv (pv_extract rfl rfl) rfl ?_
        refine Ops.pv (pv_extract rfl rfl) rfl ?_
        refine Ops.pv (pv_assign rfl) rfl ?_
        refine Ops.pv (pv_assign rfl) rfl ?_
        refine Ops.nil ?_
        refine Ends.seq ?_
        refine Wp.seq ?_
        refine Wp.region ?_
        refine Ops.pv (pv_move rfl) rfl ?_
        refine Ops.ef rfl (ef_callr (tr_drNext _ _ (putR L x.id x.level) hB1 (by omega)) rfl rfl) ?_
        rintro _ _ ⟨rfl, rfl⟩
        refine Ops.pv (pv_move rfl) rfl ?_
        refine Ops.pv (pv_extract rfl rfl) rfl ?_
        refine Ops.pv (pv_extract rfl rfl) rfl ?_
        refine Ops.pv (pv_assign rfl) rfl ?_
        refine Ops.pv (pv_assign rfl) rfl ?_
        refine Ops.nil ?_
        refine Ends.seq ?_
        refine Wp.seq ?_
        refine AnyH.start G 33 rfl ?_
        refine AnyH.take 0 rfl (by kernel_rfl) (by kernel_rfl) (by kernel_rfl) PF.pf rfl (pv_move rfl) rfl ?_
        refine AnyH.take 1 rfl (by kernel_rfl) (by kernel_rfl) (by kernel_rfl) PF.pf rfl (pv_move rfl) rfl ?_
        refine AnyH.take 2 rfl (by kernel_rfl) (by kernel_rfl) (by kernel_rfl) PF.pf rfl ((pv_neq rfl rfl).fls (by first | exact fun h => h rfl | decide | omega | assumption)) rfl ?_
        refine AnyH.take 3 rfl (by kernel_rfl) (by kernel_rfl) (by kernel_rfl) PF.pf rfl (pv_move rfl) rfl ?_
        refine AnyH.take 4 rfl (by kernel_rfl) (by kernel_rfl) (by kernel_rfl) PF.pf ⟨_, _, rfl, rfl, rfl⟩ (pv_move rfl) rfl ?_
        refine AnyH.take 5 rfl (by kernel_rfl) (by kernel_rfl) (by kernel_rfl) PF.pf ⟨_, _, rfl, rfl, rfl⟩ (pv_move rfl) rfl ?_
        refine AnyH.take 6 rfl (by kernel_rfl) (by kernel_rfl) (by kernel_rfl) PF.pf ⟨_, _, rfl, rfl, rfl⟩ ((pv_neq_bool rfl rfl).is (u := .bool false) (by first | rfl | (simp; done) | simp_all)) rfl ?_
        refine AnyH.take 7 rfl (by kernel_rfl) (by kernel_rfl) (by kernel_rfl) PF.pf rfl (pv_pick_false rfl rfl) rfl ?_
        refine AnyH.take 8 rfl (by kernel_rfl) (by kernel_rfl) (by kernel_rfl) PF.pf rfl (pv_move rfl) rfl ?_
        refine AnyH.take 9 rfl (by kernel_rfl) (by kernel_rfl) (by kernel_rfl) PF.pf ⟨_, _, rfl, rfl, rfl⟩ (pv_move rfl) rfl ?_
        refine AnyH.take 11 rfl (by kernel_rfl) (by kernel_rfl) (by kernel_rfl) PF.pf ⟨_, _, rfl, rfl, rfl⟩ (pv_move rfl) rfl ?_
        refine AnyH.one 10 (by kernel_rfl) ?_
        refine Turn.ef rfl ⟨_, _, rfl, rfl, rfl⟩ (ef_callr (tr_rdyLevels _ _ (putR L x.id x.level) hA2 (by first | exact hW.put _ _ | exact hW.drop _) (by omega)) rfl rfl) ?_ ?_
        · rintro _ _ ⟨rfl, rfl⟩; infer_instance
        rintro _ _ ⟨rfl, rfl⟩
        refine AnyH.one 12 (by kernel_rfl) ?_
        refine Turn.ef rfl ⟨_, _, rfl, rfl, rfl⟩ (ef_callr (tr_drLevels _ _ (putR L x.id x.level) hB1 (by omega)) rfl rfl) ?_ ?_
        · rintro _ _ ⟨rfl, rfl⟩; infer_instance
        rintro _ _ ⟨rfl, rfl⟩
        refine AnyH.take 13 rfl (by kernel_rfl) (by kernel_rfl) (by kernel_rfl) PF.pf ⟨_, _, rfl, rfl, rfl⟩ ((pv_neq rfl rfl).fls (by first | exact fun h => h rfl | decide | omega | assumption)) rfl ?_
        refine AnyH.take 14 rfl (by kernel_rfl) (by kernel_rfl) (by kernel_rfl) PF.pf rfl (pv_pick_false rfl rfl) rfl ?_
        refine AnyH.take 15 rfl (by kernel_rfl) (by kernel_rfl) (by kernel_rfl) PF.pf rfl (pv_move rfl) rfl ?_
        refine AnyH.take 16 rfl (by kernel_rfl) (by kernel_rfl) (by kernel_rfl) PF.pf ⟨_, _, rfl, rfl, rfl⟩ (pv_move rfl) rfl ?_
        refine AnyH.take 17 rfl (by kernel_rfl) (by kernel_rfl) (by kernel_rfl) PF.pf ⟨_, _, rfl, rfl, rfl⟩ (pv_move rfl) rfl ?_
        refine AnyH.take 18 rfl (by kernel_rfl) (by kernel_rfl) (by kernel_rfl) PF.pf ⟨_, _, rfl, rfl, rfl⟩ (pv_move rfl) rfl ?_
        refine AnyH.take 19 rfl (by kernel_rfl) (by kernel_rfl) (by kernel_rfl) PF.pf ⟨_, _, rfl, rfl, rfl⟩ (pv_indexAddr rfl rfl rfl (by omega)) rfl ?_
        first | refine AnyH.take 20 rfl (by kernel_rfl) (by kernel_rfl) (by kernel_rfl) PF.pf ⟨_, _, rfl, rfl, rfl⟩ (pv_fieldAddr0 rfl rfl) rfl ?_ | refine AnyH.take 20 rfl (by kernel_rfl) (by kernel_rfl) (by kernel_rfl) PF.pf ⟨_, _, rfl, rfl, rfl⟩ (pv_fieldAddr rfl rfl) rfl ?_
        first | refine AnyH.take 21 rfl (by kernel_rfl) (by kernel_rfl) (by kernel_rfl) PF.pf ⟨_, _, rfl, rfl, rfl⟩ (pv_load rfl rfl rfl) rfl ?_ | refine AnyH.take 21 rfl (by kernel_rfl) (by kernel_rfl) (by kernel_rfl) PF.pf ⟨_, _, rfl, rfl, rfl⟩ (pv_load rfl rfl (by assumption)) rfl ?_
        refine AnyH.take 23 rfl (by kernel_rfl) (by kernel_rfl) (by kernel_rfl) PF.pf ⟨_, _, rfl, rfl, rfl⟩ (pv_move rfl) rfl ?_
        refine AnyH.take 24 rfl (by kernel_rfl) (by kernel_rfl) (by kernel_rfl) PF.pf ⟨_, _, rfl, rfl, rfl⟩ (pv_move rfl) rfl ?_
        refine AnyH.take 25 rfl (by kernel_rfl) (by kernel_rfl) (by kernel_rfl) PF.pf ⟨_, _, rfl, rfl, rfl⟩ (pv_move rfl) rfl ?_
        refine AnyH.take 26 rfl (by kernel_rfl) (by kernel_rfl) (by kernel_rfl) PF.pf ⟨_, _, rfl, rfl, rfl⟩ (pv_indexAddr rfl rfl rfl (by omega)) rfl ?_
        first | refine AnyH.take 27 rfl (by kernel_rfl) (by kernel_rfl) (by kernel_rfl) PF.pf ⟨_, _, rfl, rfl, rfl⟩ (pv_fieldAddr0 rfl rfl) rfl ?_ | refine AnyH.take 27 rfl (by kernel_rfl) (by kernel_rfl) (by kernel_rfl) PF.pf ⟨_, _, rfl, rfl, rfl⟩ (pv_fieldAddr rfl rfl) rfl ?_
        first | refine AnyH.take 28 rfl (by kernel_rfl) (by kernel_rfl) (by kernel_rfl) PF.pf ⟨_, _, rfl, rfl, rfl⟩ (pv_load rfl rfl rfl) rfl ?_ | refine AnyH.take 28 rfl (by kernel_rfl) (by kernel_rfl) (by kernel_rfl) PF.pf ⟨_, _, rfl, rfl, rfl⟩ (pv_load rfl rfl (by assumption)) rfl ?_
        refine AnyH.one 22 (by kernel_rfl) ?_
        refine Turn.ef rfl ⟨_, _, rfl, rfl, rfl⟩ (ef_call (tr_rdyList _ _ (putR L x.id x.level) hA2 (by first | exact hW.put _ _ | exact hW.drop _) (by omega) x.level) rfl rfl) ?_ ?_
        · rintro _ _ ⟨_, _, ⟨C1, hc1, rfl⟩, rfl, rfl⟩; infer_instance
        rintro _ _ ⟨_, _, ⟨C1, hc1, rfl⟩, rfl, rfl⟩
        refine AnyH.app ?_
        obtain ⟨u1, t1, rfl⟩ := hc1.form
        have hb3 := lvl_len (putR L x.id x.level) x.level
        refine AnyH.one 29 (by kernel_rfl) ?_
        refine Turn.ef rfl ⟨_, _, rfl, rfl, rfl⟩ (ef_call (tr_drList _ _ (putR L x.id x.level) hB1 (by omega) x.level) rfl rfl) ?_ ?_
        · rintro _ _ ⟨_, _, ⟨K1, hd1, rfl⟩, rfl, rfl⟩; infer_instance
        rintro _ _ ⟨_, _, ⟨K1, hd1, rfl⟩, rfl, rfl⟩
        refine AnyH.app ?_
        obtain ⟨u2, t2, rfl⟩ := hd1.form
        have hb3 := lvl_len (putR L x.id x.level) x.level
        refine AnyH.one 30 (by kernel_rfl) ?_
        refine Turn.ef rfl ⟨_, _, rfl, rfl, rfl⟩ (ef_callr (tr_same C1 K1 _ _ _ _ _ hc1.view hd1.view (by omega)) rfl rfl) ?_ ?_
        · rintro _ _ ⟨rfl, rfl⟩; infer_instance
        rintro _ _ ⟨rfl, rfl⟩
        first | refine AnyH.take 31 rfl (by kernel_rfl) (by kernel_rfl) (by kernel_rfl) PF.pf ⟨_, _, rfl, rfl, rfl⟩ (pv_not_dec rfl) rfl ?_ | refine AnyH.take 31 rfl (by kernel_rfl) (by kernel_rfl) (by kernel_rfl) PF.pf ⟨_, _, rfl, rfl, rfl⟩ (pv_not rfl) rfl ?_
        refine AnyH.take 32 rfl (by kernel_rfl) (by kernel_rfl) (by kernel_rfl) PF.pf rfl (pv_pick_false rfl rfl) rfl ?_
        refine AnyH.done (by kernel_rfl) ?_
        refine Ends.seq ?_
        refine Wp.cond_false rfl ?_
        refine Wp.skip ?_
        refine Ends.block_normal ?_
        refine Ends.seq ?_
        refine Wp.region ?_
        refine Ops.pv (pv_move rfl) rfl ?_
        first | refine Ops.pv (pv_add rfl rfl (w64 (by omega) (by omega))) rfl ?_ | refine Ops.pv (pv_add rfl rfl rfl) rfl ?_
        refine Ops.pv (pv_assign rfl) rfl ?_
        refine Ops.nil ?_
        refine Ends.goes ?_
        refine Goes.back (hK (i + 1, (putR L x.id x.level), _, _) ⟨by dsimp only; omega, by dsimp only; omega, (by first | exact hW.put _ _ | exact hW.drop _), hA2, hB1⟩ (by dsimp only; omega)) ⟨rfl, rfl, rfl, rfl, trivial⟩
      · refine Wp.seq ?_
        refine AnyH.start G 15 rfl ?_
        refine AnyH.take 0 rfl (by kernel_rfl) (by kernel_rfl) (by kernel_rfl) PF.pf rfl (pv_move rfl) rfl ?_
        refine AnyH.take 1 rfl (by kernel_rfl) (by kernel_rfl) (by kernel_rfl) PF.pf rfl (pv_move rfl) rfl ?_
        refine AnyH.take 2 rfl (by kernel_rfl) (by kernel_rfl) (by kernel_rfl) PF.pf rfl (pv_move rfl) rfl ?_
        refine AnyH.take 3 rfl (by kernel_rfl) (by kernel_rfl) (by kernel_rfl) PF.pf rfl (pv_indexAddr rfl rfl rfl (by omega)) rfl ?_
        first | refine AnyH.take 4 rfl (by kernel_rfl) (by kernel_rfl) (by kernel_rfl) PF.pf rfl (pv_fieldAddr0 rfl rfl) rfl ?_ | refine AnyH.take 4 rfl (by kernel_rfl) (by kernel_rfl) (by kernel_rfl) PF.pf rfl (pv_fieldAddr rfl rfl) rfl ?_
        first | refine AnyH.take 5 rfl (by kernel_rfl) (by kernel_rfl) (by kernel_rfl) PF.pf rfl (pv_load rfl rfl rfl) rfl ?_ | refine AnyH.take 5 rfl (by kernel_rfl) (by kernel_rfl) (by kernel_rfl) PF.pf rfl (pv_load rfl rfl (by assumption)) rfl ?_
        refine AnyH.take 7 rfl (by kernel_rfl) (by kernel_rfl) (by kernel_rfl) PF.pf rfl (pv_move rfl) rfl ?_
        refine AnyH.take 8 rfl (by kernel_rfl) (by kernel_rfl) (by kernel_rfl) PF.pf rfl (pv_move rfl) rfl ?_
        refine AnyH.take 9 rfl (by kernel_rfl) (by kernel_rfl) (by kernel_rfl) PF.pf rfl (pv_move rfl) rfl ?_
        refine AnyH.take 10 rfl (by kernel_rfl) (by kernel_rfl) (by kernel_rfl) PF.pf rfl (pv_indexAddr rfl rfl rfl (by omega)) rfl ?_
        first | refine AnyH.take 11 rfl (by kernel_rfl) (by kernel_rfl) (by kernel_rfl) PF.pf rfl (pv_fieldAddr0 rfl rfl) rfl ?_ | refine AnyH.take 11 rfl (by kernel_rfl) (by kernel_rfl) (by kernel_rfl) PF.pf rfl (pv_fieldAddr rfl rfl) rfl ?_
        first | refine AnyH.take 12 rfl (by kernel_rfl) (by kernel_rfl) (by kernel_rfl) PF.pf rfl (pv_load rfl rfl rfl) rfl ?_ | refine AnyH.take 12 rfl (by kernel_rfl) (by kernel_rfl) (by kernel_rfl) PF.pf rfl (pv_load rfl rfl (by assumption)) rfl ?_
        refine AnyH.one 6 (by kernel_rfl) ?_
        refine Turn.ef rfl rfl (ef_call (tr_rdyDrop _ _ L hA hW (by omega) x.id) rfl rfl) ?_ ?_
        · rintro _ _ ⟨_, _, ⟨rfl, hA3⟩, rfl, rfl⟩; infer_instance
        rintro _ _ ⟨_, _, ⟨rfl, hA3⟩, rfl, rfl⟩
        refine AnyH.app ?_
        refine AnyH.one 13 (by kernel_rfl) ?_
        refine Turn.ef rfl rfl (ef_call (tr_drDrop _ _ L hB (by omega) hW x.id) rfl rfl) ?_ ?_
        · rintro _ _ ⟨_, _, ⟨rfl, hB2⟩, rfl, rfl⟩; infer_instance
        rintro _ _ ⟨_, _, ⟨rfl, hB2⟩, rfl, rfl⟩
        refine AnyH.app ?_
        refine AnyH.take 14 rfl (by kernel_rfl) (by kernel_rfl) (by kernel_rfl) PF.pf rfl ((pv_neq_bool rfl rfl).is (u := .bool false) (by first | rfl | (simp; done) | simp_all)) rfl ?_
        refine AnyH.done (by kernel_rfl) ?_
        refine Ends.seq ?_
        refine Wp.cond_false rfl ?_
        refine Wp.skip ?_
        refine Ends.seq ?_
        refine Wp.seq ?_
        refine Wp.region ?_
        refine Ops.pv (pv_move rfl) rfl ?_
        refine Ops.ef rfl (ef_callr (tr_rdyNext _ _ (dropR L x.id) hA3 (by first | exact hW.put _ _ | exact hW.drop _) (by omega)) rfl rfl) ?_
        rintro _ _ ⟨rfl, rfl⟩
        refine Ops.pv (pv_move rfl) rfl ?_
        refine Ops.pv (pv_extract rfl rfl) rfl ?_
        refine Ops.pv (pv_extract rfl rfl) rfl ?_
        refine Ops.pv (pv_assign rfl) rfl ?_
        refine Ops.pv (pv_assign rfl) rfl ?_
        refine Ops.nil ?_
        refine Ends.seq ?_
        refine Wp.seq ?_
        refine Wp.region ?_
        refine Ops.pv (pv_move rfl) rfl ?_
        refine Ops.ef rfl (ef_callr (tr_drNext _ _ (dropR L x.id) hB2 (by omega)) rfl rfl) ?_
        rintro _ _ ⟨rfl, rfl⟩
        refine Ops.pv (pv_move rfl) rfl ?_
        refine Ops.pv (pv_extract rfl rfl) rfl ?_
        refine Ops.pv (pv_extract rfl rfl) rfl ?_
        refine Ops.pv (pv_assign rfl) rfl ?_
        refine Ops.pv (pv_assign rfl) rfl ?_
        refine Ops.nil ?_
        refine Ends.seq ?_
        refine Wp.seq ?_
        refine AnyH.start G 33 rfl ?_
        refine AnyH.take 0 rfl (by kernel_rfl) (by kernel_rfl) (by kernel_rfl) PF.pf rfl (pv_move rfl) rfl ?_
        refine AnyH.take 1 rfl (by kernel_rfl) (by kernel_rfl) (by kernel_rfl) PF.pf rfl (pv_move rfl) rfl ?_
        refine AnyH.take 2 rfl (by kernel_rfl) (by kernel_rfl) (by kernel_rfl) PF.pf rfl ((pv_neq rfl rfl).fls (by first | exact fun h => h rfl | decide | omega | assumption)) rfl ?_
        refine AnyH.take 3 rfl (by kernel_rfl) (by kernel_rfl) (by kernel_rfl) PF.pf rfl (pv_move rfl) rfl ?_
        refine AnyH.take 4 rfl (by kernel_rfl) (by kernel_rfl) (by kernel_rfl) PF.pf ⟨_, _, rfl, rfl, rfl⟩ (pv_move rfl) rfl ?_
        refine AnyH.take 5 rfl (by kernel_rfl) (by kernel_rfl) (by kernel_rfl) PF.pf ⟨_, _, rfl, rfl, rfl⟩ (pv_move rfl) rfl ?_
        refine AnyH.take 6 rfl (by kernel_rfl) (by kernel_rfl) (by kernel_rfl) PF.pf ⟨_, _, rfl, rfl, rfl⟩ ((pv_neq_bool rfl rfl).is (u := .bool false) (by first | rfl | (simp; done) | simp_all)) rfl ?_
        refine AnyH.take 7 rfl (by kernel_rfl) (by kernel_rfl) (by kernel_rfl) PF.pf rfl (pv_pick_false rfl rfl) rfl ?_
        refine AnyH.take 8 rfl (by kernel_rfl) (by kernel_rfl) (by kernel_rfl) PF.pf rfl (pv_move rfl) rfl ?_
        refine AnyH.take 9 rfl (by kernel_rfl) (by kernel_rfl) (by kernel_rfl) PF.pf ⟨_, _, rfl, rfl, rfl⟩ (pv_move rfl) rfl ?_
        refine AnyH.take 11 rfl (by kernel_rfl) (by kernel_rfl) (by kernel_rfl) PF.pf ⟨_, _, rfl, rfl, rfl⟩ (pv_move rfl) rfl ?_
        refine AnyH.one 10 (by kernel_rfl) ?_
        refine Turn.ef rfl ⟨_, _, rfl, rfl, rfl⟩ (ef_callr (tr_rdyLevels _ _ (dropR L x.id) hA3 (by first | exact hW.put _ _ | exact hW.drop _) (by omega)) rfl rfl) ?_ ?_
        · rintro _ _ ⟨rfl, rfl⟩; infer_instance
        rintro _ _ ⟨rfl, rfl⟩
        refine AnyH.one 12 (by kernel_rfl) ?_
        refine Turn.ef rfl ⟨_, _, rfl, rfl, rfl⟩ (ef_callr (tr_drLevels _ _ (dropR L x.id) hB2 (by omega)) rfl rfl) ?_ ?_
        · rintro _ _ ⟨rfl, rfl⟩; infer_instance
        rintro _ _ ⟨rfl, rfl⟩
        refine AnyH.take 13 rfl (by kernel_rfl) (by kernel_rfl) (by kernel_rfl) PF.pf ⟨_, _, rfl, rfl, rfl⟩ ((pv_neq rfl rfl).fls (by first | exact fun h => h rfl | decide | omega | assumption)) rfl ?_
        refine AnyH.take 14 rfl (by kernel_rfl) (by kernel_rfl) (by kernel_rfl) PF.pf rfl (pv_pick_false rfl rfl) rfl ?_
        refine AnyH.take 15 rfl (by kernel_rfl) (by kernel_rfl) (by kernel_rfl) PF.pf rfl (pv_move rfl) rfl ?_
        refine AnyH.take 16 rfl (by kernel_rfl) (by kernel_rfl) (by kernel_rfl) PF.pf ⟨_, _, rfl, rfl, rfl⟩ (pv_move rfl) rfl ?_
        refine AnyH.take 17 rfl (by kernel_rfl) (by kernel_rfl) (by kernel_rfl) PF.pf ⟨_, _, rfl, rfl, rfl⟩ (pv_move rfl) rfl ?_
        refine AnyH.take 18 rfl (by kernel_rfl) (by kernel_rfl) (by kernel_rfl) PF.pf ⟨_, _, rfl, rfl, rfl⟩ (pv_move rfl) rfl ?_
        refine AnyH.take 19 rfl (by kernel_rfl) (by kernel_rfl) (by kernel_rfl) PF.pf ⟨_, _, rfl, rfl, rfl⟩ (pv_indexAddr rfl rfl rfl (by omega)) rfl ?_
        first | refine AnyH.take 20 rfl (by kernel_rfl) (by kernel_rfl) (by kernel_rfl) PF.pf ⟨_, _, rfl, rfl, rfl⟩ (pv_fieldAddr0 rfl rfl) rfl ?_ | refine AnyH.take 20 rfl (by kernel_rfl) (by kernel_rfl) (by kernel_rfl) PF.pf ⟨_, _, rfl, rfl, rfl⟩ (pv_fieldAddr rfl rfl) rfl ?_
        first | refine AnyH.take 21 rfl (by kernel_rfl) (by kernel_rfl) (by kernel_rfl) PF.pf ⟨_, _, rfl, rfl, rfl⟩ (pv_load rfl rfl rfl) rfl ?_ | refine AnyH.take 21 rfl (by kernel_rfl) (by kernel_rfl) (by kernel_rfl) PF.pf ⟨_, _, rfl, rfl, rfl⟩ (pv_load rfl rfl (by assumption)) rfl ?_
        refine AnyH.take 23 rfl (by kernel_rfl) (by kernel_rfl) (by kernel_rfl) PF.pf ⟨_, _, rfl, rfl, rfl⟩ (pv_move rfl) rfl ?_
        refine AnyH.take 24 rfl (by kernel_rfl) (by kernel_rfl) (by kernel_rfl) PF.pf ⟨_, _, rfl, rfl, rfl⟩ (pv_move rfl) rfl ?_
        refine AnyH.take 25 rfl (by kernel_rfl) (by kernel_rfl) (by kernel_rfl) PF.pf ⟨_, _, rfl, rfl, rfl⟩ (pv_move rfl) rfl ?_
        refine AnyH.take 26 rfl (by kernel_rfl) (by kernel_rfl) (by kernel_rfl) PF.pf ⟨_, _, rfl, rfl, rfl⟩ (pv_indexAddr rfl rfl rfl (by omega)) rfl ?_
        first | refine AnyH.take 27 rfl (by kernel_rfl) (by kernel_rfl) (by kernel_rfl) PF.pf ⟨_, _, rfl, rfl, rfl⟩ (pv_fieldAddr0 rfl rfl) rfl ?_ | refine AnyH.take 27 rfl (by kernel_rfl) (by kernel_rfl) (by kernel_rfl) PF.pf ⟨_, _, rfl, rfl, rfl⟩ (pv_fieldAddr rfl rfl) rfl ?_
        first | refine AnyH.take 28 rfl (by kernel_rfl) (by kernel_rfl) (by kernel_rfl) PF.pf ⟨_, _, rfl, rfl, rfl⟩ (pv_load rfl rfl rfl) rfl ?_ | refine AnyH.take 28 rfl (by kernel_rfl) (by kernel_rfl) (by kernel_rfl) PF.pf ⟨_, _, rfl, rfl, rfl⟩ (pv_load rfl rfl (by assumption)) rfl ?_
        refine AnyH.one 22 (by kernel_rfl) ?_
        refine Turn.ef rfl ⟨_, _, rfl, rfl, rfl⟩ (ef_call (tr_rdyList _ _ (dropR L x.id) hA3 (by first | exact hW.put _ _ | exact hW.drop _) (by omega) x.level) rfl rfl) ?_ ?_
        · rintro _ _ ⟨_, _, ⟨C2, hc2, rfl⟩, rfl, rfl⟩; infer_instance
        rintro _ _ ⟨_, _, ⟨C2, hc2, rfl⟩, rfl, rfl⟩
        refine AnyH.app ?_
        obtain ⟨u3, t3, rfl⟩ := hc2.form
        have hb3 := lvl_len (dropR L x.id) x.level
        refine AnyH.one 29 (by kernel_rfl) ?_
        refine Turn.ef rfl ⟨_, _, rfl, rfl, rfl⟩ (ef_call (tr_drList _ _ (dropR L x.id) hB2 (by omega) x.level) rfl rfl) ?_ ?_
        · rintro _ _ ⟨_, _, ⟨K2, hd2, rfl⟩, rfl, rfl⟩; infer_instance
        rintro _ _ ⟨_, _, ⟨K2, hd2, rfl⟩, rfl, rfl⟩
        refine AnyH.app ?_
        obtain ⟨u4, t4, rfl⟩ := hd2.form
        have hb3 := lvl_len (dropR L x.id) x.level
        refine AnyH.one 30 (by kernel_rfl) ?_
        refine Turn.ef rfl ⟨_, _, rfl, rfl, rfl⟩ (ef_callr (tr_same C2 K2 _ _ _ _ _ hc2.view hd2.view (by omega)) rfl rfl) ?_ ?_
        · rintro _ _ ⟨rfl, rfl⟩; infer_instance
        rintro _ _ ⟨rfl, rfl⟩
        first | refine AnyH.take 31 rfl (by kernel_rfl) (by kernel_rfl) (by kernel_rfl) PF.pf ⟨_, _, rfl, rfl, rfl⟩ (pv_not_dec rfl) rfl ?_ | refine AnyH.take 31 rfl (by kernel_rfl) (by kernel_rfl) (by kernel_rfl) PF.pf ⟨_, _, rfl, rfl, rfl⟩ (pv_not rfl) rfl ?_
        refine AnyH.take 32 rfl (by kernel_rfl) (by kernel_rfl) (by kernel_rfl) PF.pf rfl (pv_pick_false rfl rfl) rfl ?_
        refine AnyH.done (by kernel_rfl) ?_
        refine Ends.seq ?_
        refine Wp.cond_false rfl ?_
        refine Wp.skip ?_
        refine Ends.block_normal ?_
        refine Ends.seq ?_
        refine Wp.region ?_
        refine Ops.pv (pv_move rfl) rfl ?_
        first | refine Ops.pv (pv_add rfl rfl (w64 (by omega) (by omega))) rfl ?_ | refine Ops.pv (pv_add rfl rfl rfl) rfl ?_
        refine Ops.pv (pv_assign rfl) rfl ?_
        refine Ops.nil ?_
        refine Ends.goes ?_
        refine Goes.back (hK (i + 1, (dropR L x.id), _, _) ⟨by dsimp only; omega, by dsimp only; omega, (by first | exact hW.put _ _ | exact hW.drop _), hA3, hB2⟩ (by dsimp only; omega)) ⟨rfl, rfl, rfl, rfl, trivial⟩
    · refine Wp.exit ?_
      refine Ends.then_exit ?_
      refine Ends.then_exit ?_
      refine Ends.block_hit ?_
      refine Ends.seq ?_
      refine Wp.seq ?_
      refine Wp.region ?_
      refine Ops.pv (pv_assign rfl) rfl ?_
      refine Ops.nil ?_
      refine Ends.seq ?_
      refine Wp.ret ?_
      exact Ends.ret (res1 rfl rfl) ⟨rfl, rfl⟩
  · refine Ops.skipg ⟨_, _, rfl, rfl, rfl⟩ rfl ?_
    refine Ops.skipg ⟨_, _, rfl, rfl, rfl⟩ rfl ?_
    refine Ops.pv (pv_pick_false rfl rfl) rfl ?_
    refine Ops.nil ?_
    refine Ends.seq ?_
    refine Wp.cond_false rfl ?_
    refine Wp.exit ?_
    refine Ends.then_exit ?_
    refine Ends.then_exit ?_
    refine Ends.block_hit ?_
    refine Ends.seq ?_
    refine Wp.seq ?_
    refine Wp.region ?_
    refine Ops.pv (pv_assign rfl) rfl ?_
    refine Ops.nil ?_
    refine Ends.seq ?_
    refine Wp.ret ?_
    exact Ends.ret (res1 rfl rfl) ⟨rfl, rfl⟩

end Go.Proofs.Ytpjodkcghiklcaa
