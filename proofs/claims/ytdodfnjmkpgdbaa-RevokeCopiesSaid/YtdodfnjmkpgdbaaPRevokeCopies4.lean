/- RevokeCopies. Laid together by pack.py out of the texts in wip. -/
import Derived.Test.YtdodfnjmkpgdbaaPRevokeCopies3
set_option linter.unusedVariables false
set_option linter.unusedSimpArgs false
set_option linter.unusedSectionVars false
section
set_option linter.unusedVariables false
set_option linter.unusedSimpArgs false
set_option linter.unusedSectionVars false
namespace Go.Proofs.Ytdodfnjmkpgdbaa
open Go.SL
theorem wok_new : WOk PS.new := by
 have hz : ∀ s, (dget PS.new.l s).1 = CapM.zero := fun s => by simp [PS.new, dget, dcap?, dfind]
 refine ⟨⟨hasS_nil, List.nodup_nil, fun s => ?_⟩, fun s => ?_, fun t x hx => ?_⟩
 ·
  show s ∈ ([] : List SlotM) ↔ _
  rw [hz]; simp [CapM.zero]
 ·
  rw [hz]; exact zero_rg
 cases (kin_in hx).1
def rc : CapM := ⟨6, 9, 3, 0, 0, 0⟩
theorem rc_rg : rc.Rg := ⟨by unfold i64R rc; decide, by unfold u64R rc; decide, by unfold u64R rc; decide⟩
def ra1 : PS := (mNode PS.new 0 3).2
def ra2 : PS := (mPlant ra1 (0, 0) rc).2
def ra3 : PS := (mCopy ra2 (0, 0) (0, 1) 3).2
def ra4 : PS := (mCopy ra3 (0, 1) (0, 2) 1).2
def ra5 : PS := revS ra4 (0, 0) 1
def ra6 : PS := revS ra5 (0, 0) 1
def ra7 : PS := (mTake ra6 (0, 0)).2.2
theorem raw4 : WOk ra4 := (((wok_new.node 0 3).plant (0, 0) rc_rg).copy (0, 0) (0, 1) (by unfold i64R; decide)).copy (0, 1) (0, 2) (by unfold i64R; decide)
theorem raw5 : WOk ra5 := revS_ok 1 raw4
theorem raw6 : WOk ra6 := revS_ok 1 raw5
theorem rk4 : (dget ra4.l (0, 0)).1.kind = 6 := by kernel_rfl
theorem rk5 : (dget ra5.l (0, 0)).1.kind = 6 := by kernel_rfl
theorem rl4 : (ftKin ra4.F (0, 0)).length = 2 := by kernel_rfl
theorem rl5 : (ftKin ra5.F (0, 0)).length = 1 := by kernel_rfl
theorem rf4 : decide (fin ra4.l (0, 0)) = false := by kernel_rfl
theorem rf6 : decide (fin ra6.l (0, 0)) = true := by kernel_rfl
theorem rg6 : (dget ra6.l (0, 0)).1 = rc := by kernel_rfl
theorem rfl7 : dfull ra7.l = [] := by kernel_rfl
theorem rad1 : (dadd PS.new.l 0 3).1 = 0 := by kernel_rfl
theorem tr_rev4 {n cb : Nat} {H : Hp} (hC : CapsH n ra4 cb H) (hn : n ≤ 2 ^ 19) : Tr Try.prog 37 [cpP cb, slotV (0, 0), .int .i64 1] H (fun u L' => ∃ v' T' H', Slc 24 6 v' 0 [] T' ∧ CapsH n ra5 cb H' ∧ u = .tuple #[v', .bool false, .int .i64 11] ∧ L' = T' ++ H') :=
  (tr_rRevokeW n cb H ra4 hC raw4 hn (0, 0) (by rw [rk4]; decide) 1 (by decide) (by decide)).mono fun u L' ⟨v', T', H', h1, h2, h3, h4⟩ => ⟨v', T', H', h1, by rw [rl4] at h2; exact h2, by rw [rl4] at h3; exact h3, h4⟩
theorem tr_rev5 {n cb : Nat} {H : Hp} (hC : CapsH n ra5 cb H) (hn : n ≤ 2 ^ 19) : Tr Try.prog 37 [cpP cb, slotV (0, 0), .int .i64 1] H (fun u L' => ∃ v' T' H', Slc 24 6 v' 0 [] T' ∧ CapsH n ra6 cb H' ∧ u = .tuple #[v', .bool true, .int .i64 0] ∧ L' = T' ++ H') :=
  (tr_rRevokeW n cb H ra5 hC raw5 hn (0, 0) (by rw [rk5]; decide) 1 (by decide) (by decide)).mono fun u L' ⟨v', T', H', h1, h2, h3, h4⟩ => ⟨v', T', H', h1, by rw [rl5] at h2; exact h2, by rw [rl5] at h3; exact h3, h4⟩
theorem tr_del6 {n cb : Nat} {H : Hp} (hC : CapsH n ra6 cb H) (hn : n ≤ 2 ^ 19) : Tr Try.prog 33 [cpP cb, slotV (0, 0), .int .i64 9] H (fun u L' => ∃ v' T' H', Slc 24 6 v' [rc].length (cel CapM.cells [rc]) T' ∧ CapsH n ra7 cb H' ∧ u = .tuple #[v', .bool true, .int .i64 0] ∧ L' = T' ++ H') :=
  (tr_rDelete n cb H ra6 hC raw6.ok hn (0, 0) 9).mono fun u L' h => by
    have hk : (dget ra6.l (0, 0)).1.kind = 6 := by rw [rg6]; rfl
    rcases h with ⟨h0, _⟩ | ⟨_, b, t', v', T', H', hA, hI, rfl, rfl⟩
    · exact absurd (rvErr_0 (by rw [hk]; decide) (by decide) (by decide)) h0
    · have hin : innerM ra6.l [(0, 0)] (0, 0) = none := by unfold innerM; rw [if_neg (fun h => by rw [hk] at h; exact absurd h.1 (by decide))]
      cases hA with
      | spent _ h0 => exact absurd h0 (by decide)
      | step _ h0 =>
        have he := stepT_f (t := ⟨ra6, [], (9 : Int).toNat⟩) (s := (0, 0)) (of_decide_eq_true rf6) (by show ¬ (dget ra6.l (0, 0)).1.kind = 2; rw [hk]; decide)
        rw [he] at hI
        obtain ⟨h1, h2, _, _⟩ := hI
        simp only [rg6, List.nil_append] at h2
        exact ⟨v', T', H', h2, h1, rfl, rfl⟩
      | fall h2 _ => rw [hin] at h2; cases h2
      | next h2 _ _ => rw [hin] at h2; cases h2
set_option maxHeartbeats 4000000 in
theorem tr_rworks  : TrR Try.prog 32 [] ([]) (.bool true) := by
 refine Tr.enter Try.func32 rfl Try.ntmps32 rfl (fun W F => ?_)
 refine Wp.app ?_
 refine Wp.seq ?_
 refine Wp.region ?_
 refine Ops.pv (pv_assign rfl) rfl ?_
 refine Ops.nil ?_
 refine Ends.seq ?_
 refine Wp.seq ?_
 refine Wp.region ?_
 refine Ops.ef rfl (ef_call (tr_mNew) rfl rfl) ?_
 rintro _ _ ⟨_, _, ⟨cb1, rfl, ⟨sb0, tb0, Ls0, Lt0, hS0, hT0, rfl⟩⟩, rfl, rfl⟩
 refine Ops.app ?_
 refine Ops.pv (pv_assign rfl) rfl ?_
 refine Ops.nil ?_
 refine Ends.seq ?_
 refine Wp.seq ?_
 refine Wp.seq ?_
 refine Wp.region ?_
 refine Ops.pv (pv_move rfl) rfl ?_
 refine Ops.pv (pv_eql_nil rfl rfl) rfl ?_
 refine Ops.pv (pv_move rfl) rfl ?_
 refine Ops.pvg ⟨_, _, rfl, rfl, rfl⟩ (pv_move rfl) rfl ?_
 refine Ops.pvg ⟨_, _, rfl, rfl, rfl⟩ (pv_nilCheck rfl) rfl ?_
 refine Ops.pvg ⟨_, _, rfl, rfl, rfl⟩ (pv_fieldAddr0 rfl rfl) rfl ?_
 refine Ops.pvg ⟨_, _, rfl, rfl, rfl⟩ (pv_loadK [_] rfl rfl rfl ⟨rfl, trivial⟩) rfl ?_
 refine Ops.efg ⟨_, _, rfl, rfl, rfl⟩ (ef_call (tr_smNode _ sb0 Ls0 hS0 0 3) rfl rfl) ?_
 rintro _ _ ⟨_, Q1, ⟨rfl, hS2⟩, rfl, rfl⟩
 refine Ops.app ?_
 skip
 refine Ops.pvg ⟨_, _, rfl, rfl, rfl⟩ ((pv_neq rfl rfl).fls (fun h => h rad1)) rfl ?_
 refine Ops.pv (pv_pick_false rfl rfl) rfl ?_
 refine Ops.nil ?_
 refine Ends.seq ?_
 refine Wp.cond_false rfl ?_
 refine Wp.skip ?_
 refine Ends.seq ?_
 refine Wp.seq ?_
 refine Wp.region ?_
 refine Ops.pv (pv_build rfl) rfl ?_
 refine Ops.ef rfl (ef_allocK tyZ24 rfl) ?_
 rintro _ _ ⟨b1, rfl, rfl⟩
 refine Ops.ef rfl (ef_storeK rfl rfl rfl rfl) ?_
 rintro _ _ ⟨rfl, rfl⟩
 refine Ops.nil ?_
 refine Ends.seq ?_
 refine Wp.seq ?_
 refine AnyH.start ((b1, .cells [.int .i64 6, .int .i64 9, .int .i64 3, .int .u64 0, .int .u64 0, .int .i64 0].toArray 24) :: []) 4 rfl ?_
 refine Tk 0 rfl rfl (pv_move rfl) rfl ?_
 refine Tk 2 rfl rfl (pv_loadK [_, _, _, _, _, _] rfl rfl rfl ⟨rfl, rfl, rfl, rfl, rfl, rfl, trivial⟩) rfl ?_
 refine AnyH.one 1 (by kernel_rfl) ?_
 refine Turn.ef rfl rfl (ef_callr (tr_rslot _) rfl rfl) ?_ ?_
 ·
  rintro _ _ ⟨rfl, rfl⟩; infer_instance
 rintro _ _ ⟨rfl, rfl⟩
 refine AnyH.one 3 (by kernel_rfl) ?_
 refine Turn.ef rfl rfl (ef_call (tr_mPlant _ cb1 _ ra1 ⟨_, _, _, _, hS2, hT0, rfl⟩ (0, 0) rc) rfl rfl) ?_ ?_
 ·
  rintro _ _ ⟨_, _, ⟨rfl, ⟨sb2, tb2, Ls2, Lt2, hS2, hT2, rfl⟩⟩, rfl, rfl⟩; infer_instance
 rintro _ _ ⟨_, _, ⟨rfl, ⟨sb2, tb2, Ls2, Lt2, hS2, hT2, rfl⟩⟩, rfl, rfl⟩
 refine AnyH.app ?_
 refine AnyH.done (by kernel_rfl) ?_
 refine Ends.seq ?_
 refine Wp.seq ?_
 refine Wp.region ?_
 refine Ops.pv (pv_move rfl) rfl ?_
 refine Ops.ef rfl (ef_callr (tr_rslot _) rfl rfl) ?_
 rintro _ _ ⟨rfl, rfl⟩
 refine Ops.ef rfl (ef_callr (tr_rslot _) rfl rfl) ?_
 rintro _ _ ⟨rfl, rfl⟩
 refine Ops.ef rfl (ef_call (tr_mCopy _ cb1 _ ra2 ⟨_, _, _, _, hS2, hT2, rfl⟩ (by decide) (0, 0) (0, 1) 3) rfl rfl) ?_
 rintro _ _ ⟨_, _, ⟨rfl, ⟨sb2, tb2, Ls2, Lt2, hS2, hT2, rfl⟩⟩, rfl, rfl⟩
 refine Ops.app ?_
 refine Ops.nil ?_
 refine Ends.seq ?_
 refine Wp.seq ?_
 refine Wp.region ?_
 refine Ops.pv (pv_move rfl) rfl ?_
 refine Ops.ef rfl (ef_callr (tr_rslot _) rfl rfl) ?_
 rintro _ _ ⟨rfl, rfl⟩
 refine Ops.ef rfl (ef_callr (tr_rslot _) rfl rfl) ?_
 rintro _ _ ⟨rfl, rfl⟩
 refine Ops.ef rfl (ef_call (tr_mCopy _ cb1 _ ra3 ⟨_, _, _, _, hS2, hT2, rfl⟩ (by decide) (0, 1) (0, 2) 1) rfl rfl) ?_
 rintro _ _ ⟨_, _, ⟨rfl, ⟨sb2, tb2, Ls2, Lt2, hS2, hT2, rfl⟩⟩, rfl, rfl⟩
 refine Ops.app ?_
 refine Ops.nil ?_
 refine Ends.seq ?_
 refine Wp.seq ?_
 refine Wp.seq ?_
 refine Wp.region ?_
 refine Ops.pv (pv_move rfl) rfl ?_
 refine Ops.ef rfl (ef_callr (tr_rslot _) rfl rfl) ?_
 rintro _ _ ⟨rfl, rfl⟩
 refine Ops.ef rfl (ef_callr ((tr_rFinal _ cb1 _ ra4 ⟨_, _, _, _, hS2, hT2, rfl⟩ (0, 0)).eq (by rw [rf4])) rfl rfl) ?_
 rintro _ _ ⟨rfl, rfl⟩
 refine Ops.nil ?_
 refine Ends.seq ?_
 refine Wp.cond_false rfl ?_
 refine Wp.skip ?_
 refine Ends.seq ?_
 refine Wp.seq ?_
 refine Wp.region ?_
 refine Ops.pv (pv_move rfl) rfl ?_
 refine Ops.ef rfl (ef_callr (tr_rslot _) rfl rfl) ?_
 rintro _ _ ⟨rfl, rfl⟩
 refine Ops.ef rfl (ef_call (tr_rev4 ⟨_, _, _, _, hS2, hT2, rfl⟩ (by decide)) rfl rfl) ?_
 rintro _ _ ⟨_, _, ⟨v5, T5, H5, hs5, hC5, rfl, rfl⟩, rfl, rfl⟩
 refine Ops.app ?_
 refine Ops.pv (pv_move rfl) rfl ?_
 refine Ops.pv (pv_extract rfl rfl) rfl ?_
 refine Ops.pv (pv_extract rfl rfl) rfl ?_
 refine Ops.pv (pv_extract rfl rfl) rfl ?_
 refine Ops.pv (pv_assign rfl) rfl ?_
 refine Ops.pv (pv_assign rfl) rfl ?_
 refine Ops.pv (pv_assign rfl) rfl ?_
 refine Ops.nil ?_
 refine Ends.seq ?_
 refine Wp.seq ?_
 refine Wp.region ?_
 refine Ops.pv (pv_move rfl) rfl ?_
 refine Ops.ef rfl (ef_callr (tr_rslot _) rfl rfl) ?_
 rintro _ _ ⟨rfl, rfl⟩
 refine Ops.ef rfl (ef_call (tr_rev5 hC5 (by decide)) rfl rfl) ?_
 rintro _ _ ⟨_, _, ⟨v6, T6, H6, hs6, hC6, rfl, rfl⟩, rfl, rfl⟩
 refine Ops.app ?_
 refine Ops.pv (pv_move rfl) rfl ?_
 refine Ops.pv (pv_extract rfl rfl) rfl ?_
 refine Ops.pv (pv_extract rfl rfl) rfl ?_
 refine Ops.pv (pv_extract rfl rfl) rfl ?_
 refine Ops.pv (pv_assign rfl) rfl ?_
 refine Ops.pv (pv_assign rfl) rfl ?_
 refine Ops.pv (pv_assign rfl) rfl ?_
 refine Ops.nil ?_
 refine Ends.seq ?_
 refine Wp.seq ?_
 refine Wp.seq ?_
 refine Wp.region ?_
 refine Ops.pv (pv_move rfl) rfl ?_
 refine Ops.pv (pv_move rfl) rfl ?_
 refine Ops.pvg ⟨_, _, rfl, rfl, rfl⟩ (pv_move rfl) rfl ?_
 refine Ops.pvg ⟨_, _, rfl, rfl, rfl⟩ ((pv_neq rfl rfl).fls (by first | exact fun h => h rfl | decide | omega | assumption)) rfl ?_
 refine Ops.pv (pv_pick_false rfl rfl) rfl ?_
 refine Ops.pv (pv_move rfl) rfl ?_
 refine Ops.pvg ⟨_, _, rfl, rfl, rfl⟩ (pv_move rfl) rfl ?_
 refine Ops.pvg ⟨_, _, rfl, rfl, rfl⟩ (pv_not rfl) rfl ?_
 refine Ops.pv (pv_pick_false rfl rfl) rfl ?_
 refine Ops.pv (pv_move rfl) rfl ?_
 refine Ops.pvg ⟨_, _, rfl, rfl, rfl⟩ (pv_move rfl) rfl ?_
 refine Ops.pvg ⟨_, _, rfl, rfl, rfl⟩ ((pv_neq rfl rfl).fls (by first | exact fun h => h rfl | decide | omega | assumption)) rfl ?_
 refine Ops.pv (pv_pick_false rfl rfl) rfl ?_
 refine Ops.pv (pv_move rfl) rfl ?_
 refine Ops.pvg ⟨_, _, rfl, rfl, rfl⟩ (pv_move rfl) rfl ?_
 refine Ops.efg ⟨_, _, rfl, rfl, rfl⟩ (ef_callr (tr_rslot _) rfl rfl) ?_
 rintro _ _ ⟨rfl, rfl⟩
 refine Ops.efg ⟨_, _, rfl, rfl, rfl⟩ (ef_callr ((tr_rFinal _ cb1 _ ra6 hC6 (0, 0)).eq (by rw [rf6])) rfl rfl) ?_
 rintro _ _ ⟨rfl, rfl⟩
 refine Ops.pvg ⟨_, _, rfl, rfl, rfl⟩ (pv_not rfl) rfl ?_
 refine Ops.pv (pv_pick_false rfl rfl) rfl ?_
 refine Ops.nil ?_
 refine Ends.seq ?_
 refine Wp.cond_false rfl ?_
 refine Wp.skip ?_
 refine Ends.seq ?_
 refine Wp.seq ?_
 refine Wp.region ?_
 refine Ops.pv (pv_move rfl) rfl ?_
 refine Ops.ef rfl (ef_callr (tr_rslot _) rfl rfl) ?_
 rintro _ _ ⟨rfl, rfl⟩
 refine Ops.ef rfl (ef_call (tr_del6 hC6 (by decide)) rfl rfl) ?_
 rintro _ _ ⟨_, _, ⟨v7, T7, H7, hs7, ⟨sb7, tb7, Ls7, Lt7, hS7, hT7, rfl⟩, rfl, rfl⟩, rfl, rfl⟩
 refine Ops.app ?_
 obtain ⟨p7, q7, rfl⟩ := hs7.form
 refine Ops.pv (pv_move rfl) rfl ?_
 refine Ops.pv (pv_extract rfl rfl) rfl ?_
 refine Ops.pv (pv_extract rfl rfl) rfl ?_
 refine Ops.pv (pv_extract rfl rfl) rfl ?_
 refine Ops.pv (pv_assign rfl) rfl ?_
 refine Ops.pv (pv_assign rfl) rfl ?_
 refine Ops.pv (pv_assign rfl) rfl ?_
 refine Ops.nil ?_
 refine Ends.seq ?_
 refine Wp.seq ?_
 refine Wp.region ?_
 refine Ops.pv (pv_move rfl) rfl ?_
 refine Ops.pv (pv_loadK [_, _, _, _, _, _] rfl rfl rfl ⟨rfl, rfl, rfl, rfl, rfl, rfl, trivial⟩) rfl ?_
 refine Ops.ef rfl (ef_buildSlice1 (k := 6) rfl rfl rfl rfl rfl) ?_
 rintro _ _ ⟨b2, rfl, rfl⟩
 refine Ops.ef rfl (ef_callr ((tr_sameCaps (T7 ++ (b2, .cells [.int .i64 6, .int .i64 9, .int .i64 3, .int .u64 0, .int .u64 0, .int .i64 0].toArray 24) :: []) _ _ _ _ [rc] [rc] (hs7.view.mono (by intro p hp; simp [hp])) ((view_lit (n := 1) rfl).mono (by intro p hp; rw [List.mem_singleton] at hp; subst hp; exact List.mem_append_right _ (List.mem_singleton.2 rfl))) (by decide)).eq (r' := .bool true) (by rw [decide_eq_true rfl])) rfl rfl) ?_
 rintro _ _ ⟨rfl, rfl⟩
 refine Ops.pv (pv_move rfl) rfl ?_
 refine Ops.pvg ⟨_, _, rfl, rfl, rfl⟩ (pv_move rfl) rfl ?_
 refine Ops.pv (pv_pick_true rfl rfl) rfl ?_
 refine Ops.pv (pv_move rfl) rfl ?_
 refine Ops.pvg ⟨_, _, rfl, rfl, rfl⟩ (pv_move rfl) rfl ?_
 refine Ops.pvg ⟨_, _, rfl, rfl, rfl⟩ ((pv_eql rfl rfl).tru (by first | rfl | decide | omega | assumption | (simp; done) | (simp; omega))) rfl ?_
 refine Ops.pv (pv_pick_true rfl rfl) rfl ?_
 refine Ops.pv (pv_move rfl) rfl ?_
 refine Ops.pvg ⟨_, _, rfl, rfl, rfl⟩ (pv_move rfl) rfl ?_
 refine Ops.pvg ⟨_, _, rfl, rfl, rfl⟩ (pv_nilCheck rfl) rfl ?_
 refine Ops.pvg ⟨_, _, rfl, rfl, rfl⟩ (pv_fieldAddr0 rfl rfl) rfl ?_
 refine Ops.pvg ⟨_, _, rfl, rfl, rfl⟩ (pv_fieldAddr0 rfl rfl) rfl ?_
 refine Ops.pvg ⟨_, _, rfl, rfl, rfl⟩ (pv_load rfl rfl rfl) rfl ?_
 refine Ops.efg ⟨_, _, rfl, rfl, rfl⟩ (ef_call (sf_full hS7) rfl rfl) ?_
 rintro _ _ ⟨_, _, ⟨C1, hc1, rfl⟩, rfl, rfl⟩
 refine Ops.app ?_
 rw [rfl7] at hc1
 obtain ⟨pp1, qq1, rfl⟩ := hc1.form
 refine Ops.pvg ⟨_, _, rfl, rfl, rfl⟩ (pv_len_slice (T := 41) rfl rfl) rfl ?_
 refine Ops.pvg ⟨_, _, rfl, rfl, rfl⟩ ((pv_eql rfl rfl).tru (by first | rfl | decide | omega | assumption | (simp; done) | (simp; omega))) rfl ?_
 refine Ops.pv (pv_pick_true rfl rfl) rfl ?_
 refine Ops.pv (pv_assign rfl) rfl ?_
 refine Ops.nil ?_
 refine Ends.seq ?_
 refine Wp.ret ?_
 exact Ends.ret (res1 rfl rfl) ⟨rfl, rfl⟩
end Go.Proofs.Ytdodfnjmkpgdbaa
end
section
set_option linter.unusedVariables false
set_option linter.unusedSimpArgs false
set_option linter.unusedSectionVars false
namespace Go.Proofs.Ytdodfnjmkpgdbaa
open Go.SL
structure OpR where
  o : OpC
  steps : Int
def OpR.cells (x : OpR) : List Value := x.o.cells ++ [.int .i64 x.steps]
end Go.Proofs.Ytdodfnjmkpgdbaa
end
section
set_option linter.unusedVariables false
set_option linter.unusedSimpArgs false
set_option linter.unusedSectionVars false
namespace Go.Proofs.Ytdodfnjmkpgdbaa
open Go.SL
theorem Away.keep {t t' : TS} {way : List SlotM} {s : SlotM} {b : Bool} (h : Away t way s b t') : POk t.p → ∀ z, z ∈ way → z ≠ s → (dget t'.p.l z).1 = (dget t.p.l z).1 := by
 induction h with
 | spent _ _ => exact fun _ _ _ _ => rfl
 | step _ _ => intro h z _ hz; rw [stepT_get h, if_neg hz]
 | @fall t t' way s x hin _ ih =>
  intro h z hz _
  exact ih h z (List.mem_append_left _ hz) (fun e => (innerM_some hin).2.1 (e ▸ hz))
 | @next t t1 t' way s x b hin ha _ ih1 ih2 =>
  intro h z hz hzs
  rw [ih2 (ha.ok h) z hz hzs, ih1 h z (List.mem_append_left _ hz) (fun e => (innerM_some hin).2.1 (e ▸ hz))]
theorem full_step {t : TS} (h : POk t.p) {s : SlotM} (hk : (dget t.p.l s).1.kind ≠ 0) : (dfull (stepT t s).p.l).length + 1 = (dfull t.p.l).length := by
 rw [dfull_step h]
 exact filter_ne_len (dfull_nodup h.rel) ((mem_dfull h.rel).2 hk)
theorem Away.ends {t t' : TS} {way : List SlotM} {s : SlotM} {b : Bool} (h : Away t way s b t') : POk t.p → s ∈ way → (dget t.p.l s).1.kind ≠ 0 →
    (b = false → t'.n = 0 ∧ (dget t'.p.l s).1 = (dget t.p.l s).1) ∧ (b = true → (dget t'.p.l s).1 = CapM.zero) ∧ (dfull t'.p.l).length + t.n = (dfull t.p.l).length + t'.n := by
  induction h with
  | spent _ h0 => exact fun _ _ _ => ⟨fun _ => ⟨h0, rfl⟩, (fun e => by cases e), rfl⟩
  | @step t way s _ h0 =>
    intro h _ hk
    refine ⟨(fun e => by cases e), fun _ => by rw [stepT_get h, if_pos rfl], ?_⟩
    have := full_step h hk
    show _ + t.n = _ + (t.n - 1)
    omega
  | @fall t t' way s x hin ha ih =>
    intro h hs hk
    obtain ⟨_, hxw, hxk, _⟩ := innerM_some hin
    obtain ⟨i1, _, i3⟩ := ih h (List.mem_append_right _ (List.mem_singleton.2 rfl)) hxk
    exact ⟨fun _ => ⟨(i1 rfl).1, ha.keep h s (List.mem_append_left _ hs) (fun e => hxw (e ▸ hs))⟩, (fun e => by cases e), i3⟩
  | @next t t1 t' way s x b hin ha _ ih1 ih2 =>
    intro h hs hk
    obtain ⟨_, hxw, hxk, _⟩ := innerM_some hin
    obtain ⟨_, _, i3⟩ := ih1 h (List.mem_append_right _ (List.mem_singleton.2 rfl)) hxk
    have hg := ha.keep h s (List.mem_append_left _ hs) (fun e => hxw (e ▸ hs))
    obtain ⟨j1, j2, j3⟩ := ih2 (ha.ok h) hs (by rw [hg]; exact hk)
    exact ⟨fun e => ⟨(j1 e).1, by rw [(j1 e).2, hg]⟩, j2, by omega⟩
theorem stepT_wok {t : TS} (h : WOk t.p) (s : SlotM) : WOk (stepT t s).p := by
 unfold stepT; dsimp only
 split
 ·
  exact (h.take s).clear _
 ·
  exact h.take s
theorem Away.wok {t t' : TS} {way : List SlotM} {s : SlotM} {b : Bool} (h : Away t way s b t') : WOk t.p → WOk t'.p := by
 induction h with
 | spent _ _ => exact id
 | step _ _ => exact fun h => stepT_wok h _
 | fall _ _ ih => exact ih
 | next _ _ _ ih1 ih2 => exact fun h => ih2 (ih1 h)
theorem revS_len {s : SlotM} : ∀ (m : Nat) {p : PS}, WOk p → m ≤ (ftKin p.F s).length → (dfull (revS p s m).l).length + m = (dfull p.l).length
  | 0, p, _, _ => rfl
  | m + 1, p, h, hm => by
    cases hx : (ftKin p.F s)[(ftKin p.F s).length - 1]? with
    | none => rw [List.getElem?_eq_getElem (by omega)] at hx; cases hx
    | some x =>
      have hmem := List.mem_of_getElem? hx
      have e : revS p s (m + 1) = revS (mTake p x).2.2 s m := by conv => lhs; unfold revS; rw [hx]
      have hk : (dget p.l x).1.kind ≠ 0 := (h.ok.on x).1 (kin_in hmem).2
      have h1 := full_take_len h.ok ((mem_dfull h.ok.rel).2 hk)
      have h2 := revS_len m (p := (mTake p x).2.2) (h.take x) (by rw [kin_last h.ok hx, List.length_take]; omega)
      rw [e]; omega
end Go.Proofs.Ytdodfnjmkpgdbaa
end
section
set_option linter.unusedVariables false
set_option linter.unusedSimpArgs false
set_option linter.unusedSectionVars false
namespace Go.Proofs.Ytdodfnjmkpgdbaa
open Go.SL
section
variable {n cb : Nat} {H : Hp} {p : PS} (hC : CapsH n p cb H) (hw : WOk p) (hn : n ≤ 2 ^ 19) {sl : SlotM} (hk : (dget p.l sl).1.kind ≠ 0) {k : Nat} (h1 : 1 ≤ k) (h2 : k ≤ 1000)
include hC hw hn hk h1 h2
theorem tr_revT (h : (ftKin p.F sl).length ≤ k) : Tr Try.prog 37 [cpP cb, slotV sl, .int .i64 k] H (fun u L' => ∃ v' T' H', Slc 24 6 v' 0 [] T' ∧ CapsH n (revS p sl (ftKin p.F sl).length) cb H' ∧ u = .tuple #[v', .bool true, .int .i64 0] ∧ L' = T' ++ H') :=
  (tr_rRevokeW n cb H p hC hw hn sl hk k h1 h2).mono fun u L' ⟨v', T', H', e1, e2, e3, e4⟩ => ⟨v', T', H', e1, by rw [show min k (ftKin p.F sl).length = (ftKin p.F sl).length by omega] at e2; exact e2, by rw [e3, decide_eq_true h, if_pos h], e4⟩
theorem tr_revF (h : ¬ (ftKin p.F sl).length ≤ k) : Tr Try.prog 37 [cpP cb, slotV sl, .int .i64 k] H (fun u L' => ∃ v' T' H', Slc 24 6 v' 0 [] T' ∧ CapsH n (revS p sl k) cb H' ∧ u = .tuple #[v', .bool false, .int .i64 11] ∧ L' = T' ++ H') :=
  (tr_rRevokeW n cb H p hC hw hn sl hk k h1 h2).mono fun u L' ⟨v', T', H', e1, e2, e3, e4⟩ => ⟨v', T', H', e1, by rw [show min k (ftKin p.F sl).length = k by omega] at e2; exact e2, by rw [e3, decide_eq_false h, if_neg h], e4⟩
end
end Go.Proofs.Ytdodfnjmkpgdbaa
end
section
set_option linter.unusedVariables false
set_option linter.unusedSimpArgs false
set_option linter.unusedSectionVars false
namespace Go.Proofs.Ytdodfnjmkpgdbaa
open Go.SL
theorem setC_radix {l : List DN} {s : SlotM} {c : CapM} (id : Int) : dradix (dsetC l s c) id = dradix l id := by
 unfold dsetC
 cases hd : dfind l s.1 with
 | none => rfl
 | some d =>
  dsimp only
  unfold dradix
  rw [dfind_set (d := d) (d' := { d with caps := d.caps.set s.2.toNat c }) rfl id hd]
  by_cases e : id = s.1
  ·
   rw [if_pos e, e, hd]
  ·
   rw [if_neg e]
theorem dput_radix {l : List DN} {s : SlotM} {c : CapM} (id : Int) : dradix (dput l s c).2 id = dradix l id := by
 unfold dput
 cases dcap? l s with
 | none => rfl
 | some x =>
  dsimp only
  split
  ·
   rfl
  ·
   split
   ·
    rfl
   ·
    split
    ·
     rfl
    ·
     exact setC_radix id
inductive Nxt (l : List DN) : List SlotM → SlotM → SlotM → Prop
  | here {way : List SlotM} {s : SlotM} : innerM l way s = none → Nxt l way s s
  | down {way : List SlotM} {s x y : SlotM} : innerM l way s = some x → Nxt l (way ++ [x]) x y → Nxt l way s y
theorem Nxt.fresh {l : List DN} {way : List SlotM} {s y : SlotM} (h : Nxt l way s y) : y = s ∨ y ∉ way := by
 induction h with
 | here _ => exact .inl rfl
 | @down way s x y hin _ ih =>
  rcases ih with rfl | h
  ·
   exact .inr (innerM_some hin).2.1
  ·
   exact .inr fun e => h (List.mem_append_left _ e)
inductive DRun (way : List SlotM) (s : SlotM) : TS → Bool → TS → Prop
  | spent {t : TS} : t.n = 0 → DRun way s t false t
  | last {t : TS} : t.n ≠ 0 → Nxt t.p.l way s s → DRun way s t true (stepT t s)
  | more {t t' : TS} {y : SlotM} {b : Bool} : t.n ≠ 0 → Nxt t.p.l way s y → y ≠ s → DRun way s (stepT t y) b t' → DRun way s t b t'
theorem stepT_pre (p : PS) (pre told : List CapM) (n : Nat) (s : SlotM) : stepT ⟨p, pre ++ told, n⟩ s = ⟨(stepT ⟨p, told, n⟩ s).p, pre ++ (stepT ⟨p, told, n⟩ s).told, (stepT ⟨p, told, n⟩ s).n⟩ := by
 unfold stepT; dsimp only
 congr 1
 split
 ·
  rw [List.append_assoc]
 ·
  rfl
theorem DRun.told {way : List SlotM} {s : SlotM} {t t' : TS} {b : Bool} (h : DRun way s t b t') (pre : List CapM) : DRun way s ⟨t.p, pre ++ t.told, t.n⟩ b ⟨t'.p, pre ++ t'.told, t'.n⟩ := by
 induction h with
 | spent h0 => exact .spent h0
 | @last t h0 hn =>
  have := DRun.last (way := way) (s := s) (t := ⟨t.p, pre ++ t.told, t.n⟩) h0 hn
  rw [stepT_pre] at this; exact this
 | @more t t' y b h0 hn hy _ ih =>
  refine .more (y := y) h0 hn hy ?_
  rw [stepT_pre]; exact ih
theorem DRun.zero {way : List SlotM} {s : SlotM} {t t' : TS} {b : Bool} (h : DRun way s t b t') : b = false → t'.n = 0 := by
 induction h with
 | spent h0 => exact fun _ => h0
 | last _ _ => exact fun e => by cases e
 | more _ _ _ _ ih => exact ih
end Go.Proofs.Ytdodfnjmkpgdbaa
end
section
set_option linter.unusedVariables false
set_option linter.unusedSimpArgs false
set_option linter.unusedSectionVars false
namespace Go.Proofs.Ytdodfnjmkpgdbaa
open Go.SL
theorem dget_in {l : List DN} (h : HasS l) {s : SlotM} (hr : dradix l s.1 ≠ 0) (h0 : 0 ≤ s.2) (h1 : s.2 < 2 ^ (dradix l s.1).toNat) : (dget l s).2 = 0 := by
 obtain ⟨S, hR⟩ := h
 unfold dradix at hr h1
 cases e : dfind l s.1 with
 | none => rw [e] at hr; exact absurd rfl hr
 | some d =>
  rw [e] at h1
  obtain ⟨n, _, h2, h3, h4, _⟩ := rel_find hR e
  dsimp only at h1
  rw [Int.toNat_natCast, h2] at h1
  have h5 : s.2 < d.caps.length := by rw [h4]; exact_mod_cast h1
  unfold dget dcap?
  rw [e]
  dsimp only
  rw [if_pos ⟨h0, h5⟩, List.getElem?_eq_getElem (by omega)]
theorem plant_l {p : PS} {s : SlotM} {c : CapM} (h : (mPlant p s c).1 = 0) : (mPlant p s c).2.l = (dput p.l s c).2 ∧ (dput p.l s c).1 = 0 := ⟨rfl, h⟩
theorem plant_does {p : PS} (h : POk p) {s : SlotM} {c : CapM} (h0 : (mPlant p s c).1 = 0) :
    (∀ id, dradix (mPlant p s c).2.l id = dradix p.l id) ∧ (dget p.l s).1.kind = 0 ∧ c.kind ≠ 0 ∧ (∀ x, (dget (mPlant p s c).2.l x).1 = if x = s then c else (dget p.l x).1) ∧ (dfull (mPlant p s c).2.l).length = (dfull p.l).length + 1 := by
  obtain ⟨e1, e2⟩ := plant_l h0
  obtain ⟨h2, h3, h4, h5⟩ := (put_iff h.rel).1 e2
  have hg : ∀ x, (dget (mPlant p s c).2.l x).1 = if x = s then c else (dget p.l x).1 := fun x => by
    rw [e1, put_get h.rel e2]
    split <;> rfl
  refine ⟨fun id => by rw [e1]; exact dput_radix id, h3, h5, hg, ?_⟩
  have hq := (h.plant s c).rel
  have hs : s ∈ dfull (mPlant p s c).2.l := (mem_dfull hq).2 (by rw [hg, if_pos rfl]; exact h5)
  have hf : (dfull (mPlant p s c).2.l).filter (fun z => decide (z ≠ s)) = dfull p.l := by
    refine sorted_ext ((dfull_sorted hq).filter _) (dfull_sorted h.rel) fun x => ?_
    rw [List.mem_filter, mem_dfull hq, mem_dfull h.rel, hg]
    by_cases e : x = s
    · subst e; simp [h3]
    · rw [if_neg e]; simp [e]
  rw [← filter_ne_len (dfull_nodup hq) hs, hf]
end Go.Proofs.Ytdodfnjmkpgdbaa
end
section
set_option linter.unusedVariables false
set_option linter.unusedSimpArgs false
set_option linter.unusedSectionVars false
namespace Go.Proofs.Ytdodfnjmkpgdbaa
open Go.SL
theorem full_all {p : PS} (h : POk p) : (dfull p.l).length = p.F.all.length := ((List.perm_ext_iff_of_nodup (dfull_nodup h.rel) h.nd).2 fun x => by rw [mem_dfull h.rel, h.on]).length_eq
def cpC : CapM := ⟨4, 7, 7, 0, 0, 0⟩
theorem cpC_rg : cpC.Rg := ⟨by unfold i64R cpC; decide, by unfold u64R cpC; decide, by unfold u64R cpC; decide⟩
structure CoI (n : Nat) (p : PS) : Prop where
  wok : WOk p
  rad : dradix p.l 0 = 4
  get : ∀ x : SlotM, (dget p.l x).1 = if x.1 = 0 ∧ 0 ≤ x.2 ∧ x.2 < n then cpC else CapM.zero
  root : ∃ c, p.F = .cons (0, 0) c .nil
  len : p.F.all.length = n
def co1 : PS := (mNode PS.new 0 4).2
def co2 : PS := (mPlant co1 (0, 0) cpC).2
theorem co1_ok : WOk co1 := wok_new.node 0 4
theorem co2_0 : (mPlant co1 (0, 0) cpC).1 = 0 := by kernel_rfl
theorem co_start : CoI 1 co2 where
  wok := co1_ok.plant _ cpC_rg
  rad := by kernel_rfl
  get := fun x => by
    obtain ⟨_, _, _, h, _⟩ := plant_does co1_ok.ok co2_0
    show (dget (mPlant co1 (0, 0) cpC).2.l x).1 = _
    rw [h]
    have h0 : (dget co1.l x).1 = CapM.zero := by
      show (dget (dadd [] 0 4).2 x).1 = _
      rw [aadd_get hasS_nil]; simp [dget, dcap?, dfind]
    rw [h0]
    by_cases e : x = (0, 0)
    · subst e; rfl
    · rw [if_neg e, if_neg (fun h => e (Prod.ext h.1 (by show x.2 = 0; omega)))]
  root := ⟨.nil, by kernel_rfl⟩
  len := by kernel_rfl
theorem co_derive : derive cpC 7 0 0 0 = (cpC, 0) := by kernel_rfl
theorem CoI.copy {n : Nat} {p : PS} (h : CoI n p) (hn : n < 16) {k : Nat} (hk : k < n) : (mCopy p (0, (k : Int)) (0, (n : Int)) 7).1 = 0 ∧ CoI (n + 1) (mCopy p (0, (k : Int)) (0, (n : Int)) 7).2 := by
 have hgk : (dget p.l (0, (k : Int))).1 = cpC := (h.get _).trans (if_pos ⟨rfl, Int.natCast_nonneg k, Int.ofNat_lt.2 hk⟩)
 have hgn : (dget p.l (0, (n : Int))).1 = CapM.zero := by rw [h.get, if_neg (fun e => absurd e.2.2 (Int.lt_irrefl _))]
 have hkk : (dget p.l (0, (k : Int))).1.kind ≠ 0 := by rw [hgk]; decide
 have hkn : (dget p.l (0, (n : Int))).1.kind = 0 := by rw [hgn]
 have hen : (dget p.l (0, (n : Int))).2 = 0 := dget_in h.wok.ok.rel (by show dradix p.l 0 ≠ 0; rw [h.rad]; decide) (by show (0 : Int) ≤ n; omega) (by show (n : Int) < 2 ^ (dradix p.l 0).toNat; rw [h.rad]; show (n : Int) < 16; omega)
 have hs := src_iff.2 hkk
 have hb : (mBoth p (0, (k : Int)) (0, (n : Int))).2 = 0 := by
  unfold mBoth; dsimp only
  rw [if_pos hs]
  unfold mPlace
  rw [if_neg (fun e => e.2 hkn)]; exact hen
 obtain ⟨e1, _⟩ := both_ok hb
 rw [hgk] at e1
 have hput : (dput p.l (0, (n : Int)) cpC).1 = 0 := (put_iff h.wok.ok.rel).2 ⟨hen, hkn, by kernel_rfl, by decide⟩
 have hm : mCopy p (0, (k : Int)) (0, (n : Int)) 7 = (0, ⟨(dput p.l (0, (n : Int)) cpC).2, p.F.addc (0, (k : Int)) (0, (n : Int))⟩) := by
  unfold mCopy mMint
  rw [if_neg (by rw [hb]; decide), e1, hgk, show cpC.guard = 0 from rfl, show cpC.bits = 0 from rfl, co_derive, if_neg (by decide)]
  unfold mChild
  rw [if_neg (by rw [hb]; decide), hput, if_pos rfl, child_F h.wok.ok hkk hkn]
 have hw := h.wok.copy (0, (k : Int)) (0, (n : Int)) (r := 7) (by unfold i64R; decide)
 rw [hm] at hw ⊢
 refine ⟨rfl, hw, by rw [← h.rad]; exact dput_radix 0, fun x => ?_, ?_, ?_⟩
 ·
  show (dget (dput p.l (0, (n : Int)) cpC).2 x).1 = _
  rw [put_get h.wok.ok.rel hput]
  by_cases e : x = (0, (n : Int))
  ·
   rw [if_pos e, if_pos (by rw [e]; exact ⟨rfl, by show (0 : Int) ≤ n; omega, by show (n : Int) < ((n + 1 : Nat) : Int); omega⟩)]
  ·
   rw [if_neg e, h.get]
   by_cases e2 : x.1 = 0 ∧ 0 ≤ x.2 ∧ x.2 < n
   ·
    rw [if_pos e2, if_pos ⟨e2.1, e2.2.1, by have := e2.2.2; omega⟩]
   ·
    rw [if_neg e2, if_neg (fun e3 => e2 ⟨e3.1, e3.2.1, by
     have h4 := e3.2.2
     have h5 : x.2 ≠ n := fun h6 => e (Prod.ext e3.1 h6)
     omega⟩)]
 ·
  obtain ⟨c, hc⟩ := h.root
  rw [hc]
  show ∃ c', Fo.addc _ _ (Fo.cons (0, 0) c .nil) = _
  by_cases e : ((0 : Int), (0 : Int)) = (0, (k : Int))
  ·
   exact ⟨_, by unfold Fo.addc; rw [if_pos e]⟩
  ·
   exact ⟨_, by rw [Fo.addc, if_neg e]; rfl⟩
 ·
  show (Fo.all (p.F.addc _ _)).length = _
  rw [(Fo.all_addc_perm h.wok.ok.nd ((h.wok.ok.on _).2 hkk)).length_eq, List.length_append, h.len]; rfl
theorem CoI.kin {n : Nat} {p : PS} (h : CoI n p) : (ftKin p.F (0, 0)).length + 1 = n := by
 obtain ⟨c, hc⟩ := h.root
 have hl := h.len
 rw [hc] at hl ⊢
 unfold ftKin
 rw [Fo.sub, if_pos rfl]
 simp only [Fo.all, List.length_cons, List.length_append, List.length_nil] at hl
 omega
theorem CoI.full {n : Nat} {p : PS} (h : CoI n p) : (dfull p.l).length = n := by rw [full_all h.wok.ok, h.len]
theorem CoI.k0 {n : Nat} {p : PS} (h : CoI n p) (h1 : 1 ≤ n) : (dget p.l (0, 0)).1.kind ≠ 0 := by rw [h.get, if_pos ⟨rfl, Int.le_refl _, by show (0 : Int) < n; omega⟩]; decide
theorem fin_one {p : PS} (h : POk p) {s : SlotM} (hk : (dget p.l s).1.kind ≠ 0) (h1 : (dfull p.l).length = 1) : fin p.l s := by
 obtain ⟨x, hx⟩ := List.length_eq_one_iff.1 h1
 have hm := (mem_dfull h.rel).2 hk
 rw [hx, List.mem_singleton] at hm
 subst hm
 refine ⟨hk, ?_⟩
 unfold dcount
 rw [hx]; simp
theorem CoI.fin1 {n : Nat} {p : PS} (h : CoI n p) (h1 : 1 ≤ n) : fin p.l (0, 0) ↔ n = 1 := by
 constructor
 ·
  intro hf
  refine Decidable.byContradiction fun e => ?_
  have g0 : (dget p.l (0, 0)).1 = cpC := by rw [h.get, if_pos ⟨rfl, Int.le_refl _, by show (0 : Int) < n; omega⟩]
  have g1 : (dget p.l (0, 1)).1 = cpC := by rw [h.get, if_pos ⟨rfl, by decide, by show (1 : Int) < n; omega⟩]
  exact not_fin h.wok.ok (s := (0, 1)) (x := (0, 0)) (by rw [g1]; decide) (by decide) (by rw [g0, g1]) (by rw [g0, g1]) hf
 ·
  intro e
  exact fin_one h.wok.ok (h.k0 h1) (by rw [h.full, e])
theorem CoI.ends {n : Nat} {p : PS} (h : CoI n p) (h1 : 1 ≤ n) {m : Nat} (hm : m = n - 1) : (dfull (revS p (0, 0) m).l).length = 1 ∧ fin (revS p (0, 0) m).l (0, 0) := by
 have hl := revS_len (s := (0, 0)) m h.wok (by have := h.kin; omega)
 rw [h.full] at hl
 have h2 : (dfull (revS p (0, 0) m).l).length = 1 := by omega
 refine ⟨h2, fin_one (revS_ok m h.wok).ok ?_ h2⟩
 rw [revS_get m h.wok, if_neg (fun e => kin_not h.wok.ok _ (List.mem_of_mem_drop e))]
 exact h.k0 h1
end Go.Proofs.Ytdodfnjmkpgdbaa
end
section
set_option linter.unusedVariables false
set_option linter.unusedSimpArgs false
set_option linter.unusedSectionVars false
namespace Go.Proofs.Ytdodfnjmkpgdbaa
open Go.SL
def overM (n k : Nat) : Nat := if 0 < n ∧ n % k = 0 then 1 else 0
theorem calls_eq {i j K : Nat} (h1 : 1 ≤ K) (h6 : K ≤ 6) (hj : j = 0 ∨ j * K < i) (hi : i ≤ j * K + K) : j + 1 + overM i K = i / K + 1 := by
 have : K = 1 ∨ K = 2 ∨ K = 3 ∨ K = 4 ∨ K = 5 ∨ K = 6 := by omega
 unfold overM
 rcases this with rfl | rfl | rfl | rfl | rfl | rfl <;> (split <;> omega)
theorem tr_rover (n k : Nat) (h1 : 1 ≤ k) (hn : n < 2 ^ 40) (hk : k < 2 ^ 40) : TrR Try.prog 38 [.int .i64 n, .int .i64 k] ([]) (.int .i64 (overM n k)) := by
 refine Tr.enter Try.func38 rfl Try.ntmps38 rfl (fun W F => ?_)
 refine Wp.app ?_
 refine Wp.seq ?_
 refine Wp.region ?_
 refine Ops.pv (pv_assign rfl) rfl ?_
 refine Ops.nil ?_
 refine Ends.seq ?_
 refine Wp.seq ?_
 refine Wp.seq ?_
 refine Wp.region ?_
 refine Ops.pv (pv_move rfl) rfl ?_
 refine Ops.pv (pv_gtr rfl rfl) rfl ?_
 refine Ops.pv (pv_move rfl) rfl ?_
 refine Ops.pvc rfl rfl (fun hg => pv_move rfl) rfl ?_
 refine Ops.pvc rfl rfl (fun hg => Pv.setE (t := 8) rfl (cv_pos hg) (pv_move rfl)) rfl ?_
 refine Ops.pvc rfl rfl (fun hg => Pv.setE (t := 8) rfl (cv_pos hg) (Pv.setE (t := 9) rfl (cv_pos hg) (pv_rem rfl rfl (by omega) (tmod_nat (b := k) rfl)))) rfl ?_
 refine Ops.pvc rfl rfl (fun hg => Pv.setE (t := 8) rfl (cv_pos hg) (Pv.setE (t := 9) rfl (cv_pos hg) (Pv.setE (t := 10) rfl (cv_pos hg) (pv_eql rfl rfl)))) rfl ?_
 refine Ops.pv (pv_pick_and rfl rfl) rfl ?_
 refine Ops.nil ?_
 refine Ends.seq ?_
 refine Wp.cond_dect rfl (fun h1 => ?_) (fun h1 => ?_)
 ·
  refine Wp.seq ?_
  refine Wp.region ?_
  refine Ops.pv (pv_assign rfl) rfl ?_
  refine Ops.nil ?_
  refine Ends.seq ?_
  refine Wp.ret ?_
  refine Ends.then_ret ?_
  have he : overM n k = 1 := by unfold overM; rw [if_pos (by omega)]
  rw [he]
  exact Ends.ret (res1 rfl rfl) ⟨rfl, rfl⟩
 refine Wp.skip ?_
 refine Ends.seq ?_
 refine Wp.seq ?_
 refine Wp.region ?_
 refine Ops.pv (pv_assign rfl) rfl ?_
 refine Ops.nil ?_
 refine Ends.seq ?_
 refine Wp.ret ?_
 have he : overM n k = 0 := by unfold overM; rw [if_neg (by omega)]
 rw [he]
 exact Ends.ret (res1 rfl rfl) ⟨rfl, rfl⟩
set_option maxHeartbeats 8000000 in
theorem tr_revokeCopies (G : Hp) (a : Option Addr) (c : Nat) (l : List Int) (ha : ArgS G 1 a (l.map fun x => [Value.int .i64 x])) (hl : l.length ≤ maxLen) (steps : Int) : TrR Try.prog 8 [.slice a l.length c, .int .i64 steps] (G) (.bool true) := by
 obtain ⟨K, hK⟩ : ∃ K, K = 1 + uI steps % 6 := ⟨_, rfl⟩
 have hu6 : uI steps % 6 < 6 := Nat.mod_lt _ (by decide)
 have hK1 : 1 ≤ K := by omega
 have hK6 : K ≤ 6 := by omega
 refine Tr.enter Try.func8 rfl Try.ntmps8 rfl (fun W F => ?_)
 refine Wp.app ?_
 refine Wp.seq ?_
 refine Wp.region ?_
 refine Ops.pv (pv_assign rfl) rfl ?_
 refine Ops.nil ?_
 refine Ends.seq ?_
 refine Wp.seq ?_
 refine Wp.seq ?_
 refine Wp.region ?_
 refine Ops.ef rfl (ef_callr (tr_rworks) rfl rfl) ?_
 rintro _ _ ⟨rfl, rfl⟩
 refine Ops.pv (pv_not rfl) rfl ?_
 refine Ops.nil ?_
 refine Ends.seq ?_
 refine Wp.cond_false rfl ?_
 refine Wp.skip ?_
 refine Ends.seq ?_
 refine Wp.seq ?_
 refine Wp.region ?_
 refine Ops.pv (pv_move rfl) rfl ?_
 refine Ops.pv (pv_conv rfl (uI_eq steps)) rfl ?_
 refine Ops.pv (pv_rem rfl rfl (by decide) (tmod_nat (b := 6) rfl)) rfl ?_
 refine Ops.pv (pv_conv rfl (w64n (k := uI steps % 6) rfl (by omega))) rfl ?_
 refine Ops.pv (pv_add rfl rfl (w64n (k := K) (by omega) (by omega))) rfl ?_
 refine Ops.pv (pv_assign rfl) rfl ?_
 refine Ops.nil ?_
 refine Ends.seq ?_
 refine Wp.seq ?_
 refine Wp.region ?_
 refine Ops.ef rfl (ef_call (tr_mNew) rfl rfl) ?_
 rintro _ _ ⟨_, _, ⟨cb1, rfl, sb0, tb0, Ls0, Lt0, hS0, hT0, rfl⟩, rfl, rfl⟩
 refine Ops.app ?_
 refine Ops.pv (pv_assign rfl) rfl ?_
 refine Ops.nil ?_
 refine Ends.seq ?_
 refine Wp.seq ?_
 refine Wp.region ?_
 refine Ops.pv (pv_move rfl) rfl ?_
 refine Ops.pv (pv_nilCheck rfl) rfl ?_
 refine Ops.pv (pv_fieldAddr0 rfl rfl) rfl ?_
 refine Ops.pv (pv_loadK [_] rfl rfl rfl ⟨rfl, trivial⟩) rfl ?_
 refine Ops.ef rfl (ef_call (tr_smNode _ sb0 Ls0 hS0 0 4) rfl rfl) ?_
 rintro _ _ ⟨_, Q1, ⟨rfl, hS2⟩, rfl, rfl⟩
 refine Ops.app ?_
 skip
 refine Ops.nil ?_
 refine Ends.seq ?_
 refine Wp.seq ?_
 refine Wp.region ?_
 refine Ops.pv (pv_move rfl) rfl ?_
 refine Ops.ef rfl (ef_callr (tr_rslot _) rfl rfl) ?_
 rintro _ _ ⟨rfl, rfl⟩
 refine Ops.pv (pv_build rfl) rfl ?_
 refine Ops.ef rfl (ef_call (tr_mPlant _ cb1 _ co1 ⟨_, _, _, _, hS2, hT0, rfl⟩ (0, 0) cpC) rfl rfl) ?_
 rintro _ _ ⟨_, Q2, ⟨rfl, hC2⟩, rfl, rfl⟩
 refine Ops.app ?_
 skip
 refine Ops.nil ?_
 refine Ends.seq ?_
 refine Wp.seq ?_
 refine Wp.region ?_
 refine Ops.pv (pv_assign rfl) rfl ?_
 refine Ops.nil ?_
 refine Ends.seq ?_
 refine Wp.seq ?_
 refine Wp.seq ?_
 refine Wp.region ?_
 refine Ops.pv (pv_assign rfl) rfl ?_
 refine Ops.nil ?_
 refine Ends.seq ?_
 refine Wp.block ?_
 refine Wp.loopK (σ := Nat × PS × Hp) [(0, _), (1, _), (5, _)] (fun s => [(6, .int .i64 ((s.1 + 1 : Nat) : Int)), (7, .int .i64 s.1)]) (fun s => s.2.2 ++ (G ++ F)) (fun s => s.1 ≤ l.length ∧ s.1 ≤ 15 ∧ CapsH (s.1 + 1) s.2.1 cb1 s.2.2 ∧ CoI (s.1 + 1) s.2.1) (fun s => l.length - s.1) (0, co2, Q2) ⟨Nat.zero_le _, Nat.zero_le _, hC2, co_start⟩ ⟨rfl, rfl, rfl, trivial⟩ ⟨rfl, rfl, trivial⟩ (by intro w ho; (try dsimp only [List.nil_append, List.cons_append]); exact Drop.own ho) ?_
 rintro ⟨i, p, H⟩ KK ⟨hi, hi2, hCp, hco⟩ hK
 dsimp only [List.cons_append, List.nil_append] at hK ⊢
 dsimp only at hi hi2 hCp hco ⊢
 refine Wp.seq ?_
 refine Wp.seq ?_
 refine Wp.region ?_
 refine Ops.pv (pv_move rfl) rfl ?_
 refine Ops.pv (pv_move rfl) rfl ?_
 refine Ops.pv (pv_len_slice (T := 58) rfl rfl) rfl ?_
 refine Ops.pv (pv_lss rfl rfl) rfl ?_
 refine Ops.pv (pv_move rfl) rfl ?_
 refine Ops.pvc rfl rfl (fun hg => pv_move rfl) rfl ?_
 refine Ops.pvc rfl rfl (fun hg => Pv.setE (t := 35) rfl (cv_pos hg) (pv_lss rfl rfl)) rfl ?_
 refine Ops.pv (pv_pick_and rfl rfl) rfl ?_
 refine Ops.nil ?_
 refine Ends.seq ?_
 refine Wp.cond_dect rfl (fun h1 => ?_) (fun h1 => ?_)
 ·
  obtain ⟨q, hq⟩ : ∃ q, l[i]? = some q := ⟨_, List.getElem?_eq_getElem (by omega)⟩
  obtain ⟨_, b, o, cc, T, f, rfl, hmm, hr⟩ := ha i [.int .i64 q] (by rw [List.getElem?_map, hq]; rfl)
  have hbg : Blk G b (.cells cc.toArray T f) := ⟨hmm⟩
  obtain ⟨k, hk⟩ : ∃ k, k = uI q % (i + 1) := ⟨_, rfl⟩
  have hkl : k < i + 1 := by rw [hk]; exact Nat.mod_lt _ (by omega)
  have hkI : (uI q : Int).tmod ((i + 1 : Nat) : Int) = (k : Int) := by rw [hk]; exact tmod_nat rfl
  obtain ⟨hc0, hco2⟩ := hco.copy (by omega) hkl
  refine Wp.skip ?_
  refine Ends.seq ?_
  refine Wp.seq ?_
  refine Wp.block ?_
  refine Wp.seq ?_
  refine Wp.seq ?_
  refine Wp.region ?_
  refine Ops.pv (pv_move rfl) rfl ?_
  refine Ops.pv (pv_move rfl) rfl ?_
  refine Ops.pv (pv_move rfl) rfl ?_
  refine Ops.pv (pv_indexAddr (i := i) rfl rfl rfl (by omega)) rfl ?_
  refine Ops.pv (pv_load rfl rfl hr.1) rfl ?_
  refine Ops.pv (pv_conv rfl (uI_eq q)) rfl ?_
  refine Ops.pv (pv_move rfl) rfl ?_
  refine Ops.pv (pv_conv rfl (u64n (k := i + 1) rfl (by omega))) rfl ?_
  refine Ops.pv (pv_rem rfl rfl (by omega) hkI) rfl ?_
  refine Ops.pv (pv_conv rfl (w64n (k := k) rfl (by omega))) rfl ?_
  refine Ops.ef rfl (ef_callr (tr_rslot _) rfl rfl) ?_
  rintro _ _ ⟨rfl, rfl⟩
  refine Ops.pv (pv_move rfl) rfl ?_
  refine Ops.ef rfl (ef_callr (tr_rslot _) rfl rfl) ?_
  rintro _ _ ⟨rfl, rfl⟩
  refine Ops.ef rfl (ef_call (tr_mCopy _ cb1 _ p hCp (by omega) (0, (k : Int)) (0, ((i + 1 : Nat) : Int)) 7) rfl rfl) ?_
  rintro _ _ ⟨_, R1, ⟨rfl, hC3⟩, rfl, rfl⟩
  refine Ops.app ?_
  skip
  refine Ops.pv ((pv_neq rfl rfl).fls (fun h => h hc0)) rfl ?_
  refine Ops.nil ?_
  refine Ends.seq ?_
  refine Wp.cond_false rfl ?_
  refine Wp.skip ?_
  refine Ends.seq ?_
  refine Wp.region ?_
  refine Ops.pv (pv_move rfl) rfl ?_
  refine Ops.pv (pv_add rfl rfl (w64n (k := i + 1 + 1) (by omega) (by omega))) rfl ?_
  refine Ops.pv (pv_assign rfl) rfl ?_
  refine Ops.nil ?_
  refine Ends.block_normal ?_
  refine Ends.seq ?_
  refine Wp.region ?_
  refine Ops.pv (pv_move rfl) rfl ?_
  refine Ops.pv (pv_add rfl rfl (w64n (k := i + 1) (by omega) (by omega))) rfl ?_
  refine Ops.pv (pv_assign rfl) rfl ?_
  refine Ops.nil ?_
  refine Ends.goes ?_
  refine Goes.back (hK (i + 1, (mCopy p (0, (k : Int)) (0, ((i + 1 : Nat) : Int)) 7).2, R1) ⟨by dsimp only; omega, by dsimp only; omega, hC3, hco2⟩ (by dsimp only; omega)) ⟨rfl, rfl, rfl, rfl, rfl, trivial⟩
 refine Wp.exit ?_
 refine Ends.then_exit ?_
 refine Ends.then_exit ?_
 refine Ends.block_hit ?_
 refine Ends.seq ?_
 refine Wp.seq ?_
 refine Wp.seq ?_
 refine Wp.region ?_
 refine Ops.pv (pv_move rfl) rfl ?_
 refine Ops.ef rfl (ef_callr (tr_rslot _) rfl rfl) ?_
 rintro _ _ ⟨rfl, rfl⟩
 refine Ops.ef rfl (ef_callr ((tr_rFinal _ cb1 _ p hCp (0, 0)).eq (r' := .bool (decide (((i + 1 : Nat) : Int) = 1))) (by rw [show decide (fin p.l (0, 0)) = decide (((i + 1 : Nat) : Int) = 1) from decide_eq_decide.2 ((hco.fin1 (by omega)).trans (by omega))])) rfl rfl) ?_
 rintro _ _ ⟨rfl, rfl⟩
 refine Ops.pv (pv_move rfl) rfl ?_
 refine Ops.pv (pv_eql rfl rfl) rfl ?_
 refine Ops.pv ((pv_neq_bool rfl rfl).is (u := .bool false) (by first | rfl | (simp; done) | simp_all)) rfl ?_
 refine Ops.nil ?_
 refine Ends.seq ?_
 refine Wp.cond_false rfl ?_
 refine Wp.skip ?_
 refine Ends.seq ?_
 refine Wp.seq ?_
 refine Wp.region ?_
 refine Ops.pv (pv_assign rfl) rfl ?_
 refine Ops.nil ?_
 refine Ends.seq ?_
 refine Wp.seq ?_
 refine Wp.seq ?_
 refine Wp.region ?_
 refine Ops.pv (pv_assign rfl) rfl ?_
 refine Ops.nil ?_
 refine Ends.seq ?_
 refine Wp.block ?_
 have hw0 := hco.wok
 have hk0 := hco.k0 (by omega)
 have hkin := hco.kin
 refine Wp.loopK (σ := Nat × Hp) [(1, _), (5, _), (6, _)] (fun s => [(8, .int .i64 s.1), (9, .int .i64 s.1)]) (fun s => s.2 ++ (G ++ F)) (fun s => (s.1 = 0 ∨ s.1 * K < i) ∧ CapsH (i + 1) (revS p (0, 0) (s.1 * K)) cb1 s.2) (fun s => 20 - s.1) (0, H) ⟨.inl rfl, by rw [Nat.zero_mul]; exact hCp⟩ ⟨rfl, rfl, rfl, trivial⟩ ⟨rfl, rfl, trivial⟩ (by intro w ho; (try dsimp only [List.nil_append, List.cons_append]); exact Drop.own ho) ?_
 rintro ⟨j, Hj⟩ KK ⟨hij, hCj⟩ hK
 dsimp only [List.cons_append, List.nil_append] at hK ⊢
 dsimp only at hij hCj ⊢
 have hjK : j * K ≤ i := by rcases hij with rfl | h; exact (by simp); exact Nat.le_of_lt h
 have hwj : WOk (revS p (0, 0) (j * K)) := revS_ok _ hw0
 have hkj : (dget (revS p (0, 0) (j * K)).l (0, 0)).1.kind ≠ 0 := by rw [revS_get _ hw0, if_neg (fun e => kin_not hw0.ok _ (List.mem_of_mem_drop e))]; exact hk0
 have hkl : (ftKin (revS p (0, 0) (j * K)).F (0, 0)).length = i - j * K := by rw [revS_kin _ hw0, List.length_take]; omega
 refine Wp.seq ?_
 refine Wp.seq ?_
 refine Wp.region ?_
 refine Ops.pv (pv_move rfl) rfl ?_
 refine Ops.pv (pv_lss rfl rfl) rfl ?_
 refine Ops.nil ?_
 refine Ends.seq ?_
 refine Wp.cond_dect rfl (fun h2 => ?_) (fun h2 => (by exfalso; have := Nat.le_mul_of_pos_right j hK1; omega))
 rcases Classical.em ((ftKin (revS p (0, 0) (j * K)).F (0, 0)).length ≤ K) with hb | hb
 ·
  refine Wp.skip ?_
  refine Ends.seq ?_
  refine Wp.seq ?_
  refine Wp.block ?_
  refine Wp.seq ?_
  refine Wp.region ?_
  refine Ops.pv (pv_move rfl) rfl ?_
  refine Ops.pv (pv_add rfl rfl (w64n (k := j + 1) (by omega) (by omega))) rfl ?_
  refine Ops.pv (pv_assign rfl) rfl ?_
  refine Ops.nil ?_
  refine Ends.seq ?_
  refine Wp.seq ?_
  refine Wp.region ?_
  refine Ops.pv (pv_move rfl) rfl ?_
  refine Ops.ef rfl (ef_callr (tr_rslot _) rfl rfl) ?_
  rintro _ _ ⟨rfl, rfl⟩
  refine Ops.pv (pv_move rfl) rfl ?_
  refine Ops.ef rfl (ef_call (tr_revT hCj hwj (by omega) hkj (k := K) (by omega) (by omega) hb) rfl rfl) ?_
  rintro _ _ ⟨_, _, ⟨v2, T2, H2, hs2, ⟨sb3, tb3, Ls3, Lt3, hS3, hT3, rfl⟩, rfl, rfl⟩, rfl, rfl⟩
  refine Ops.app ?_
  try rw [List.cons_append, List.append_assoc]
  have hre : revS (revS p (0, 0) (j * K)) (0, 0) (ftKin (revS p (0, 0) (j * K)).F (0, 0)).length = revS p (0, 0) i := by rw [hkl, revS_add]; congr 1; omega
  rw [hre] at hS3 hT3
  have hfe := hco.ends (by omega) (m := i) (by omega)
  have hf1 := hfe.1
  have hce := calls_eq hK1 hK6 hij (by omega)
  obtain ⟨Q, hQ⟩ : ∃ Q, Q = i / K := ⟨_, rfl⟩
  rw [← hQ] at hce
  have hQi : Q ≤ i := by rw [hQ]; exact Nat.div_le_self _ _
  obtain ⟨pz, qz, rfl⟩ := hs2.form
  refine Ops.pv (pv_move rfl) rfl ?_
  refine Ops.pv (pv_extract rfl rfl) rfl ?_
  refine Ops.pv (pv_extract rfl rfl) rfl ?_
  refine Ops.pv (pv_extract rfl rfl) rfl ?_
  refine Ops.pv (pv_assign rfl) rfl ?_
  refine Ops.pv (pv_assign rfl) rfl ?_
  refine Ops.pv (pv_assign rfl) rfl ?_
  refine Ops.nil ?_
  refine Ends.seq ?_
  refine Wp.seq ?_
  refine Wp.seq ?_
  refine Wp.region ?_
  refine Ops.pv (pv_move rfl) rfl ?_
  refine Ops.pv (pv_len_slice (T := 63) rfl rfl) rfl ?_
  refine Ops.pv ((pv_neq rfl rfl).fls (by first | exact fun h => h rfl | decide | omega | assumption)) rfl ?_
  refine Ops.nil ?_
  refine Ends.seq ?_
  refine Wp.cond_false rfl ?_
  refine Wp.skip ?_
  refine Ends.seq ?_
  refine Wp.seq ?_
  refine Wp.region ?_
  refine Ops.pv (pv_move rfl) rfl ?_
  refine Ops.nil ?_
  refine Ends.seq ?_
  refine Wp.cond_true rfl ?_
  refine Wp.exit ?_
  refine Ends.block_miss rfl ?_
  refine Ends.then_exit ?_
  refine Ends.then_exit ?_
  refine Ends.block_hit ?_
  refine Ends.seq ?_
  refine Wp.seq ?_
  refine AnyH.startL 28 rfl ?_
  refine Tk 0 rfl rfl (pv_move rfl) rfl ?_
  refine Tk 1 rfl rfl (pv_nilCheck rfl) rfl ?_
  refine Tk 2 rfl rfl (pv_fieldAddr0 rfl rfl) rfl ?_
  refine Tk 3 rfl rfl (pv_fieldAddr0 rfl rfl) rfl ?_
  refine Tk 4 rfl rfl (pv_load rfl rfl rfl) rfl ?_
  refine AnyH.one 5 (by kernel_rfl) ?_
  refine Turn.ef rfl rfl (ef_call (sf_full hS3) rfl rfl) ?_ ?_
  ·
   rintro _ _ ⟨_, _, ⟨C1, hc1, rfl⟩, rfl, rfl⟩; infer_instance
  rintro _ _ ⟨_, _, ⟨C1, hc1, rfl⟩, rfl, rfl⟩
  refine AnyH.app ?_
  obtain ⟨pp1, qq1, rfl⟩ := hc1.form
  refine Tk 6 rfl rfl (pv_len_slice (T := 41) rfl rfl) rfl ?_
  refine Tk 7 rfl rfl ((pv_eql rfl rfl).tru (by first | rfl | decide | omega | assumption | (simp; done) | (simp; omega))) rfl ?_
  refine Tk 8 rfl rfl (pv_move rfl) rfl ?_
  refine Tk 9 rfl ⟨_, _, rfl, rfl, rfl⟩ (pv_move rfl) rfl ?_
  refine AnyH.one 10 (by kernel_rfl) ?_
  refine Turn.ef rfl ⟨_, _, rfl, rfl, rfl⟩ (ef_callr (tr_rslot _) rfl rfl) ?_ ?_
  ·
   rintro _ _ ⟨rfl, rfl⟩; infer_instance
  rintro _ _ ⟨rfl, rfl⟩
  refine AnyH.one 11 (by kernel_rfl) ?_
  refine Turn.ef rfl ⟨_, _, rfl, rfl, rfl⟩ (ef_callr ((tr_rFinal _ cb1 _ _ ⟨_, _, _, _, hS3, hT3, rfl⟩ (0, 0)).eq (r' := .bool true) (by rw [decide_eq_true hfe.2])) rfl rfl) ?_ ?_
  ·
   rintro _ _ ⟨rfl, rfl⟩; infer_instance
  rintro _ _ ⟨rfl, rfl⟩
  refine Tk 12 rfl rfl (pv_pick_true rfl rfl) rfl ?_
  refine Tk 13 rfl rfl (pv_move rfl) rfl ?_
  refine Tk 14 rfl ⟨_, _, rfl, rfl, rfl⟩ (pv_move rfl) rfl ?_
  refine Tk 15 rfl ⟨_, _, rfl, rfl, rfl⟩ (pv_move rfl) rfl ?_
  refine Tk 16 rfl ⟨_, _, rfl, rfl, rfl⟩ (pv_sub rfl rfl (w64n (k := i) (by omega) (by omega))) rfl ?_
  refine Tk 17 rfl ⟨_, _, rfl, rfl, rfl⟩ (pv_move rfl) rfl ?_
  refine Tk 18 rfl ⟨_, _, rfl, rfl, rfl⟩ (pv_quo rfl rfl (by omega) (w64n (k := Q) (by rw [hQ]; rfl) (by omega))) rfl ?_
  refine Tk 19 rfl ⟨_, _, rfl, rfl, rfl⟩ (pv_add rfl rfl (w64n (k := Q + 1) (by omega) (by omega))) rfl ?_
  refine Tk 20 rfl ⟨_, _, rfl, rfl, rfl⟩ (pv_move rfl) rfl ?_
  refine Tk 21 rfl ⟨_, _, rfl, rfl, rfl⟩ (pv_sub rfl rfl (w64n (k := i) (by omega) (by omega))) rfl ?_
  refine Tk 22 rfl ⟨_, _, rfl, rfl, rfl⟩ (pv_move rfl) rfl ?_
  refine AnyH.one 23 (by kernel_rfl) ?_
  refine Turn.ef rfl ⟨_, _, rfl, rfl, rfl⟩ (ef_callr (tr_rover i K hK1 (by omega) (by omega)) rfl rfl) ?_ ?_
  ·
   rintro _ _ ⟨rfl, rfl⟩; infer_instance
  rintro _ _ ⟨rfl, rfl⟩
  refine Tk 24 rfl ⟨_, _, rfl, rfl, rfl⟩ (pv_sub rfl rfl (w64n (k := j + 1) (by omega) (by omega))) rfl ?_
  refine Tk 25 rfl ⟨_, _, rfl, rfl, rfl⟩ ((pv_eql rfl rfl).tru (by first | rfl | decide | omega | assumption | (simp; done) | (simp; omega))) rfl ?_
  refine Tk 26 rfl rfl (pv_pick_true rfl rfl) rfl ?_
  refine Tk 27 rfl rfl (pv_assign rfl) rfl ?_
  refine AnyH.done (by kernel_rfl) ?_
  refine Ends.seq ?_
  refine Wp.ret ?_
  exact Ends.ret (res1 rfl rfl) ⟨rfl, rfl⟩
 refine Wp.skip ?_
 refine Ends.seq ?_
 refine Wp.seq ?_
 refine Wp.block ?_
 refine Wp.seq ?_
 refine Wp.region ?_
 refine Ops.pv (pv_move rfl) rfl ?_
 refine Ops.pv (pv_add rfl rfl (w64n (k := j + 1) (by omega) (by omega))) rfl ?_
 refine Ops.pv (pv_assign rfl) rfl ?_
 refine Ops.nil ?_
 refine Ends.seq ?_
 refine Wp.seq ?_
 refine Wp.region ?_
 refine Ops.pv (pv_move rfl) rfl ?_
 refine Ops.ef rfl (ef_callr (tr_rslot _) rfl rfl) ?_
 rintro _ _ ⟨rfl, rfl⟩
 refine Ops.pv (pv_move rfl) rfl ?_
 refine Ops.ef rfl (ef_call (tr_revF hCj hwj (by omega) hkj (k := K) (by omega) (by omega) hb) rfl rfl) ?_
 rintro _ _ ⟨_, _, ⟨v2, T2, H2, hs2, hC2, rfl, rfl⟩, rfl, rfl⟩
 refine Ops.app ?_
 obtain ⟨pz, qz, rfl⟩ := hs2.form
 refine Ops.pv (pv_move rfl) rfl ?_
 refine Ops.pv (pv_extract rfl rfl) rfl ?_
 refine Ops.pv (pv_extract rfl rfl) rfl ?_
 refine Ops.pv (pv_extract rfl rfl) rfl ?_
 refine Ops.pv (pv_assign rfl) rfl ?_
 refine Ops.pv (pv_assign rfl) rfl ?_
 refine Ops.pv (pv_assign rfl) rfl ?_
 refine Ops.nil ?_
 refine Ends.seq ?_
 refine Wp.seq ?_
 refine Wp.seq ?_
 refine Wp.region ?_
 refine Ops.pv (pv_move rfl) rfl ?_
 refine Ops.pv (pv_len_slice (T := 63) rfl rfl) rfl ?_
 refine Ops.pv ((pv_neq rfl rfl).fls (by first | exact fun h => h rfl | decide | omega | assumption)) rfl ?_
 refine Ops.nil ?_
 refine Ends.seq ?_
 refine Wp.cond_false rfl ?_
 refine Wp.skip ?_
 refine Ends.seq ?_
 refine Wp.seq ?_
 refine Wp.region ?_
 refine Ops.pv (pv_move rfl) rfl ?_
 refine Ops.nil ?_
 refine Ends.seq ?_
 refine Wp.cond_false rfl ?_
 refine Wp.skip ?_
 refine Ends.block_normal ?_
 refine Ends.seq ?_
 refine Wp.region ?_
 refine Ops.pv (pv_move rfl) rfl ?_
 refine Ops.pv (pv_add rfl rfl (w64n (k := j + 1) (by omega) (by omega))) rfl ?_
 refine Ops.pv (pv_assign rfl) rfl ?_
 refine Ops.nil ?_
 refine Ends.goes ?_
 refine Goes.back (hK (j + 1, H2) ⟨.inr (by dsimp only; rw [Nat.succ_mul]; omega), by dsimp only; rw [Nat.succ_mul, ← revS_add]; exact hC2⟩ (by dsimp only; omega)) ⟨rfl, rfl, rfl, rfl, rfl, trivial⟩
end Go.Proofs.Ytdodfnjmkpgdbaa
end
