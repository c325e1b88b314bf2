/- RevokeChain. Laid together by pack.py out of the texts in wip. -/
import Derived.Test.YtdodfnjmkpgdbaaPRevokeChain3
set_option linter.unusedVariables false
set_option linter.unusedSimpArgs false
set_option linter.unusedSectionVars false
section
set_option linter.unusedVariables false
set_option linter.unusedSimpArgs false
set_option linter.unusedSectionVars false
namespace Go.Proofs.Ytdodfnjmkpgdbaa
open Go.SL
theorem wok_new : WOk PS.new := by
 have hz : ∀ s, (dget PS.new.l s).1 = CapM.zero := fun s => by simp [PS.new, dget, dcap?, dfind]
 refine ⟨⟨hasS_nil, List.nodup_nil, fun s => ?_⟩, fun s => ?_, fun t x hx => ?_⟩
 ·
  show s ∈ ([] : List SlotM) ↔ _
  rw [hz]; simp [CapM.zero]
 ·
  rw [hz]; exact zero_rg
 cases (kin_in hx).1
def rc : CapM := ⟨6, 9, 3, 0, 0, 0⟩
theorem rc_rg : rc.Rg := ⟨by unfold i64R rc; decide, by unfold u64R rc; decide, by unfold u64R rc; decide⟩
def ra1 : PS := (mNode PS.new 0 3).2
def ra2 : PS := (mPlant ra1 (0, 0) rc).2
def ra3 : PS := (mCopy ra2 (0, 0) (0, 1) 3).2
def ra4 : PS := (mCopy ra3 (0, 1) (0, 2) 1).2
def ra5 : PS := revS ra4 (0, 0) 1
def ra6 : PS := revS ra5 (0, 0) 1
def ra7 : PS := (mTake ra6 (0, 0)).2.2
theorem raw4 : WOk ra4 := (((wok_new.node 0 3).plant (0, 0) rc_rg).copy (0, 0) (0, 1) (by unfold i64R; decide)).copy (0, 1) (0, 2) (by unfold i64R; decide)
theorem raw5 : WOk ra5 := revS_ok 1 raw4
theorem raw6 : WOk ra6 := revS_ok 1 raw5
theorem rk4 : (dget ra4.l (0, 0)).1.kind = 6 := by kernel_rfl
theorem rk5 : (dget ra5.l (0, 0)).1.kind = 6 := by kernel_rfl
theorem rl4 : (ftKin ra4.F (0, 0)).length = 2 := by kernel_rfl
theorem rl5 : (ftKin ra5.F (0, 0)).length = 1 := by kernel_rfl
theorem rf4 : decide (fin ra4.l (0, 0)) = false := by kernel_rfl
theorem rf6 : decide (fin ra6.l (0, 0)) = true := by kernel_rfl
theorem rg6 : (dget ra6.l (0, 0)).1 = rc := by kernel_rfl
theorem rfl7 : dfull ra7.l = [] := by kernel_rfl
theorem rad1 : (dadd PS.new.l 0 3).1 = 0 := by kernel_rfl
theorem tr_rev4 {n cb : Nat} {H : Hp} (hC : CapsH n ra4 cb H) (hn : n ≤ 2 ^ 19) : Tr Try.prog 37 [cpP cb, slotV (0, 0), .int .i64 1] H (fun u L' => ∃ v' T' H', Slc 24 6 v' 0 [] T' ∧ CapsH n ra5 cb H' ∧ u = .tuple #[v', .bool false, .int .i64 11] ∧ L' = T' ++ H') :=
  (tr_rRevokeW n cb H ra4 hC raw4 hn (0, 0) (by rw [rk4]; decide) 1 (by decide) (by decide)).mono fun u L' ⟨v', T', H', h1, h2, h3, h4⟩ => ⟨v', T', H', h1, by rw [rl4] at h2; exact h2, by rw [rl4] at h3; exact h3, h4⟩
theorem tr_rev5 {n cb : Nat} {H : Hp} (hC : CapsH n ra5 cb H) (hn : n ≤ 2 ^ 19) : Tr Try.prog 37 [cpP cb, slotV (0, 0), .int .i64 1] H (fun u L' => ∃ v' T' H', Slc 24 6 v' 0 [] T' ∧ CapsH n ra6 cb H' ∧ u = .tuple #[v', .bool true, .int .i64 0] ∧ L' = T' ++ H') :=
  (tr_rRevokeW n cb H ra5 hC raw5 hn (0, 0) (by rw [rk5]; decide) 1 (by decide) (by decide)).mono fun u L' ⟨v', T', H', h1, h2, h3, h4⟩ => ⟨v', T', H', h1, by rw [rl5] at h2; exact h2, by rw [rl5] at h3; exact h3, h4⟩
theorem tr_del6 {n cb : Nat} {H : Hp} (hC : CapsH n ra6 cb H) (hn : n ≤ 2 ^ 19) : Tr Try.prog 33 [cpP cb, slotV (0, 0), .int .i64 9] H (fun u L' => ∃ v' T' H', Slc 24 6 v' [rc].length (cel CapM.cells [rc]) T' ∧ CapsH n ra7 cb H' ∧ u = .tuple #[v', .bool true, .int .i64 0] ∧ L' = T' ++ H') :=
  (tr_rDelete n cb H ra6 hC raw6.ok hn (0, 0) 9).mono fun u L' h => by
    have hk : (dget ra6.l (0, 0)).1.kind = 6 := by rw [rg6]; rfl
    rcases h with ⟨h0, _⟩ | ⟨_, b, t', v', T', H', hA, hI, rfl, rfl⟩
    · exact absurd (rvErr_0 (by rw [hk]; decide) (by decide) (by decide)) h0
    · have hin : innerM ra6.l [(0, 0)] (0, 0) = none := by unfold innerM; rw [if_neg (fun h => by rw [hk] at h; exact absurd h.1 (by decide))]
      cases hA with
      | spent _ h0 => exact absurd h0 (by decide)
      | step _ h0 =>
        have he := stepT_f (t := ⟨ra6, [], (9 : Int).toNat⟩) (s := (0, 0)) (of_decide_eq_true rf6) (by show ¬ (dget ra6.l (0, 0)).1.kind = 2; rw [hk]; decide)
        rw [he] at hI
        obtain ⟨h1, h2, _, _⟩ := hI
        simp only [rg6, List.nil_append] at h2
        exact ⟨v', T', H', h2, h1, rfl, rfl⟩
      | fall h2 _ => rw [hin] at h2; cases h2
      | next h2 _ _ => rw [hin] at h2; cases h2
set_option maxHeartbeats 4000000 in
theorem tr_rworks  : TrR Try.prog 32 [] ([]) (.bool true) := by
 refine Tr.enter Try.func32 rfl Try.ntmps32 rfl (fun W F => ?_)
 refine Wp.app ?_
 refine Wp.seq ?_
 refine Wp.region ?_
 refine Ops.pv (pv_assign rfl) rfl ?_
 refine Ops.nil ?_
 refine Ends.seq ?_
 refine Wp.seq ?_
 refine Wp.region ?_
 refine Ops.ef rfl (ef_call (tr_mNew) rfl rfl) ?_
 rintro _ _ ⟨_, _, ⟨cb1, rfl, ⟨sb0, tb0, Ls0, Lt0, hS0, hT0, rfl⟩⟩, rfl, rfl⟩
 refine Ops.app ?_
 refine Ops.pv (pv_assign rfl) rfl ?_
 refine Ops.nil ?_
 refine Ends.seq ?_
 refine Wp.seq ?_
 refine Wp.seq ?_
 refine Wp.region ?_
 refine Ops.pv (pv_move rfl) rfl ?_
 refine Ops.pv (pv_eql_nil rfl rfl) rfl ?_
 refine Ops.pv (pv_move rfl) rfl ?_
 refine Ops.pvg ⟨_, _, rfl, rfl, rfl⟩ (pv_move rfl) rfl ?_
 refine Ops.pvg ⟨_, _, rfl, rfl, rfl⟩ (pv_nilCheck rfl) rfl ?_
 refine Ops.pvg ⟨_, _, rfl, rfl, rfl⟩ (pv_fieldAddr0 rfl rfl) rfl ?_
 refine Ops.pvg ⟨_, _, rfl, rfl, rfl⟩ (pv_loadK [_] rfl rfl rfl ⟨rfl, trivial⟩) rfl ?_
 refine Ops.efg ⟨_, _, rfl, rfl, rfl⟩ (ef_call (tr_smNode _ sb0 Ls0 hS0 0 3) rfl rfl) ?_
 rintro _ _ ⟨_, Q1, ⟨rfl, hS2⟩, rfl, rfl⟩
 refine Ops.app ?_
 skip
 refine Ops.pvg ⟨_, _, rfl, rfl, rfl⟩ ((pv_neq rfl rfl).fls (fun h => h rad1)) rfl ?_
 refine Ops.pv (pv_pick_false rfl rfl) rfl ?_
 refine Ops.nil ?_
 refine Ends.seq ?_
 refine Wp.cond_false rfl ?_
 refine Wp.skip ?_
 refine Ends.seq ?_
 refine Wp.seq ?_
 refine Wp.region ?_
 refine Ops.pv (pv_build rfl) rfl ?_
 refine Ops.ef rfl (ef_allocK tyZ24 rfl) ?_
 rintro _ _ ⟨b1, rfl, rfl⟩
 refine Ops.ef rfl (ef_storeK rfl rfl rfl rfl) ?_
 rintro _ _ ⟨rfl, rfl⟩
 refine Ops.nil ?_
 refine Ends.seq ?_
 refine Wp.seq ?_
 refine AnyH.start ((b1, .cells [.int .i64 6, .int .i64 9, .int .i64 3, .int .u64 0, .int .u64 0, .int .i64 0].toArray 24) :: []) 4 rfl ?_
 refine Tk 0 rfl rfl (pv_move rfl) rfl ?_
 refine Tk 2 rfl rfl (pv_loadK [_, _, _, _, _, _] rfl rfl rfl ⟨rfl, rfl, rfl, rfl, rfl, rfl, trivial⟩) rfl ?_
 refine AnyH.one 1 (by kernel_rfl) ?_
 refine Turn.ef rfl rfl (ef_callr (tr_rslot _) rfl rfl) ?_ ?_
 ·
  rintro _ _ ⟨rfl, rfl⟩; infer_instance
 rintro _ _ ⟨rfl, rfl⟩
 refine AnyH.one 3 (by kernel_rfl) ?_
 refine Turn.ef rfl rfl (ef_call (tr_mPlant _ cb1 _ ra1 ⟨_, _, _, _, hS2, hT0, rfl⟩ (0, 0) rc) rfl rfl) ?_ ?_
 ·
  rintro _ _ ⟨_, _, ⟨rfl, ⟨sb2, tb2, Ls2, Lt2, hS2, hT2, rfl⟩⟩, rfl, rfl⟩; infer_instance
 rintro _ _ ⟨_, _, ⟨rfl, ⟨sb2, tb2, Ls2, Lt2, hS2, hT2, rfl⟩⟩, rfl, rfl⟩
 refine AnyH.app ?_
 refine AnyH.done (by kernel_rfl) ?_
 refine Ends.seq ?_
 refine Wp.seq ?_
 refine Wp.region ?_
 refine Ops.pv (pv_move rfl) rfl ?_
 refine Ops.ef rfl (ef_callr (tr_rslot _) rfl rfl) ?_
 rintro _ _ ⟨rfl, rfl⟩
 refine Ops.ef rfl (ef_callr (tr_rslot _) rfl rfl) ?_
 rintro _ _ ⟨rfl, rfl⟩
 refine Ops.ef rfl (ef_call (tr_mCopy _ cb1 _ ra2 ⟨_, _, _, _, hS2, hT2, rfl⟩ (by decide) (0, 0) (0, 1) 3) rfl rfl) ?_
 rintro _ _ ⟨_, _, ⟨rfl, ⟨sb2, tb2, Ls2, Lt2, hS2, hT2, rfl⟩⟩, rfl, rfl⟩
 refine Ops.app ?_
 refine Ops.nil ?_
 refine Ends.seq ?_
 refine Wp.seq ?_
 refine Wp.region ?_
 refine Ops.pv (pv_move rfl) rfl ?_
 refine Ops.ef rfl (ef_callr (tr_rslot _) rfl rfl) ?_
 rintro _ _ ⟨rfl, rfl⟩
 refine Ops.ef rfl (ef_callr (tr_rslot _) rfl rfl) ?_
 rintro _ _ ⟨rfl, rfl⟩
 refine Ops.ef rfl (ef_call (tr_mCopy _ cb1 _ ra3 ⟨_, _, _, _, hS2, hT2, rfl⟩ (by decide) (0, 1) (0, 2) 1) rfl rfl) ?_
 rintro _ _ ⟨_, _, ⟨rfl, ⟨sb2, tb2, Ls2, Lt2, hS2, hT2, rfl⟩⟩, rfl, rfl⟩
 refine Ops.app ?_
 refine Ops.nil ?_
 refine Ends.seq ?_
 refine Wp.seq ?_
 refine Wp.seq ?_
 refine Wp.region ?_
 refine Ops.pv (pv_move rfl) rfl ?_
 refine Ops.ef rfl (ef_callr (tr_rslot _) rfl rfl) ?_
 rintro _ _ ⟨rfl, rfl⟩
 refine Ops.ef rfl (ef_callr ((tr_rFinal _ cb1 _ ra4 ⟨_, _, _, _, hS2, hT2, rfl⟩ (0, 0)).eq (by rw [rf4])) rfl rfl) ?_
 rintro _ _ ⟨rfl, rfl⟩
 refine Ops.nil ?_
 refine Ends.seq ?_
 refine Wp.cond_false rfl ?_
 refine Wp.skip ?_
 refine Ends.seq ?_
 refine Wp.seq ?_
 refine Wp.region ?_
 refine Ops.pv (pv_move rfl) rfl ?_
 refine Ops.ef rfl (ef_callr (tr_rslot _) rfl rfl) ?_
 rintro _ _ ⟨rfl, rfl⟩
 refine Ops.ef rfl (ef_call (tr_rev4 ⟨_, _, _, _, hS2, hT2, rfl⟩ (by decide)) rfl rfl) ?_
 rintro _ _ ⟨_, _, ⟨v5, T5, H5, hs5, hC5, rfl, rfl⟩, rfl, rfl⟩
 refine Ops.app ?_
 refine Ops.pv (pv_move rfl) rfl ?_
 refine Ops.pv (pv_extract rfl rfl) rfl ?_
 refine Ops.pv (pv_extract rfl rfl) rfl ?_
 refine Ops.pv (pv_extract rfl rfl) rfl ?_
 refine Ops.pv (pv_assign rfl) rfl ?_
 refine Ops.pv (pv_assign rfl) rfl ?_
 refine Ops.pv (pv_assign rfl) rfl ?_
 refine Ops.nil ?_
 refine Ends.seq ?_
 refine Wp.seq ?_
 refine Wp.region ?_
 refine Ops.pv (pv_move rfl) rfl ?_
 refine Ops.ef rfl (ef_callr (tr_rslot _) rfl rfl) ?_
 rintro _ _ ⟨rfl, rfl⟩
 refine Ops.ef rfl (ef_call (tr_rev5 hC5 (by decide)) rfl rfl) ?_
 rintro _ _ ⟨_, _, ⟨v6, T6, H6, hs6, hC6, rfl, rfl⟩, rfl, rfl⟩
 refine Ops.app ?_
 refine Ops.pv (pv_move rfl) rfl ?_
 refine Ops.pv (pv_extract rfl rfl) rfl ?_
 refine Ops.pv (pv_extract rfl rfl) rfl ?_
 refine Ops.pv (pv_extract rfl rfl) rfl ?_
 refine Ops.pv (pv_assign rfl) rfl ?_
 refine Ops.pv (pv_assign rfl) rfl ?_
 refine Ops.pv (pv_assign rfl) rfl ?_
 refine Ops.nil ?_
 refine Ends.seq ?_
 refine Wp.seq ?_
 refine Wp.seq ?_
 refine Wp.region ?_
 refine Ops.pv (pv_move rfl) rfl ?_
 refine Ops.pv (pv_move rfl) rfl ?_
 refine Ops.pvg ⟨_, _, rfl, rfl, rfl⟩ (pv_move rfl) rfl ?_
 refine Ops.pvg ⟨_, _, rfl, rfl, rfl⟩ ((pv_neq rfl rfl).fls (by first | exact fun h => h rfl | decide | omega | assumption)) rfl ?_
 refine Ops.pv (pv_pick_false rfl rfl) rfl ?_
 refine Ops.pv (pv_move rfl) rfl ?_
 refine Ops.pvg ⟨_, _, rfl, rfl, rfl⟩ (pv_move rfl) rfl ?_
 refine Ops.pvg ⟨_, _, rfl, rfl, rfl⟩ (pv_not rfl) rfl ?_
 refine Ops.pv (pv_pick_false rfl rfl) rfl ?_
 refine Ops.pv (pv_move rfl) rfl ?_
 refine Ops.pvg ⟨_, _, rfl, rfl, rfl⟩ (pv_move rfl) rfl ?_
 refine Ops.pvg ⟨_, _, rfl, rfl, rfl⟩ ((pv_neq rfl rfl).fls (by first | exact fun h => h rfl | decide | omega | assumption)) rfl ?_
 refine Ops.pv (pv_pick_false rfl rfl) rfl ?_
 refine Ops.pv (pv_move rfl) rfl ?_
 refine Ops.pvg ⟨_, _, rfl, rfl, rfl⟩ (pv_move rfl) rfl ?_
 refine Ops.efg ⟨_, _, rfl, rfl, rfl⟩ (ef_callr (tr_rslot _) rfl rfl) ?_
 rintro _ _ ⟨rfl, rfl⟩
 refine Ops.efg ⟨_, _, rfl, rfl, rfl⟩ (ef_callr ((tr_rFinal _ cb1 _ ra6 hC6 (0, 0)).eq (by rw [rf6])) rfl rfl) ?_
 rintro _ _ ⟨rfl, rfl⟩
 refine Ops.pvg ⟨_, _, rfl, rfl, rfl⟩ (pv_not rfl) rfl ?_
 refine Ops.pv (pv_pick_false rfl rfl) rfl ?_
 refine Ops.nil ?_
 refine Ends.seq ?_
 refine Wp.cond_false rfl ?_
 refine Wp.skip ?_
 refine Ends.seq ?_
 refine Wp.seq ?_
 refine Wp.region ?_
 refine Ops.pv (pv_move rfl) rfl ?_
 refine Ops.ef rfl (ef_callr (tr_rslot _) rfl rfl) ?_
 rintro _ _ ⟨rfl, rfl⟩
 refine Ops.ef rfl (ef_call (tr_del6 hC6 (by decide)) rfl rfl) ?_
 rintro _ _ ⟨_, _, ⟨v7, T7, H7, hs7, ⟨sb7, tb7, Ls7, Lt7, hS7, hT7, rfl⟩, rfl, rfl⟩, rfl, rfl⟩
 refine Ops.app ?_
 obtain ⟨p7, q7, rfl⟩ := hs7.form
 refine Ops.pv (pv_move rfl) rfl ?_
 refine Ops.pv (pv_extract rfl rfl) rfl ?_
 refine Ops.pv (pv_extract rfl rfl) rfl ?_
 refine Ops.pv (pv_extract rfl rfl) rfl ?_
 refine Ops.pv (pv_assign rfl) rfl ?_
 refine Ops.pv (pv_assign rfl) rfl ?_
 refine Ops.pv (pv_assign rfl) rfl ?_
 refine Ops.nil ?_
 refine Ends.seq ?_
 refine Wp.seq ?_
 refine Wp.region ?_
 refine Ops.pv (pv_move rfl) rfl ?_
 refine Ops.pv (pv_loadK [_, _, _, _, _, _] rfl rfl rfl ⟨rfl, rfl, rfl, rfl, rfl, rfl, trivial⟩) rfl ?_
 refine Ops.ef rfl (ef_buildSlice1 (k := 6) rfl rfl rfl rfl rfl) ?_
 rintro _ _ ⟨b2, rfl, rfl⟩
 refine Ops.ef rfl (ef_callr ((tr_sameCaps (T7 ++ (b2, .cells [.int .i64 6, .int .i64 9, .int .i64 3, .int .u64 0, .int .u64 0, .int .i64 0].toArray 24) :: []) _ _ _ _ [rc] [rc] (hs7.view.mono (by intro p hp; simp [hp])) ((view_lit (n := 1) rfl).mono (by intro p hp; rw [List.mem_singleton] at hp; subst hp; exact List.mem_append_right _ (List.mem_singleton.2 rfl))) (by decide)).eq (r' := .bool true) (by rw [decide_eq_true rfl])) rfl rfl) ?_
 rintro _ _ ⟨rfl, rfl⟩
 refine Ops.pv (pv_move rfl) rfl ?_
 refine Ops.pvg ⟨_, _, rfl, rfl, rfl⟩ (pv_move rfl) rfl ?_
 refine Ops.pv (pv_pick_true rfl rfl) rfl ?_
 refine Ops.pv (pv_move rfl) rfl ?_
 refine Ops.pvg ⟨_, _, rfl, rfl, rfl⟩ (pv_move rfl) rfl ?_
 refine Ops.pvg ⟨_, _, rfl, rfl, rfl⟩ ((pv_eql rfl rfl).tru (by first | rfl | decide | omega | assumption | (simp; done) | (simp; omega))) rfl ?_
 refine Ops.pv (pv_pick_true rfl rfl) rfl ?_
 refine Ops.pv (pv_move rfl) rfl ?_
 refine Ops.pvg ⟨_, _, rfl, rfl, rfl⟩ (pv_move rfl) rfl ?_
 refine Ops.pvg ⟨_, _, rfl, rfl, rfl⟩ (pv_nilCheck rfl) rfl ?_
 refine Ops.pvg ⟨_, _, rfl, rfl, rfl⟩ (pv_fieldAddr0 rfl rfl) rfl ?_
 refine Ops.pvg ⟨_, _, rfl, rfl, rfl⟩ (pv_fieldAddr0 rfl rfl) rfl ?_
 refine Ops.pvg ⟨_, _, rfl, rfl, rfl⟩ (pv_load rfl rfl rfl) rfl ?_
 refine Ops.efg ⟨_, _, rfl, rfl, rfl⟩ (ef_call (sf_full hS7) rfl rfl) ?_
 rintro _ _ ⟨_, _, ⟨C1, hc1, rfl⟩, rfl, rfl⟩
 refine Ops.app ?_
 rw [rfl7] at hc1
 obtain ⟨pp1, qq1, rfl⟩ := hc1.form
 refine Ops.pvg ⟨_, _, rfl, rfl, rfl⟩ (pv_len_slice (T := 41) rfl rfl) rfl ?_
 refine Ops.pvg ⟨_, _, rfl, rfl, rfl⟩ ((pv_eql rfl rfl).tru (by first | rfl | decide | omega | assumption | (simp; done) | (simp; omega))) rfl ?_
 refine Ops.pv (pv_pick_true rfl rfl) rfl ?_
 refine Ops.pv (pv_assign rfl) rfl ?_
 refine Ops.nil ?_
 refine Ends.seq ?_
 refine Wp.ret ?_
 exact Ends.ret (res1 rfl rfl) ⟨rfl, rfl⟩
end Go.Proofs.Ytdodfnjmkpgdbaa
end
section
set_option linter.unusedVariables false
set_option linter.unusedSimpArgs false
set_option linter.unusedSectionVars false
namespace Go.Proofs.Ytdodfnjmkpgdbaa
open Go.SL
structure OpR where
  o : OpC
  steps : Int
def OpR.cells (x : OpR) : List Value := x.o.cells ++ [.int .i64 x.steps]
end Go.Proofs.Ytdodfnjmkpgdbaa
end
section
set_option linter.unusedVariables false
set_option linter.unusedSimpArgs false
set_option linter.unusedSectionVars false
namespace Go.Proofs.Ytdodfnjmkpgdbaa
open Go.SL
theorem full_step {t : TS} (h : POk t.p) {s : SlotM} (hk : (dget t.p.l s).1.kind ≠ 0) : (dfull (stepT t s).p.l).length + 1 = (dfull t.p.l).length := by
 rw [dfull_step h]
 exact filter_ne_len (dfull_nodup h.rel) ((mem_dfull h.rel).2 hk)
theorem Away.det {t t1 : TS} {way : List SlotM} {s : SlotM} {b : Bool} (h : Away t way s b t1) : ∀ {c : Bool} {t2 : TS}, Away t way s c t2 → b = c ∧ t1 = t2 := by
 induction h with
 | spent hi h0 =>
  intro c t2 h2
  cases h2 with
  | spent _ _ => exact ⟨rfl, rfl⟩
  | step _ h1 => exact absurd h0 h1
  | fall h1 _ => rw [hi] at h1; cases h1
  | next h1 _ _ => rw [hi] at h1; cases h1
 | step hi h0 =>
  intro c t2 h2
  cases h2 with
  | spent _ h1 => exact absurd h1 h0
  | step _ _ => exact ⟨rfl, rfl⟩
  | fall h1 _ => rw [hi] at h1; cases h1
  | next h1 _ _ => rw [hi] at h1; cases h1
 | fall hi _ ih =>
  intro c t2 h2
  cases h2 with
  | spent h1 _ => rw [hi] at h1; cases h1
  | step h1 _ => rw [hi] at h1; cases h1
  | fall h1 ha => rw [hi] at h1; cases h1; exact ih ha
  | next h1 ha _ => rw [hi] at h1; cases h1; exact absurd (ih ha).1 (by decide)
 | next hi _ _ ih1 ih2 =>
  intro c t2 h2
  cases h2 with
  | spent h1 _ => rw [hi] at h1; cases h1
  | step h1 _ => rw [hi] at h1; cases h1
  | fall h1 ha => rw [hi] at h1; cases h1; exact absurd (ih1 ha).1 (by decide)
  | next h1 ha hb => rw [hi] at h1; cases h1; obtain ⟨_, rfl⟩ := ih1 ha; exact ih2 hb
end Go.Proofs.Ytdodfnjmkpgdbaa
end
section
set_option linter.unusedVariables false
set_option linter.unusedSimpArgs false
set_option linter.unusedSectionVars false
namespace Go.Proofs.Ytdodfnjmkpgdbaa
open Go.SL
theorem setC_radix {l : List DN} {s : SlotM} {c : CapM} (id : Int) : dradix (dsetC l s c) id = dradix l id := by
 unfold dsetC
 cases hd : dfind l s.1 with
 | none => rfl
 | some d =>
  dsimp only
  unfold dradix
  rw [dfind_set (d := d) (d' := { d with caps := d.caps.set s.2.toNat c }) rfl id hd]
  by_cases e : id = s.1
  ·
   rw [if_pos e, e, hd]
  ·
   rw [if_neg e]
theorem dtake_radix {l : List DN} {s : SlotM} (id : Int) : dradix (dtake l s).2.2 id = dradix l id := by
 unfold dtake
 cases dcap? l s with
 | none => rfl
 | some x =>
  dsimp only
  split
  ·
   rfl
  ·
   exact setC_radix id
theorem dput_radix {l : List DN} {s : SlotM} {c : CapM} (id : Int) : dradix (dput l s c).2 id = dradix l id := by
 unfold dput
 cases dcap? l s with
 | none => rfl
 | some x =>
  dsimp only
  split
  ·
   rfl
  ·
   split
   ·
    rfl
   ·
    split
    ·
     rfl
    ·
     exact setC_radix id
theorem ddrop_radix {l : List DN} (h : HasS l) (id o : Int) : dradix (ddrop l id).2 o = if o = id ∧ (ddrop l id).1 = 0 then 0 else dradix l o := by
 obtain ⟨S, hR⟩ := h
 unfold ddrop
 cases e : dfind l id with
 | none => dsimp only; rw [if_neg (fun h => by have := h.2; simp at this)]
 | some d =>
  dsimp only
  split
  ·
   unfold dradix ddel
   dsimp only
   rw [dfind_del o hR.srt e]
   by_cases ho : o = id
   ·
    rw [if_pos ho, if_pos ⟨ho, rfl⟩]
   ·
    rw [if_neg ho, if_neg (fun h => ho h.1)]
  ·
   rw [if_neg (fun h => by have := h.2; simp at this)]
theorem mTake_radix {p : PS} {s : SlotM} (id : Int) : dradix (mTake p s).2.2.l id = dradix p.l id := dtake_radix id
theorem step_radix {t : TS} (h : POk t.p) {s : SlotM} {id : Int} (hn : ¬ (fin t.p.l s ∧ (dget t.p.l s).1.kind = 2 ∧ (dget t.p.l s).1.object = id)) : dradix (stepT t s).p.l id = dradix t.p.l id := by
 unfold stepT; dsimp only
 split
 ·
  rename_i hc
  show dradix (ddrop (mTake t.p s).2.2.l _).2 id = _
  rw [ddrop_radix (h.take s).rel, if_neg (fun e => hn ⟨hc.1, hc.2, e.1.symm⟩), mTake_radix]
 ·
  exact mTake_radix id
theorem dcount_step {t : TS} (h : POk t.p) {s : SlotM} (hk : (dget t.p.l s).1.kind ≠ 0) (k o : Int) : dcount t.p.l k o = dcount (stepT t s).p.l k o + if (dget t.p.l s).1.kind = k ∧ (dget t.p.l s).1.object = o then 1 else 0 := by
 have hm := (mem_dfull h.rel).2 hk
 have hnd := dfull_nodup h.rel
 have e1 : (dfull t.p.l).erase s = dfull (stepT t s).p.l := by
  rw [dfull_step h, hnd.erase_eq_filter]
  exact List.filter_congr fun x _ => by by_cases e : x = s <;> simp [e]
 unfold dcount
 rw [(List.perm_cons_erase hm).countP_eq, e1, List.countP_cons]
 congr 1
 ·
  refine List.countP_congr fun x hx => ?_
  rw [dfull_step h] at hx
  have hne := of_decide_eq_true (List.mem_filter.1 hx).2
  rw [stepT_get h, if_neg hne]
 ·
  by_cases e : (dget t.p.l s).1.kind = k ∧ (dget t.p.l s).1.object = o
  ·
   rw [if_pos e, if_pos (by simp [e.1, e.2])]
  ·
   rw [if_neg e, if_neg (fun hh => e (by simpa using hh))]
theorem fin_ne {p : PS} (h : POk p) {s y : SlotM} (hf : fin p.l s) (hy : (dget p.l y).1.kind ≠ 0) (hne : y ≠ s) : ¬ ((dget p.l y).1.kind = (dget p.l s).1.kind ∧ (dget p.l y).1.object = (dget p.l s).1.object) := fun e =>
  not_fin h (s := y) (x := s) hy (fun h => hne h.symm) e.1.symm e.2.symm hf
theorem find_less {α : Type} {l : List α} {p q : α → Bool} {x : α} (h : l.find? p = some x) (hq : ∀ z, q z = true → p z = true) (hx : q x = true) : l.find? q = some x := by
 rw [List.find?_eq_some_iff_append] at h ⊢
 obtain ⟨_, a, b, e, hb⟩ := h
 refine ⟨hx, a, b, e, fun z hz => ?_⟩
 have := hb z hz
 rw [Bool.not_eq_true'] at this ⊢
 cases hqz : q z with
 | false => rfl
 | true => rw [hq z hqz] at this; cases this
theorem persist {t : TS} {way : List SlotM} {s x y : SlotM} (h : POk t.p) (hin : innerM t.p.l way s = some x) (hs : y ≠ s) (hx : y ≠ x) (hy : (dget t.p.l y).1.kind ≠ 0) : innerM (stepT t y).p.l way s = some x := by
 obtain ⟨⟨hk, hf⟩, hxw, hxk, _⟩ := innerM_some hin
 have hne := fin_ne h hf hy hs
 have hg : (dget (stepT t y).p.l s).1 = (dget t.p.l s).1 := by rw [stepT_get h, if_neg (fun e => hs e.symm)]
 have hf' : fin (stepT t y).p.l s := by
  refine ⟨by rw [hg]; exact hf.1, ?_⟩
  have h1 := dcount_step h hy (dget t.p.l s).1.kind (dget t.p.l s).1.object
  rw [if_neg hne, hf.2] at h1
  rw [hg]; omega
 unfold innerM at hin ⊢
 rw [if_pos ⟨hk, hf⟩] at hin
 rw [hg, if_pos ⟨hk, hf'⟩]
 have hr : dradix (stepT t y).p.l (dget t.p.l s).1.object = dradix t.p.l (dget t.p.l s).1.object :=
  step_radix h (fun e => hne ⟨e.2.1.trans hk.symm, e.2.2⟩)
 unfold firstIn at hin ⊢
 rw [hr]
 split
 ·
  rename_i h0; rw [if_pos h0] at hin; cases hin
 ·
  rename_i h0
  rw [if_neg h0] at hin
  refine find_less hin (fun z hz => ?_) ?_
  ·
   have := of_decide_eq_true hz
   refine decide_eq_true ⟨this.1, fun e => this.2 ?_⟩
   rw [stepT_get h]; split
   ·
    rfl
   ·
    exact e
  ·
   refine decide_eq_true ⟨hxw, ?_⟩
   rw [stepT_get h, if_neg (fun e => hx e.symm)]; exact hxk
inductive Nxt (l : List DN) : List SlotM → SlotM → SlotM → Prop
  | here {way : List SlotM} {s : SlotM} : innerM l way s = none → Nxt l way s s
  | down {way : List SlotM} {s x y : SlotM} : innerM l way s = some x → Nxt l (way ++ [x]) x y → Nxt l way s y
theorem Nxt.fresh {l : List DN} {way : List SlotM} {s y : SlotM} (h : Nxt l way s y) : y = s ∨ y ∉ way := by
 induction h with
 | here _ => exact .inl rfl
 | @down way s x y hin _ ih =>
  rcases ih with rfl | h
  ·
   exact .inr (innerM_some hin).2.1
  ·
   exact .inr fun e => h (List.mem_append_left _ e)
theorem Nxt.fullN {l : List DN} {way : List SlotM} {s y : SlotM} (h : Nxt l way s y) : (dget l s).1.kind ≠ 0 → (dget l y).1.kind ≠ 0 := by
 induction h with
 | here _ => exact id
 | down hin _ ih => exact fun _ => ih (innerM_some hin).2.2.1
theorem Nxt.det {l : List DN} {way : List SlotM} {s y : SlotM} (h : Nxt l way s y) : ∀ {z : SlotM}, Nxt l way s z → y = z := by
 induction h with
 | here hi =>
  intro z h2
  cases h2 with
  | here _ => rfl
  | down h1 _ => rw [hi] at h1; cases h1
 | down hi _ ih =>
  intro z h2
  cases h2 with
  | here h1 => rw [hi] at h1; cases h1
  | down h1 h3 => rw [hi] at h1; cases h1; exact ih h3
inductive DRun (way : List SlotM) (s : SlotM) : TS → Bool → TS → Prop
  | spent {t : TS} : t.n = 0 → DRun way s t false t
  | last {t : TS} : t.n ≠ 0 → Nxt t.p.l way s s → DRun way s t true (stepT t s)
  | more {t t' : TS} {y : SlotM} {b : Bool} : t.n ≠ 0 → Nxt t.p.l way s y → y ≠ s → DRun way s (stepT t y) b t' → DRun way s t b t'
theorem DRun.lift {way : List SlotM} {s x : SlotM} {t t1 : TS} {b : Bool} (h : DRun (way ++ [x]) x t b t1) : POk t.p → s ∈ way → innerM t.p.l way s = some x →
    (b = false → DRun way s t false t1) ∧ (b = true → ∀ c t', DRun way s t1 c t' → DRun way s t c t') := by
  induction h with
  | spent h0 => exact fun _ _ _ => ⟨fun _ => .spent h0, fun e => by cases e⟩
  | last h0 hn =>
    intro h hs hin
    obtain ⟨_, hxw, hxk, _⟩ := innerM_some hin
    exact ⟨(fun e => by cases e), fun _ c t' hr => .more h0 (.down hin hn) (fun e => hxw (e ▸ hs)) hr⟩
  | @more t t' y b h0 hn hy _ ih =>
    intro h hs hin
    obtain ⟨_, hxw, hxk, _⟩ := innerM_some hin
    have hyw : y ∉ way ++ [x] := hn.fresh.resolve_left hy
    have hys : y ≠ s := fun e => hyw (List.mem_append_left _ (e ▸ hs))
    obtain ⟨i1, i2⟩ := ih (stepT_ok h y) hs (persist h hin hys hy (hn.fullN hxk))
    exact ⟨fun e => .more h0 (.down hin hn) hys (i1 e), fun e c t' hr => .more h0 (.down hin hn) hys (i2 e c t' hr)⟩
theorem Away.drun {t t' : TS} {way : List SlotM} {s : SlotM} {b : Bool} (h : Away t way s b t') : POk t.p → s ∈ way → DRun way s t b t' := by
 induction h with
 | spent _ h0 => exact fun _ _ => .spent h0
 | step hi h0 => exact fun _ _ => .last h0 (.here hi)
 | @fall t t' way s x hin ha ih =>
  exact fun h hs => ((ih h (List.mem_append_right _ (List.mem_singleton.2 rfl))).lift h hs hin).1 rfl
 | @next t t1 t' way s x b hin ha _ ih1 ih2 =>
  exact fun h hs => ((ih1 h (List.mem_append_right _ (List.mem_singleton.2 rfl))).lift h hs hin).2 rfl _ _ (ih2 (ha.ok h) hs)
theorem DRun.det {way : List SlotM} {s : SlotM} {t t1 : TS} {b : Bool} (h : DRun way s t b t1) : ∀ {c : Bool} {t2 : TS}, DRun way s t c t2 → b = c ∧ t1 = t2 := by
 induction h with
 | spent h0 =>
  intro c t2 h2
  cases h2 with
  | spent _ => exact ⟨rfl, rfl⟩
  | last h1 _ => exact absurd h0 h1
  | more h1 _ _ _ => exact absurd h0 h1
 | last h0 hn =>
  intro c t2 h2
  cases h2 with
  | spent h1 => exact absurd h1 h0
  | last _ _ => exact ⟨rfl, rfl⟩
  | more _ h1 h3 _ => exact absurd (h1.det hn) h3
 | more h0 hn hy _ ih =>
  intro c t2 h2
  cases h2 with
  | spent h1 => exact absurd h1 h0
  | last _ h1 => exact absurd (hn.det h1) hy
  | more _ h1 _ h3 => obtain rfl := hn.det h1; exact ih h3
theorem stepT_pre (p : PS) (pre told : List CapM) (n : Nat) (s : SlotM) : stepT ⟨p, pre ++ told, n⟩ s = ⟨(stepT ⟨p, told, n⟩ s).p, pre ++ (stepT ⟨p, told, n⟩ s).told, (stepT ⟨p, told, n⟩ s).n⟩ := by
 unfold stepT; dsimp only
 congr 1
 split
 ·
  rw [List.append_assoc]
 ·
  rfl
theorem DRun.told {way : List SlotM} {s : SlotM} {t t' : TS} {b : Bool} (h : DRun way s t b t') (pre : List CapM) : DRun way s ⟨t.p, pre ++ t.told, t.n⟩ b ⟨t'.p, pre ++ t'.told, t'.n⟩ := by
 induction h with
 | spent h0 => exact .spent h0
 | @last t h0 hn =>
  have := DRun.last (way := way) (s := s) (t := ⟨t.p, pre ++ t.told, t.n⟩) h0 hn
  rw [stepT_pre] at this; exact this
 | @more t t' y b h0 hn hy _ ih =>
  refine .more (y := y) h0 hn hy ?_
  rw [stepT_pre]; exact ih
theorem DRun.zero {way : List SlotM} {s : SlotM} {t t' : TS} {b : Bool} (h : DRun way s t b t') : b = false → t'.n = 0 := by
 induction h with
 | spent h0 => exact fun _ => h0
 | last _ _ => exact fun e => by cases e
 | more _ _ _ _ ih => exact ih
end Go.Proofs.Ytdodfnjmkpgdbaa
end
section
set_option linter.unusedVariables false
set_option linter.unusedSimpArgs false
set_option linter.unusedSectionVars false
namespace Go.Proofs.Ytdodfnjmkpgdbaa
open Go.SL
theorem dget_in {l : List DN} (h : HasS l) {s : SlotM} (hr : dradix l s.1 ≠ 0) (h0 : 0 ≤ s.2) (h1 : s.2 < 2 ^ (dradix l s.1).toNat) : (dget l s).2 = 0 := by
 obtain ⟨S, hR⟩ := h
 unfold dradix at hr h1
 cases e : dfind l s.1 with
 | none => rw [e] at hr; exact absurd rfl hr
 | some d =>
  rw [e] at h1
  obtain ⟨n, _, h2, h3, h4, _⟩ := rel_find hR e
  dsimp only at h1
  rw [Int.toNat_natCast, h2] at h1
  have h5 : s.2 < d.caps.length := by rw [h4]; exact_mod_cast h1
  unfold dget dcap?
  rw [e]
  dsimp only
  rw [if_pos ⟨h0, h5⟩, List.getElem?_eq_getElem (by omega)]
theorem dget_off {l : List DN} (h : HasS l) {s : SlotM} (hk : (dget l s).1.kind ≠ 0) : dradix l s.1 ≠ 0 ∧ 0 ≤ s.2 ∧ s.2 < 2 ^ (dradix l s.1).toNat := by
 obtain ⟨S, hR⟩ := h
 unfold dget at hk
 cases e : dcap? l s with
 | none => rw [e] at hk; exact absurd rfl hk
 | some c =>
  obtain ⟨d, hd, hs, _⟩ := dcap_some e
  obtain ⟨n, _, h2, h3, h4, hw⟩ := rel_find hR hd
  have := hw.lo
  unfold dradix
  rw [hd]
  dsimp only
  rw [Int.toNat_natCast, h2]
  refine ⟨by omega, hs.1, ?_⟩
  have h5 := hs.2
  rw [h4] at h5; exact_mod_cast h5
theorem ddrop_ok {l : List DN} (h : HasS l) {id : Int} (hr : dradix l id ≠ 0) (he : ∀ s : SlotM, s.1 = id → (dget l s).1.kind = 0) : (ddrop l id).1 = 0 := by
 unfold ddrop
 unfold dradix at hr
 cases e : dfind l id with
 | none => rw [e] at hr; exact absurd rfl hr
 | some d =>
  dsimp only
  rw [if_pos]
  rw [List.all_eq_true]
  intro c hc
  obtain ⟨i, hi, hci⟩ := List.getElem_of_mem hc
  have := he (id, (i : Int)) rfl
  unfold dget dcap? at this
  rw [show ((id, (i : Int)) : SlotM).1 = id from rfl, e] at this
  dsimp only at this
  rw [if_pos ⟨by omega, by omega⟩, Int.toNat_natCast, List.getElem?_eq_getElem hi] at this
  rw [← hci]
  exact decide_eq_true this
theorem fin_inj {p : PS} (h : POk p) {s : SlotM} (hk : (dget p.l s).1.kind ≠ 0) (hi : ∀ x, (dget p.l x).1.kind = (dget p.l s).1.kind → (dget p.l x).1.object = (dget p.l s).1.object → x = s) : fin p.l s := by
 refine ⟨hk, ?_⟩
 have hm := (mem_dfull h.rel).2 hk
 unfold dcount
 rw [(List.perm_cons_erase hm).countP_eq, List.countP_cons, if_pos (by simp)]
 have : ((dfull p.l).erase s).countP (fun z => decide ((dget p.l z).1.kind = (dget p.l s).1.kind) && decide ((dget p.l z).1.object = (dget p.l s).1.object)) = 0 := by
  rw [List.countP_eq_zero]
  intro z hz hq
  rw [Bool.and_eq_true, decide_eq_true_eq, decide_eq_true_eq] at hq
  have e := hi z hq.1 hq.2
  subst e
  rw [(dfull_nodup h.rel).erase_eq_filter] at hz
  have := (List.mem_filter.1 hz).2
  simp at this
 omega
structure ChI (n m : Nat) (p : PS) : Prop where
  ok : POk p
  mn : m ≤ n
  r0 : dradix p.l 0 = 2
  rin : ∀ id : Nat, 1 ≤ id → id ≤ m → dradix p.l id = 2
  rout : ∀ id : Nat, m < id → id ≤ n → dradix p.l id = 0
  link : ∀ id : Nat, 1 ≤ id → id ≤ m → (dget p.l ((id : Int) - 1, 1)).1 = ⟨2, id, 0, 0, 0, 0⟩
  only : ∀ s : SlotM, (dget p.l s).1.kind ≠ 0 → (∃ id : Nat, 1 ≤ id ∧ id ≤ m ∧ s = ((id : Int) - 1, 1)) ∨ ((dget p.l s).1.kind = 6 ∧ ∃ id : Nat, 1 ≤ id ∧ id ≤ m ∧ s.1 = id)
  inj : ∀ s x : SlotM, (dget p.l s).1.kind ≠ 0 → (dget p.l x).1.kind = (dget p.l s).1.kind → (dget p.l x).1.object = (dget p.l s).1.object → x = s
theorem ChI.fin {n m : Nat} {p : PS} (h : ChI n m p) {s : SlotM} (hk : (dget p.l s).1.kind ≠ 0) : fin p.l s := fin_inj h.ok hk fun x => h.inj s x hk
theorem ChI.linkk {n m : Nat} {p : PS} (h : ChI n m p) {id : Nat} (h1 : 1 ≤ id) (h2 : id ≤ m) : (dget p.l ((id : Int) - 1, 1)).1.kind = 2 := by rw [h.link id h1 h2]
theorem chain_nxt {n m : Nat} {p : PS} (h : ChI n m p) {way : List SlotM} {s y : SlotM} (hn : Nxt p.l way s y) : ∀ j : Nat, 1 ≤ j → j ≤ m → s = ((j : Int) - 1, 1) → (∀ w, w ∈ way → w.1 < j) →
    (y = ((m : Int) - 1, 1) ∧ ∀ z : SlotM, z.1 = m → (dget p.l z).1.kind = 0) ∨ (dget p.l y).1.kind = 6 := by
  induction hn with
  | @here way s hin =>
    intro j h1 h2 hs hw
    left
    subst hs
    have hk := h.linkk h1 h2
    have hob : (dget p.l ((j : Int) - 1, 1)).1.object = j := by rw [h.link j h1 h2]
    unfold innerM at hin
    rw [if_pos ⟨hk, h.fin (by rw [hk]; decide)⟩, hob] at hin
    unfold firstIn at hin
    have hr := h.rin j h1 h2
    rw [if_neg (by rw [hr]; decide), List.find?_eq_none] at hin
    have hem : ∀ z : SlotM, z.1 = j → (dget p.l z).1.kind = 0 := by
      intro z hz
      refine Decidable.byContradiction fun hkz => ?_
      obtain ⟨_, hz0, hz1⟩ := dget_off h.ok.rel hkz
      rw [hz] at hz1
      have := hin z (List.mem_map.2 ⟨z.2.toNat, List.mem_range.2 (by
        have : ((2 ^ (dradix p.l (j : Int)).toNat : Nat) : Int) = 2 ^ (dradix p.l (j : Int)).toNat := by push_cast; rfl
        omega), Prod.ext hz.symm (by show ((z.2.toNat : Nat) : Int) = z.2; omega)⟩)
      simp only [decide_eq_true_eq] at this
      exact this ⟨fun hzw => by have := hw z hzw; omega, hkz⟩
    have : j = m := by
      refine Decidable.byContradiction fun e => ?_
      have h3 := h.linkk (id := j + 1) (by omega) (by omega)
      rw [hem _ (by show ((j + 1 : Nat) : Int) - 1 = j; push_cast; omega)] at h3
      cases h3
    subst this
    exact ⟨rfl, hem⟩
  | @down way s x y hin hnx ih =>
    intro j h1 h2 hs hw
    obtain ⟨_, hxw, hxk, hx1⟩ := innerM_some hin
    subst hs
    have hob : (dget p.l ((j : Int) - 1, 1)).1.object = j := by rw [h.link j h1 h2]
    rw [hob] at hx1
    rcases h.only x hxk with ⟨id, i1, i2, rfl⟩ | ⟨hk6, _⟩
    · obtain rfl : id = j + 1 := by have : ((id : Int) - 1) = j := hx1; omega
      refine ih (j + 1) i1 i2 rfl fun w hw2 => ?_
      rcases List.mem_append.1 hw2 with h3 | h3
      · have := hw w h3; push_cast; omega
      · rw [List.mem_singleton.1 h3]; show ((j + 1 : Nat) : Int) - 1 < ((j + 1 : Nat) : Int); omega
    · right
      cases hnx with
      | here _ => exact hk6
      | down hi2 _ => have := (innerM_some hi2).1.1; rw [hk6] at this; cases this
def nodesOf (told : List CapM) : List Int := (told.filter fun x => decide (x.kind = 2)).map (·.object)
theorem chain_frame {n m : Nat} {t : TS} (h : ChI n m t.p) {y : SlotM} (hk : (dget t.p.l y).1.kind = 6) : ChI n m (stepT t y).p ∧ nodesOf (stepT t y).told = nodesOf t.told ∧ (stepT t y).told.length = t.told.length + 1 := by
 have hf := h.fin (s := y) (by rw [hk]; decide)
 have hr : ∀ id, dradix (stepT t y).p.l id = dradix t.p.l id := fun id => step_radix h.ok (fun e => by rw [hk] at e; exact absurd e.2.1 (by decide))
 have hg := stepT_get h.ok y
 have hsub : ∀ s, (dget (stepT t y).p.l s).1.kind ≠ 0 → s ≠ y ∧ (dget (stepT t y).p.l s).1 = (dget t.p.l s).1 := fun s hs => by
  rw [hg] at hs ⊢
  by_cases e : s = y
  ·
   rw [if_pos e] at hs; exact absurd rfl hs
  ·
   rw [if_neg e]; exact ⟨e, rfl⟩
 have ht : (stepT t y).told = t.told ++ [(dget t.p.l y).1] := by unfold stepT; dsimp only; rw [if_pos hf]
 refine ⟨⟨stepT_ok h.ok y, h.mn, by rw [hr]; exact h.r0, fun id h1 h2 => by rw [hr]; exact h.rin id h1 h2, fun id h1 h2 => by rw [hr]; exact h.rout id h1 h2, fun id h1 h2 => ?_, fun s hs => ?_, fun s x hs hx1 hx2 => ?_⟩, ?_, ?_⟩
 ·
  have hl := h.link id h1 h2
  rw [hg, if_neg (fun e => by rw [e] at hl; rw [hl] at hk; cases hk)]; exact hl
 ·
  obtain ⟨_, e⟩ := hsub s hs
  rw [e] at hs ⊢; exact h.only s hs
 ·
  obtain ⟨_, e⟩ := hsub s hs
  obtain ⟨_, e2⟩ := hsub x (by rw [hx1]; exact hs)
  rw [e] at hs hx1 hx2; rw [e2] at hx1 hx2
  exact h.inj s x hs hx1 hx2
 ·
  rw [ht]; unfold nodesOf; rw [List.filter_append]; simp [hk]
 ·
  rw [ht, List.length_append]; rfl
theorem chain_link {n m : Nat} {t : TS} (h : ChI n m t.p) (hm : 1 ≤ m) (he : ∀ z : SlotM, z.1 = m → (dget t.p.l z).1.kind = 0) : ChI n (m - 1) (stepT t ((m : Int) - 1, 1)).p ∧ nodesOf (stepT t ((m : Int) - 1, 1)).told = nodesOf t.told ++ [(m : Int)] ∧ (stepT t ((m : Int) - 1, 1)).told.length = t.told.length + 1 := by
 obtain ⟨k, rfl⟩ : ∃ k, m = k + 1 := ⟨m - 1, by omega⟩
 have e1 : (((k + 1 : Nat) : Int) - 1, (1 : Int)) = ((k : Int), (1 : Int)) := by rw [show ((k + 1 : Nat) : Int) - 1 = k by omega]
 have hl := h.link (k + 1) hm (Nat.le_refl _)
 rw [e1] at hl ⊢
 have hk : (dget t.p.l (k, 1)).1.kind = 2 := by rw [hl]
 have hob : (dget t.p.l (k, 1)).1.object = ((k + 1 : Nat) : Int) := by rw [hl]
 have hf := h.fin (s := (k, 1)) (by rw [hk]; decide)
 have hg := stepT_get h.ok ((k : Int), (1 : Int))
 have hsub : ∀ s, (dget (stepT t (k, 1)).p.l s).1.kind ≠ 0 → s ≠ ((k : Int), (1 : Int)) ∧ (dget (stepT t (k, 1)).p.l s).1 = (dget t.p.l s).1 := fun s hs => by
  rw [hg] at hs ⊢
  by_cases e : s = ((k : Int), (1 : Int))
  ·
   rw [if_pos e] at hs; exact absurd rfl hs
  ·
   rw [if_neg e]; exact ⟨e, rfl⟩
 have ht : (stepT t (k, 1)).told = t.told ++ [(dget t.p.l (k, 1)).1] := by unfold stepT; dsimp only; rw [if_pos hf]
 have hr : ∀ id : Int, id ≠ ((k + 1 : Nat) : Int) → dradix (stepT t (k, 1)).p.l id = dradix t.p.l id := fun id hne => step_radix h.ok (fun e => hne (e.2.2.symm.trans hob))
 have hr2 : dradix (stepT t (k, 1)).p.l ((k + 1 : Nat) : Int) = 0 := by
  have hp : (stepT t (k, 1)).p = (mClear (mTake t.p (k, 1)).2.2 (dget t.p.l (k, 1)).1.object).2 := by unfold stepT; dsimp only; rw [if_pos ⟨hf, hk⟩]
  rw [hp, hob]
  show dradix (ddrop (mTake t.p (k, 1)).2.2.l _).2 _ = 0
  have hT := (h.ok.take ((k : Int), (1 : Int))).rel
  have hd : (ddrop (mTake t.p ((k : Int), (1 : Int))).2.2.l ((k + 1 : Nat) : Int)).1 = 0 := by
   refine ddrop_ok hT ?_ ?_
   ·
    rw [mTake_radix, h.rin (k + 1) hm (Nat.le_refl _)]; decide
   ·
    intro z hz
    rw [take_F h.ok (by rw [hk]; decide)]
    show (dget (dtake t.p.l (k, 1)).2.2 z).1.kind = 0
    rw [take_get h.ok.rel (by rw [hk]; decide)]
    split
    ·
     rfl
    ·
     exact he z hz
  rw [ddrop_radix hT, if_pos ⟨rfl, hd⟩]
 have hmn := h.mn
 refine ⟨⟨stepT_ok h.ok _, by omega, by rw [hr _ (by omega)]; exact h.r0, fun id h1 h2 => by rw [hr _ (by omega)]; exact h.rin id h1 (by omega), fun id h1 h2 => ?_, fun id h1 h2 => ?_, fun s hs => ?_, fun s x hs hx1 hx2 => ?_⟩, ?_, ?_⟩
 ·
  by_cases e : id = k + 1
  ·
   subst e; exact hr2
  ·
   rw [hr _ (by omega)]; exact h.rout id (by omega) h2
 ·
  rw [hg, if_neg (fun e => by have := congrArg Prod.fst e; dsimp only at this; omega)]; exact h.link id h1 (by omega)
 ·
  obtain ⟨hne, e⟩ := hsub s hs
  rw [e] at hs ⊢
  rcases h.only s hs with ⟨id, i1, i2, rfl⟩ | ⟨h6, id, i1, i2, hid⟩
  ·
   left
   refine ⟨id, i1, ?_, rfl⟩
   refine Decidable.byContradiction fun e => hne ?_
   rw [show id = k + 1 by omega, e1]
  ·
   right
   refine ⟨h6, id, i1, ?_, hid⟩
   refine Decidable.byContradiction fun e => hs (he s (by rw [hid]; congr 1; omega))
 ·
  obtain ⟨_, e⟩ := hsub s hs
  obtain ⟨_, e2⟩ := hsub x (by rw [hx1]; exact hs)
  rw [e] at hs hx1 hx2; rw [e2] at hx1 hx2
  exact h.inj s x hs hx1 hx2
 ·
  rw [ht]; unfold nodesOf; rw [List.filter_append]; simp [hk, hob]
 ·
  rw [ht, List.length_append]; rfl
def toldTo (n m : Nat) : List Int := (List.range (n - m)).map fun (i : Nat) => (n : Int) - i
theorem toldTo_step {n m : Nat} (h1 : 1 ≤ m) (h2 : m ≤ n) : toldTo n m ++ [(m : Int)] = toldTo n (m - 1) := by
 unfold toldTo
 rw [show n - (m - 1) = n - m + 1 by omega, List.range_succ, List.map_append]
 congr 1
 show [(m : Int)] = [(n : Int) - ((n - m : Nat) : Int)]
 congr 1; omega
theorem chain_run {n : Nat} {t t' : TS} {b : Bool} (h : DRun [(0, 1)] (0, 1) t b t') : ∀ m, 1 ≤ m → ChI n m t.p → nodesOf t.told = toldTo n m →
    ∃ m', ChI n m' t'.p ∧ nodesOf t'.told = toldTo n m' ∧ t'.told.length + (dfull t'.p.l).length = t.told.length + (dfull t.p.l).length ∧ t'.told.length + t'.n = t.told.length + t.n ∧ (b = true → m' = 0) ∧ (b = false → 1 ≤ m') := by
  have hw : ∀ w : SlotM, w ∈ [((0 : Int), (1 : Int))] → w.1 < ((1 : Nat) : Int) := fun w hw => by rw [List.mem_singleton.1 hw]; decide
  have e0 : ((0 : Int), (1 : Int)) = (((1 : Nat) : Int) - 1, 1) := rfl
  have hfl : ∀ {t : TS} {m : Nat} {y : SlotM}, ChI n m t.p → (dget t.p.l y).1.kind ≠ 0 → (stepT t y).told.length = t.told.length + 1 → (stepT t y).told.length + (dfull (stepT t y).p.l).length = t.told.length + (dfull t.p.l).length := fun hc hk hl => by
    have := full_step hc.ok hk
    omega
  have hn1 : ∀ (t : TS) (y : SlotM), (stepT t y).n = t.n - 1 := fun _ _ => rfl
  induction h with
  | @spent t h0 => exact fun m h1 hc ht => ⟨m, hc, ht, rfl, rfl, (fun e => by cases e), fun _ => h1⟩
  | @last t h0 hn =>
    intro m h1 hc ht
    have hk1 := hc.linkk (id := 1) (Nat.le_refl _) h1
    rcases chain_nxt hc hn 1 (Nat.le_refl _) h1 e0 hw with ⟨hy, he⟩ | h6
    · have hm : m = 1 := by have := congrArg Prod.fst hy; dsimp only at this; omega
      subst hm
      obtain ⟨a1, a2, a3⟩ := chain_link hc (Nat.le_refl _) he
      refine ⟨0, a1, by rw [← toldTo_step (Nat.le_refl 1) hc.mn, ← ht]; exact a2, hfl hc (by rw [← e0] at hk1; rw [hk1]; decide) a3, ?_, fun _ => rfl, fun e => by cases e⟩
      rw [hn1]; have a3' : (stepT t (0, 1)).told.length = t.told.length + 1 := a3; omega
    · rw [← e0] at hk1; rw [hk1] at h6; cases h6
  | @more t t' y b h0 hn hy _ ih =>
    intro m h1 hc ht
    rcases chain_nxt hc hn 1 (Nat.le_refl _) h1 e0 hw with ⟨rfl, he⟩ | h6
    · have hm : 2 ≤ m := by
        refine Decidable.byContradiction fun e => hy ?_
        rw [show m = 1 by omega]; rfl
      obtain ⟨a1, a2, a3⟩ := chain_link hc h1 he
      have hkm := hc.linkk (id := m) h1 (Nat.le_refl _)
      obtain ⟨m', b1, b2, b3, b4, b5, b6⟩ := ih (m - 1) (by omega) a1 (by rw [a2, ht, toldTo_step h1 hc.mn])
      refine ⟨m', b1, b2, b3.trans (hfl hc (by rw [hkm]; decide) a3), ?_, b5, b6⟩
      rw [hn1] at b4; omega
    · obtain ⟨a1, a2, a3⟩ := chain_frame hc h6
      obtain ⟨m', b1, b2, b3, b4, b5, b6⟩ := ih m h1 a1 (by rw [a2, ht])
      refine ⟨m', b1, b2, b3.trans (hfl hc (by rw [h6]; decide) a3), ?_, b5, b6⟩
      rw [hn1] at b4; omega
theorem chain_none {n : Nat} {p : PS} (h : ChI n 0 p) : dfull p.l = [] := by
 refine List.eq_nil_iff_forall_not_mem.2 fun s hs => ?_
 rcases h.only s ((mem_dfull h.ok.rel).1 hs) with ⟨id, h1, h2, _⟩ | ⟨_, id, h1, h2, _⟩ <;> omega
def nodesC : Nat → PS
  | 0 => PS.new
  | i + 1 => (mNode (nodesC i) i 2).2
theorem nodesC_ok : ∀ i, POk (nodesC i)
  | 0 => wok_new.ok
  | i + 1 => (nodesC_ok i).node i 2
theorem nodesC_get : ∀ i s, (dget (nodesC i).l s).1 = CapM.zero
  | 0, s => by simp [nodesC, PS.new, dget, dcap?, dfind]
  | i + 1, s => by
    show (dget (dadd (nodesC i).l i 2).2 s).1 = _
    rw [aadd_get (nodesC_ok i).rel]; exact nodesC_get i s
theorem nodesC_err : ∀ k : Fin 9, (dadd (nodesC k).l k 2).1 = 0 := by decide +kernel
theorem nodesC_rad : ∀ n : Fin 9, ∀ k : Fin 9, k.1 ≤ n.1 → dradix (nodesC (n.1 + 1)).l k.1 = 2 := by decide +kernel
structure BuI (n j : Nat) (i : Nat) (p : PS) : Prop where
  ok : POk p
  rad : ∀ id : Nat, id ≤ n → dradix p.l id = 2
  link : ∀ id : Nat, 1 ≤ id → id ≤ j → (dget p.l ((id : Int) - 1, 1)).1 = ⟨2, id, 0, 0, 0, 0⟩
  only : ∀ s : SlotM, (dget p.l s).1.kind ≠ 0 → (∃ id : Nat, 1 ≤ id ∧ id ≤ j ∧ s = ((id : Int) - 1, 1)) ∨ ((dget p.l s).1.kind = 6 ∧ (∃ a : Nat, a < i ∧ (dget p.l s).1.object = 20 + a) ∧ ∃ id : Nat, 1 ≤ id ∧ id ≤ n ∧ s.1 = id)
  inj : ∀ s x : SlotM, (dget p.l s).1.kind ≠ 0 → (dget p.l x).1.kind = (dget p.l s).1.kind → (dget p.l x).1.object = (dget p.l s).1.object → x = s
theorem bu_start {n : Nat} (h : n ≤ 8) : BuI n 0 0 (nodesC (n + 1)) where
  ok := nodesC_ok _
  rad := fun id hid => nodesC_rad ⟨n, by omega⟩ ⟨id, by omega⟩ hid
  link := fun id h1 h2 => by omega
  only := fun s hs => by rw [nodesC_get] at hs; exact absurd rfl hs
  inj := fun s x hs => by rw [nodesC_get] at hs; exact absurd rfl hs
theorem plant_l {p : PS} {s : SlotM} {c : CapM} (h : (mPlant p s c).1 = 0) : (mPlant p s c).2.l = (dput p.l s c).2 ∧ (dput p.l s c).1 = 0 := ⟨rfl, h⟩
theorem plant_no {p : PS} {s : SlotM} {c : CapM} (h : (mPlant p s c).1 ≠ 0) : (mPlant p s c).2 = p := by
 have h' : ¬ (dput p.l s c).1 = 0 := h
 unfold mPlant
 rw [if_neg h', dput_no h']
theorem plant_does {p : PS} (h : POk p) {s : SlotM} {c : CapM} (h0 : (mPlant p s c).1 = 0) :
    (∀ id, dradix (mPlant p s c).2.l id = dradix p.l id) ∧ (dget p.l s).1.kind = 0 ∧ c.kind ≠ 0 ∧ (∀ x, (dget (mPlant p s c).2.l x).1 = if x = s then c else (dget p.l x).1) ∧ (dfull (mPlant p s c).2.l).length = (dfull p.l).length + 1 := by
  obtain ⟨e1, e2⟩ := plant_l h0
  obtain ⟨h2, h3, h4, h5⟩ := (put_iff h.rel).1 e2
  have hg : ∀ x, (dget (mPlant p s c).2.l x).1 = if x = s then c else (dget p.l x).1 := fun x => by
    rw [e1, put_get h.rel e2]
    split <;> rfl
  refine ⟨fun id => by rw [e1]; exact dput_radix id, h3, h5, hg, ?_⟩
  have hq := (h.plant s c).rel
  have hs : s ∈ dfull (mPlant p s c).2.l := (mem_dfull hq).2 (by rw [hg, if_pos rfl]; exact h5)
  have hf : (dfull (mPlant p s c).2.l).filter (fun z => decide (z ≠ s)) = dfull p.l := by
    refine sorted_ext ((dfull_sorted hq).filter _) (dfull_sorted h.rel) fun x => ?_
    rw [List.mem_filter, mem_dfull hq, mem_dfull h.rel, hg]
    by_cases e : x = s
    · subst e; simp [h3]
    · rw [if_neg e]; simp [e]
  rw [← filter_ne_len (dfull_nodup hq) hs, hf]
theorem bu_inj {p q : PS} (hi : ∀ s x : SlotM, (dget p.l s).1.kind ≠ 0 → (dget p.l x).1.kind = (dget p.l s).1.kind → (dget p.l x).1.object = (dget p.l s).1.object → x = s) {s : SlotM} {c : CapM} (hg : ∀ x, (dget q.l x).1 = if x = s then c else (dget p.l x).1) (hnew : ∀ x, (dget p.l x).1.kind ≠ 0 → ¬ ((dget p.l x).1.kind = c.kind ∧ (dget p.l x).1.object = c.object)) (hc : c.kind ≠ 0) :
    ∀ a x : SlotM, (dget q.l a).1.kind ≠ 0 → (dget q.l x).1.kind = (dget q.l a).1.kind → (dget q.l x).1.object = (dget q.l a).1.object → x = a := by
  intro a x ha h1 h2
  rw [hg] at ha h1 h2
  rw [hg] at h1 h2
  by_cases ea : a = s
  · by_cases ex : x = s
    · rw [ea, ex]
    · simp only [if_pos ea, if_neg ex] at h1 h2
      exact absurd ⟨h1, h2⟩ (hnew x (by rw [h1]; exact hc))
  · simp only [if_neg ea] at ha h1 h2
    by_cases ex : x = s
    · simp only [if_pos ex] at h1 h2
      exact absurd ⟨h1.symm, h2.symm⟩ (hnew a ha)
    · simp only [if_neg ex] at h1 h2; exact hi a x ha h1 h2
def linkC (j : Nat) : CapM := ⟨2, ((j + 1 : Nat) : Int), 0, 0, 0, 0⟩
theorem linkC_ck : ∀ j : Fin 8, checkM (linkC j) = 0 := by decide +kernel
theorem bu_link {n j : Nat} {p : PS} (h : BuI n j 0 p) (hj : j < n) (hn : n ≤ 8) : (mPlant p ((j : Int), 1) (linkC j)).1 = 0 ∧ BuI n (j + 1) 0 (mPlant p ((j : Int), 1) (linkC j)).2 := by
 have hk : (dget p.l ((j : Int), 1)).1.kind = 0 := by
  refine Decidable.byContradiction fun hk => ?_
  rcases h.only _ hk with ⟨id, h1, h2, e⟩ | ⟨_, ⟨a, ha, _⟩, _⟩
  ·
   have := congrArg Prod.fst e; dsimp only at this; omega
  ·
   omega
 have hr := h.rad j (by omega)
 have he : (dget p.l ((j : Int), 1)).2 = 0 := dget_in h.ok.rel (by show dradix p.l (j : Int) ≠ 0; rw [hr]; decide) (by show (0 : Int) ≤ 1; decide) (by show (1 : Int) < 2 ^ (dradix p.l (j : Int)).toNat; rw [hr]; decide)
 have h0 : (mPlant p ((j : Int), 1) (linkC j)).1 = 0 := (put_iff h.ok.rel).2 ⟨he, hk, linkC_ck ⟨j, by omega⟩, by show (2 : Int) ≠ 0; decide⟩
 obtain ⟨a1, _, a3, a4, _⟩ := plant_does h.ok h0
 refine ⟨h0, h.ok.plant _ _, fun id hid => by rw [a1]; exact h.rad id hid, fun id h1 h2 => ?_, fun s hs => ?_, bu_inj h.inj a4 (fun x hx hxx => ?_) a3⟩
 ·
  rw [a4]
  by_cases e : id = j + 1
  ·
   subst e
   rw [if_pos (by show (((j + 1 : Nat) : Int) - 1, (1 : Int)) = ((j : Int), 1); congr 1; omega)]; rfl
  ·
   rw [if_neg (fun e2 => by have := congrArg Prod.fst e2; dsimp only at this; omega)]; exact h.link id h1 (by omega)
 ·
  left
  rw [a4] at hs
  by_cases e : s = ((j : Int), 1)
  ·
   exact ⟨j + 1, by omega, Nat.le_refl _, by rw [e]; congr 1; omega⟩
  ·
   rw [if_neg e] at hs
   rcases h.only s hs with ⟨id, h1, h2, e⟩ | ⟨_, ⟨a, ha, _⟩, _⟩
   ·
    exact ⟨id, h1, by omega, e⟩
   ·
    omega
 ·
  rcases h.only x hx with ⟨id, h1, h2, rfl⟩ | ⟨_, ⟨a, ha, _⟩, _⟩
  ·
   have := hxx.2
   rw [h.link id h1 h2] at this
   have h3 : (id : Int) = ((j + 1 : Nat) : Int) := this
   omega
  ·
   omega
theorem bu_more {n i : Nat} {p : PS} (h : BuI n n i p) : BuI n n (i + 1) p := ⟨h.ok, h.rad, h.link, fun s hs => by
 rcases h.only s hs with h1 | ⟨h1, ⟨a, ha, h2⟩, h3⟩
 ·
  exact .inl h1
 ·
  exact .inr ⟨h1, ⟨a, by omega, h2⟩, h3⟩, h.inj⟩
theorem bu_frame {n i : Nat} {p : PS} (h : BuI n n i p) {e : Nat} {k : Int} (h1 : 1 ≤ e) (h2 : e ≤ n) (h0 : (mPlant p ((e : Int), k) ⟨6, 20 + (i : Int), 1, 0, 0, 0⟩).1 = 0) : BuI n n (i + 1) (mPlant p ((e : Int), k) ⟨6, 20 + (i : Int), 1, 0, 0, 0⟩).2 := by
 obtain ⟨a1, a2, a3, a4, _⟩ := plant_does h.ok h0
 refine ⟨h.ok.plant _ _, fun id hid => by rw [a1]; exact h.rad id hid, fun id h3 h4 => ?_, fun s hs => ?_, bu_inj h.inj a4 (fun x hx hxx => ?_) a3⟩
 ·
  have hl := h.link id h3 h4
  rw [a4, if_neg (fun e => by rw [e] at hl; rw [hl] at a2; cases a2)]; exact hl
 ·
  rw [a4] at hs ⊢
  by_cases es : s = ((e : Int), k)
  ·
   right
   rw [if_pos es]
   exact ⟨rfl, ⟨i, by omega, rfl⟩, e, h1, h2, by rw [es]⟩
  ·
   rw [if_neg es] at hs ⊢
   rcases h.only s hs with h1 | ⟨h1, ⟨a, ha, h2⟩, h3⟩
   ·
    exact .inl h1
   ·
    exact .inr ⟨h1, ⟨a, by omega, h2⟩, h3⟩
 ·
  rcases h.only x hx with ⟨id, h3, h4, rfl⟩ | ⟨_, ⟨a, ha, h3⟩, _⟩
  ·
   have := hxx.1
   rw [h.link id h3 h4] at this
   exact absurd (show (2 : Int) = 6 from this) (by decide)
  ·
   have h4 := hxx.2
   rw [h3] at h4
   have h5 : (20 : Int) + a = 20 + i := h4
   omega
theorem bu_chain {n i : Nat} {p : PS} (h : BuI n n i p) : ChI n n p := ⟨h.ok, Nat.le_refl _, h.rad 0 (Nat.zero_le _), fun id _ h2 => h.rad id h2, fun id h1 h2 => by omega, h.link, fun s hs => by
 rcases h.only s hs with h1 | ⟨h1, _, h3⟩
 ·
  exact .inl h1
 ·
  exact .inr ⟨h1, h3⟩, h.inj⟩
theorem bu_full0 {n : Nat} : dfull (nodesC n).l = [] := by
 refine List.eq_nil_iff_forall_not_mem.2 fun s hs => ?_
 have := (mem_dfull (nodesC_ok n).rel).1 hs
 rw [nodesC_get] at this; exact this rfl
end Go.Proofs.Ytdodfnjmkpgdbaa
end
section
set_option linter.unusedVariables false
set_option linter.unusedSimpArgs false
set_option linter.unusedSectionVars false
namespace Go.Proofs.Ytdodfnjmkpgdbaa
open Go.SL
def cpC : CapM := ⟨4, 7, 7, 0, 0, 0⟩
structure CoI (n : Nat) (p : PS) : Prop where
  wok : WOk p
  rad : dradix p.l 0 = 4
  get : ∀ x : SlotM, (dget p.l x).1 = if x.1 = 0 ∧ 0 ≤ x.2 ∧ x.2 < n then cpC else CapM.zero
  root : ∃ c, p.F = .cons (0, 0) c .nil
  len : p.F.all.length = n
theorem co_derive : derive cpC 7 0 0 0 = (cpC, 0) := by kernel_rfl
theorem CoI.copy {n : Nat} {p : PS} (h : CoI n p) (hn : n < 16) {k : Nat} (hk : k < n) : (mCopy p (0, (k : Int)) (0, (n : Int)) 7).1 = 0 ∧ CoI (n + 1) (mCopy p (0, (k : Int)) (0, (n : Int)) 7).2 := by
 have hgk : (dget p.l (0, (k : Int))).1 = cpC := (h.get _).trans (if_pos ⟨rfl, Int.natCast_nonneg k, Int.ofNat_lt.2 hk⟩)
 have hgn : (dget p.l (0, (n : Int))).1 = CapM.zero := by rw [h.get, if_neg (fun e => absurd e.2.2 (Int.lt_irrefl _))]
 have hkk : (dget p.l (0, (k : Int))).1.kind ≠ 0 := by rw [hgk]; decide
 have hkn : (dget p.l (0, (n : Int))).1.kind = 0 := by rw [hgn]
 have hen : (dget p.l (0, (n : Int))).2 = 0 := dget_in h.wok.ok.rel (by show dradix p.l 0 ≠ 0; rw [h.rad]; decide) (by show (0 : Int) ≤ n; omega) (by show (n : Int) < 2 ^ (dradix p.l 0).toNat; rw [h.rad]; show (n : Int) < 16; omega)
 have hs := src_iff.2 hkk
 have hb : (mBoth p (0, (k : Int)) (0, (n : Int))).2 = 0 := by
  unfold mBoth; dsimp only
  rw [if_pos hs]
  unfold mPlace
  rw [if_neg (fun e => e.2 hkn)]; exact hen
 obtain ⟨e1, _⟩ := both_ok hb
 rw [hgk] at e1
 have hput : (dput p.l (0, (n : Int)) cpC).1 = 0 := (put_iff h.wok.ok.rel).2 ⟨hen, hkn, by kernel_rfl, by decide⟩
 have hm : mCopy p (0, (k : Int)) (0, (n : Int)) 7 = (0, ⟨(dput p.l (0, (n : Int)) cpC).2, p.F.addc (0, (k : Int)) (0, (n : Int))⟩) := by
  unfold mCopy mMint
  rw [if_neg (by rw [hb]; decide), e1, hgk, show cpC.guard = 0 from rfl, show cpC.bits = 0 from rfl, co_derive, if_neg (by decide)]
  unfold mChild
  rw [if_neg (by rw [hb]; decide), hput, if_pos rfl, child_F h.wok.ok hkk hkn]
 have hw := h.wok.copy (0, (k : Int)) (0, (n : Int)) (r := 7) (by unfold i64R; decide)
 rw [hm] at hw ⊢
 refine ⟨rfl, hw, by rw [← h.rad]; exact dput_radix 0, fun x => ?_, ?_, ?_⟩
 ·
  show (dget (dput p.l (0, (n : Int)) cpC).2 x).1 = _
  rw [put_get h.wok.ok.rel hput]
  by_cases e : x = (0, (n : Int))
  ·
   rw [if_pos e, if_pos (by rw [e]; exact ⟨rfl, by show (0 : Int) ≤ n; omega, by show (n : Int) < ((n + 1 : Nat) : Int); omega⟩)]
  ·
   rw [if_neg e, h.get]
   by_cases e2 : x.1 = 0 ∧ 0 ≤ x.2 ∧ x.2 < n
   ·
    rw [if_pos e2, if_pos ⟨e2.1, e2.2.1, by have := e2.2.2; omega⟩]
   ·
    rw [if_neg e2, if_neg (fun e3 => e2 ⟨e3.1, e3.2.1, by
     have h4 := e3.2.2
     have h5 : x.2 ≠ n := fun h6 => e (Prod.ext e3.1 h6)
     omega⟩)]
 ·
  obtain ⟨c, hc⟩ := h.root
  rw [hc]
  show ∃ c', Fo.addc _ _ (Fo.cons (0, 0) c .nil) = _
  by_cases e : ((0 : Int), (0 : Int)) = (0, (k : Int))
  ·
   exact ⟨_, by unfold Fo.addc; rw [if_pos e]⟩
  ·
   exact ⟨_, by rw [Fo.addc, if_neg e]; rfl⟩
 ·
  show (Fo.all (p.F.addc _ _)).length = _
  rw [(Fo.all_addc_perm h.wok.ok.nd ((h.wok.ok.on _).2 hkk)).length_eq, List.length_append, h.len]; rfl
end Go.Proofs.Ytdodfnjmkpgdbaa
end
section
set_option linter.unusedVariables false
set_option linter.unusedSimpArgs false
set_option linter.unusedSectionVars false
namespace Go.Proofs.Ytdodfnjmkpgdbaa
open Go.SL
theorem chain_del {n m : Nat} {p : PS} {told : List CapM} {k : Nat} {b : Bool} {t : TS} (h : Away ⟨p, [], k⟩ [(0, 1)] (0, 1) b t) (hc : ChI n m p) (hm : 1 ≤ m) (ht : nodesOf told = toldTo n m) :
    ∃ m', ChI n m' t.p ∧ nodesOf (told ++ t.told) = toldTo n m' ∧ (told ++ t.told).length + (dfull t.p.l).length = told.length + (dfull p.l).length ∧ (b = true → m' = 0) ∧ (b = false → 1 ≤ m' ∧ told.length + k = (told ++ t.told).length) := by
  have h1 := (h.drun hc.ok (List.mem_singleton.2 rfl)).told told
  rw [show told ++ (⟨p, [], k⟩ : TS).told = told from List.append_nil _] at h1
  obtain ⟨m', a1, a2, a3, a4, a5, a6⟩ := chain_run h1 m hm hc ht
  have h0 := h1.zero
  dsimp only at a1 a2 a3 a4 h0
  exact ⟨m', a1, a2, a3, a5, fun e => ⟨a6 e, by have := h0 e; omega⟩⟩
theorem toldTo_nil (n : Nat) : nodesOf [] = toldTo n n := by simp [nodesOf, toldTo]
theorem nodes_app (a b : List CapM) : nodesOf (a ++ b) = nodesOf a ++ nodesOf b := by unfold nodesOf; rw [List.filter_append, List.map_append]
theorem nodes_take {told : List CapM} {i : Nat} {x : CapM} (h : told[i]? = some x) : (nodesOf (told.take (i + 1))).length = (nodesOf (told.take i)).length + if x.kind = 2 then 1 else 0 := by
 rw [List.take_add_one, h, nodes_app, List.length_append]
 congr 1
 by_cases e : x.kind = 2 <;> simp [nodesOf, e]
theorem nodes_at {n : Nat} {told : List CapM} {i : Nat} {x : CapM} (ht : nodesOf told = toldTo n 0) (h : told[i]? = some x) (hk : x.kind = 2) : x.object = (n : Int) - ((nodesOf (told.take i)).length : Int) ∧ (nodesOf (told.take i)).length < n := by
 obtain ⟨hi, hx⟩ := List.getElem?_eq_some_iff.1 h
 have e : told = told.take i ++ x :: told.drop (i + 1) := by
  rw [← hx, ← List.drop_eq_getElem_cons hi, List.take_append_drop]
 have e2 : nodesOf told = nodesOf (told.take i) ++ x.object :: nodesOf (told.drop (i + 1)) := by
  conv => lhs; rw [e]
  rw [nodes_app]
  congr 1
  unfold nodesOf
  rw [List.filter_cons, if_pos (by simp [hk])]; rfl
 have e3 : (toldTo n 0)[(nodesOf (told.take i)).length]? = some x.object := by
  rw [← ht, e2, List.getElem?_append_right (Nat.le_refl _), Nat.sub_self]; rfl
 unfold toldTo at e3
 rw [List.getElem?_map, Option.map_eq_some_iff] at e3
 obtain ⟨j, hj, hjx⟩ := e3
 obtain ⟨hl, hj2⟩ := List.getElem?_eq_some_iff.1 hj
 rw [List.getElem_range] at hj2
 rw [List.length_range] at hl
 rw [← hj2] at hjx
 exact ⟨hjx.symm, by omega⟩
theorem nodes_len {n : Nat} {told : List CapM} (ht : nodesOf told = toldTo n 0) : (nodesOf told).length = n := by rw [ht]; simp [toldTo]
theorem nodesC_F : ∀ i, (nodesC i).F = PS.new.F
  | 0 => rfl
  | i + 1 => nodesC_F i
end Go.Proofs.Ytdodfnjmkpgdbaa
end
section
set_option linter.unusedVariables false
set_option linter.unusedSimpArgs false
set_option linter.unusedSectionVars false
namespace Go.Proofs.Ytdodfnjmkpgdbaa
open Go.SL
section
variable {n cb : Nat} {H : Hp} {p : PS} (hC : CapsH n p cb H) (hok : POk p) (hn : n ≤ 2 ^ 19) {sl : SlotM} (hk : (dget p.l sl).1.kind ≠ 0) {k : Nat} (h1 : 1 ≤ k) (h2 : k ≤ 1000)
include hC hok hn hk h1 h2
theorem tr_dlT {t : TS} (h : Away ⟨p, [], k⟩ [sl] sl true t) : Tr Try.prog 33 [cpP cb, slotV sl, .int .i64 k] H (fun u L' => ∃ v' T' H', Slc 24 6 v' t.told.length (cel CapM.cells t.told) T' ∧ CapsH n t.p cb H' ∧ u = .tuple #[v', .bool true, .int .i64 0] ∧ L' = T' ++ H') :=
  (tr_rDelete n cb H p hC hok hn sl k).mono fun u L' e => by
    rcases e with ⟨h0, _⟩ | ⟨_, b, t', v', T', H', hA, hI, rfl, rfl⟩
    · exact absurd (rvErr_0 hk (by omega) (by omega)) h0
    · obtain ⟨rfl, rfl⟩ := h.det hA
      exact ⟨v', T', H', hI.2.1, hI.1, rfl, rfl⟩
theorem tr_dlF (h : ¬ ∃ t, Away ⟨p, [], k⟩ [sl] sl true t) : Tr Try.prog 33 [cpP cb, slotV sl, .int .i64 k] H (fun u L' => ∃ t v' T' H', Away ⟨p, [], k⟩ [sl] sl false t ∧ Slc 24 6 v' t.told.length (cel CapM.cells t.told) T' ∧ CapsH n t.p cb H' ∧ u = .tuple #[v', .bool false, .int .i64 11] ∧ L' = T' ++ H') :=
  (tr_rDelete n cb H p hC hok hn sl k).mono fun u L' e => by
    rcases e with ⟨h0, _⟩ | ⟨_, b, t', v', T', H', hA, hI, rfl, rfl⟩
    · exact absurd (rvErr_0 hk (by omega) (by omega)) h0
    · cases b
      · exact ⟨t', v', T', H', hA, hI.2.1, hI.1, rfl, rfl⟩
      · exact absurd ⟨t', hA⟩ h
end
set_option maxHeartbeats 16000000 in
theorem tr_revokeChain (G : Hp) (n steps : Int) (a : Option Addr) (c : Nat) (l : List Int) (ha : ArgS G 1 a (l.map fun x => [Value.int .i64 x])) (hl : l.length ≤ maxLen) : TrR Try.prog 7 [.int .i64 n, .int .i64 steps, .slice a l.length c] (G) (.bool true) := by
 obtain ⟨K, hK⟩ : ∃ K, K = 1 + uI steps % 4 := ⟨_, rfl⟩
 have hu4 : uI steps % 4 < 4 := Nat.mod_lt _ (by decide)
 have hK1 : 1 ≤ K := by omega
 have hK4 : K ≤ 4 := by omega
 obtain ⟨N, hN⟩ : ∃ N, N = 1 + uI n % 8 := ⟨_, rfl⟩
 have hu8 : uI n % 8 < 8 := Nat.mod_lt _ (by decide)
 have hN1 : 1 ≤ N := by omega
 have hN8 : N ≤ 8 := by omega
 refine Tr.enter Try.func7 rfl Try.ntmps7 rfl (fun W F => ?_)
 refine Wp.app ?_
 refine Wp.seq ?_
 refine Wp.region ?_
 refine Ops.pv (pv_assign rfl) rfl ?_
 refine Ops.nil ?_
 refine Ends.seq ?_
 refine Wp.seq ?_
 refine Wp.seq ?_
 refine Wp.region ?_
 refine Ops.ef rfl (ef_callr (tr_rworks) rfl rfl) ?_
 rintro _ _ ⟨rfl, rfl⟩
 refine Ops.pv (pv_not rfl) rfl ?_
 refine Ops.nil ?_
 refine Ends.seq ?_
 refine Wp.cond_false rfl ?_
 refine Wp.skip ?_
 refine Ends.seq ?_
 refine Wp.seq ?_
 refine Wp.region ?_
 refine Ops.pv (pv_move rfl) rfl ?_
 refine Ops.pv (pv_conv rfl (uI_eq n)) rfl ?_
 refine Ops.pv (pv_rem rfl rfl (by decide) (tmod_nat (b := 8) rfl)) rfl ?_
 refine Ops.pv (pv_conv rfl (w64n (k := uI n % 8) rfl (by omega))) rfl ?_
 refine Ops.pv (pv_add rfl rfl (w64n (k := N) (by omega) (by omega))) rfl ?_
 refine Ops.pv (pv_move rfl) rfl ?_
 refine Ops.pv (pv_conv rfl (uI_eq steps)) rfl ?_
 refine Ops.pv (pv_rem rfl rfl (by decide) (tmod_nat (b := 4) rfl)) rfl ?_
 refine Ops.pv (pv_conv rfl (w64n (k := uI steps % 4) rfl (by omega))) rfl ?_
 refine Ops.pv (pv_add rfl rfl (w64n (k := K) (by omega) (by omega))) rfl ?_
 refine Ops.pv (pv_assign rfl) rfl ?_
 refine Ops.pv (pv_assign rfl) rfl ?_
 refine Ops.nil ?_
 refine Ends.seq ?_
 refine Wp.seq ?_
 refine Wp.region ?_
 refine Ops.ef rfl (ef_call (tr_mNew) rfl rfl) ?_
 rintro _ _ ⟨_, _, ⟨cb1, rfl, sb0, tb0, Ls0, Lt0, hS0, hT0, rfl⟩, rfl, rfl⟩
 refine Ops.app ?_
 refine Ops.pv (pv_assign rfl) rfl ?_
 refine Ops.nil ?_
 refine Ends.seq ?_
 refine Wp.seq ?_
 refine Wp.seq ?_
 refine Wp.region ?_
 refine Ops.pv (pv_assign rfl) rfl ?_
 refine Ops.nil ?_
 refine Ends.seq ?_
 refine Wp.block ?_
 refine Wp.loopK (σ := Nat × Hp) [(0, _), (1, _), (2, _), (7, _)] (fun s => [(8, .int .i64 s.1)]) (fun s => cBlk cb1 sb0 tb0 :: (s.2 ++ (Lt0 ++ (G ++ F)))) (fun s => s.1 ≤ N + 1 ∧ StF (nodesC s.1).l sb0 s.2) (fun s => N + 1 - s.1) (0, Ls0) ⟨Nat.zero_le _, hS0⟩ ⟨rfl, rfl, rfl, rfl, trivial⟩ ⟨rfl, trivial⟩ (by intro w ho; (try dsimp only [List.nil_append, List.cons_append]); exact Drop.own ho) ?_
 rintro ⟨j, Ln⟩ KK ⟨hj, hSn⟩ hK
 dsimp only [List.cons_append, List.nil_append] at hK ⊢
 dsimp only at hj hSn ⊢
 refine Wp.seq ?_
 refine Wp.seq ?_
 refine Wp.region ?_
 refine Ops.pv (pv_move rfl) rfl ?_
 refine Ops.pv (pv_move rfl) rfl ?_
 refine Ops.pv (pv_leq rfl rfl) rfl ?_
 refine Ops.nil ?_
 refine Ends.seq ?_
 refine Wp.cond_dect rfl (fun h1 => ?_) (fun h1 => ?_)
 ·
  refine Wp.skip ?_
  refine Ends.seq ?_
  refine Wp.seq ?_
  refine Wp.block ?_
  refine Wp.seq ?_
  refine Wp.region ?_
  refine Ops.pv (pv_move rfl) rfl ?_
  refine Ops.pv (pv_nilCheck rfl) rfl ?_
  refine Ops.pv (pv_fieldAddr0 rfl rfl) rfl ?_
  refine Ops.pv (pv_loadK [_] rfl rfl rfl ⟨rfl, trivial⟩) rfl ?_
  refine Ops.pv (pv_move rfl) rfl ?_
  refine Ops.ef rfl (ef_call (tr_smNode _ sb0 Ln hSn (j : Int) 2) rfl rfl) ?_
  rintro _ _ ⟨_, Q1, ⟨rfl, hS2⟩, rfl, rfl⟩
  refine Ops.app ?_
  skip
  refine Ops.pv ((pv_neq rfl rfl).fls (fun h => h (nodesC_err ⟨j, by omega⟩))) rfl ?_
  refine Ops.nil ?_
  refine Ends.seq ?_
  refine Wp.cond_false rfl ?_
  refine Wp.skip ?_
  refine Ends.block_normal ?_
  refine Ends.seq ?_
  refine Wp.region ?_
  refine Ops.pv (pv_move rfl) rfl ?_
  refine Ops.pv (pv_add rfl rfl (w64n (k := j + 1) (by omega) (by omega))) rfl ?_
  refine Ops.pv (pv_assign rfl) rfl ?_
  refine Ops.nil ?_
  refine Ends.goes ?_
  refine Goes.back (hK (j + 1, Q1) ⟨by dsimp only; omega, hS2⟩ (by dsimp only; omega)) ⟨rfl, rfl, rfl, rfl, rfl, trivial⟩
 obtain rfl : j = N + 1 := by omega
 refine Wp.exit ?_
 refine Ends.then_exit ?_
 refine Ends.then_exit ?_
 refine Ends.block_hit ?_
 refine Ends.seq ?_
 refine Wp.seq ?_
 refine Wp.seq ?_
 refine Wp.region ?_
 refine Ops.pv (pv_assign rfl) rfl ?_
 refine Ops.nil ?_
 refine Ends.seq ?_
 refine Wp.block ?_
 refine Wp.loopK (σ := Nat × PS × Hp) [(0, _), (1, _), (2, _), (7, _)] (fun s => [(9, .int .i64 ((s.1 + 1 : Nat) : Int))]) (fun s => s.2.2 ++ (G ++ F)) (fun s => s.1 ≤ N ∧ CapsH s.1 s.2.1 cb1 s.2.2 ∧ BuI N s.1 0 s.2.1 ∧ (dfull s.2.1.l).length = s.1) (fun s => N - s.1) (0, nodesC (N + 1), cBlk cb1 sb0 tb0 :: (Ln ++ Lt0)) ⟨Nat.zero_le _, ⟨_, _, _, _, hSn, by rw [nodesC_F]; exact hT0, rfl⟩, bu_start (by omega), by rw [bu_full0]; rfl⟩ ⟨rfl, rfl, rfl, rfl, trivial⟩ ⟨rfl, trivial⟩ (by intro w ho; (try dsimp only [List.nil_append, List.cons_append]); exact Drop.own ho) ?_
 rintro ⟨j, p, H⟩ KK ⟨hj, hCp, hbu, hfl⟩ hK
 dsimp only [List.cons_append, List.nil_append] at hK ⊢
 dsimp only at hj hCp hbu hfl ⊢
 refine Wp.seq ?_
 refine Wp.seq ?_
 refine Wp.region ?_
 refine Ops.pv (pv_move rfl) rfl ?_
 refine Ops.pv (pv_move rfl) rfl ?_
 refine Ops.pv (pv_leq rfl rfl) rfl ?_
 refine Ops.nil ?_
 refine Ends.seq ?_
 refine Wp.cond_dect rfl (fun h2 => ?_) (fun h2 => ?_)
 ·
  have hlk := bu_link hbu (by omega) (by omega)
  refine Wp.skip ?_
  refine Ends.seq ?_
  refine Wp.seq ?_
  refine Wp.block ?_
  refine Wp.seq ?_
  refine Wp.region ?_
  refine Ops.pv (pv_move rfl) rfl ?_
  refine Ops.pv (pv_move rfl) rfl ?_
  refine Ops.pv (pv_sub rfl rfl (w64n (k := j) (by omega) (by omega))) rfl ?_
  refine Ops.pv (pv_build rfl) rfl ?_
  refine Ops.pv (pv_move rfl) rfl ?_
  refine Ops.pv (pv_build rfl) rfl ?_
  refine Ops.ef rfl (ef_call (tr_mPlant _ cb1 _ p hCp ((j : Int), 1) (linkC j)) rfl rfl) ?_
  rintro _ _ ⟨_, R1, ⟨rfl, hC3⟩, rfl, rfl⟩
  refine Ops.app ?_
  skip
  refine Ops.pv ((pv_neq rfl rfl).fls (fun h => h hlk.1)) rfl ?_
  refine Ops.nil ?_
  refine Ends.seq ?_
  refine Wp.cond_false rfl ?_
  refine Wp.skip ?_
  refine Ends.block_normal ?_
  refine Ends.seq ?_
  refine Wp.region ?_
  refine Ops.pv (pv_move rfl) rfl ?_
  refine Ops.pv (pv_add rfl rfl (w64n (k := j + 1 + 1) (by omega) (by omega))) rfl ?_
  refine Ops.pv (pv_assign rfl) rfl ?_
  refine Ops.nil ?_
  refine Ends.goes ?_
  refine Goes.back (hK (j + 1, (mPlant p ((j : Int), 1) (linkC j)).2, R1) ⟨by dsimp only; omega, hC3, hlk.2, by have := (plant_does hbu.ok hlk.1).2.2.2.2; dsimp only; omega⟩ (by dsimp only; omega)) ⟨rfl, rfl, rfl, rfl, rfl, trivial⟩
 obtain rfl : N = j := by omega
 refine Wp.exit ?_
 refine Ends.then_exit ?_
 refine Ends.then_exit ?_
 refine Ends.block_hit ?_
 refine Ends.seq ?_
 refine Wp.seq ?_
 refine Wp.region ?_
 refine Ops.pv (pv_assign rfl) rfl ?_
 refine Ops.nil ?_
 refine Ends.seq ?_
 refine Wp.seq ?_
 refine Wp.seq ?_
 refine Wp.region ?_
 refine Ops.pv (pv_assign rfl) rfl ?_
 refine Ops.nil ?_
 refine Ends.seq ?_
 refine Wp.block ?_
 refine Wp.loopK (σ := Nat × Nat × PS × Hp) [(0, _), (1, _), (2, _), (7, _)] (fun s => [(10, .int .i64 s.2.1), (11, .int .i64 s.1)]) (fun s => s.2.2.2 ++ (G ++ F)) (fun s => s.1 ≤ l.length ∧ s.1 ≤ 12 ∧ s.2.1 ≤ s.1 ∧ CapsH (N + s.1) s.2.2.1 cb1 s.2.2.2 ∧ BuI N N s.1 s.2.2.1 ∧ (dfull s.2.2.1.l).length = N + s.2.1) (fun s => l.length - s.1) (0, 0, p, H) ⟨Nat.zero_le _, Nat.zero_le _, Nat.le_refl _, hCp, hbu, hfl⟩ ⟨rfl, rfl, rfl, rfl, trivial⟩ ⟨rfl, rfl, trivial⟩ (by intro w ho; (try dsimp only [List.nil_append, List.cons_append]); exact Drop.own ho) ?_
 rintro ⟨i, fr, p, H⟩ KK ⟨hi, hi2, hfr, hCp, hbu, hfl⟩ hK
 dsimp only [List.cons_append, List.nil_append] at hK ⊢
 dsimp only at hi hi2 hfr hCp hbu hfl ⊢
 refine Wp.seq ?_
 refine Wp.seq ?_
 refine Wp.region ?_
 refine Ops.pv (pv_move rfl) rfl ?_
 refine Ops.pv (pv_move rfl) rfl ?_
 refine Ops.pv (pv_len_slice (T := 58) rfl rfl) rfl ?_
 refine Ops.pv (pv_lss rfl rfl) rfl ?_
 refine Ops.pv (pv_move rfl) rfl ?_
 refine Ops.pvc rfl rfl (fun hg => pv_move rfl) rfl ?_
 refine Ops.pvc rfl rfl (fun hg => Pv.setE (t := 63) rfl (cv_pos hg) (pv_lss rfl rfl)) rfl ?_
 refine Ops.pv (pv_pick_and rfl rfl) rfl ?_
 refine Ops.nil ?_
 refine Ends.seq ?_
 refine Wp.cond_dect rfl (fun h3 => ?_) (fun h3 => ?_)
 ·
  obtain ⟨q, hq⟩ : ∃ q, l[i]? = some q := ⟨_, List.getElem?_eq_getElem (by omega)⟩
  obtain ⟨_, b, o, cc, T, f, rfl, hmm, hr⟩ := ha i [.int .i64 q] (by rw [List.getElem?_map, hq]; rfl)
  have hbg : Blk G b (.cells cc.toArray T f) := ⟨hmm⟩
  obtain ⟨k, hk⟩ : ∃ k, k = uI q % N := ⟨_, rfl⟩
  have hkl : k < N := by rw [hk]; exact Nat.mod_lt _ (by omega)
  have hkI : (uI q : Int).tmod (N : Int) = (k : Int) := by rw [hk]; exact tmod_nat rfl
  refine Wp.skip ?_
  refine Ends.seq ?_
  refine Wp.seq ?_
  refine Wp.block ?_
  refine Wp.seq ?_
  refine Wp.region ?_
  refine Ops.pv (pv_move rfl) rfl ?_
  refine Ops.pv (pv_move rfl) rfl ?_
  refine Ops.pv (pv_indexAddr (i := i) rfl rfl rfl (by omega)) rfl ?_
  refine Ops.pv (pv_load rfl rfl hr.1) rfl ?_
  refine Ops.pv (pv_conv rfl (uI_eq q)) rfl ?_
  refine Ops.pv (pv_move rfl) rfl ?_
  refine Ops.pv (pv_conv rfl (u64n (k := N) rfl (by omega))) rfl ?_
  refine Ops.pv (pv_rem rfl rfl (by omega) hkI) rfl ?_
  refine Ops.pv (pv_conv rfl (w64n (k := k) rfl (by omega))) rfl ?_
  refine Ops.pv (pv_add rfl rfl (w64n (k := k + 1) (by omega) (by omega))) rfl ?_
  refine Ops.pv (pv_move rfl) rfl ?_
  refine Ops.pv (pv_rem rfl rfl (by decide) (tmod_nat (b := 2) rfl)) rfl ?_
  refine Ops.pv (pv_mul rfl rfl (w64n (k := 2 * (i % 2)) (by omega) (by omega))) rfl ?_
  refine Ops.pv (pv_build rfl) rfl ?_
  refine Ops.ef rfl (ef_allocK tyZ38 rfl) ?_
  rintro _ _ ⟨b1, rfl, rfl⟩
  refine Ops.ef rfl (ef_storeK rfl rfl rfl rfl) ?_
  rintro _ _ ⟨rfl, rfl⟩
  refine Ops.nil ?_
  refine Ends.seq ?_
  refine Wp.seq ?_
  refine Wp.region ?_
  refine Ops.pv (pv_move rfl) rfl ?_
  refine Ops.pv (pv_loadK [_, _] rfl rfl rfl ⟨rfl, rfl, trivial⟩) rfl ?_
  refine Ops.pv (pv_move rfl) rfl ?_
  refine Ops.pv (pv_add rfl rfl (w64 (by omega) (by omega))) rfl ?_
  refine Ops.pv (pv_build rfl) rfl ?_
  refine Ops.ef rfl (ef_call (tr_mPlant _ cb1 _ p hCp (((k + 1 : Nat) : Int), ((2 * (i % 2) : Nat) : Int)) ⟨6, 20 + (i : Int), 1, 0, 0, 0⟩) rfl rfl) ?_
  rintro _ _ ⟨_, R2, ⟨rfl, hC3⟩, rfl, rfl⟩
  refine Ops.app ?_
  skip
  refine Ops.pv (pv_eql rfl rfl) rfl ?_
  refine Ops.nil ?_
  refine Ends.seq ?_
  refine Wp.cond_dect rfl (fun h88 => ?_) (fun h88 => ?_)
  ·
   refine Wp.region ?_
   refine Ops.pv (pv_move rfl) rfl ?_
   refine Ops.pv (pv_add rfl rfl (w64n (k := fr + 1) (by omega) (by omega))) rfl ?_
   refine Ops.pv (pv_assign rfl) rfl ?_
   refine Ops.nil ?_
   refine Ends.block_normal ?_
   refine Ends.seq ?_
   refine Wp.region ?_
   refine Ops.pv (pv_move rfl) rfl ?_
   refine Ops.pv (pv_add rfl rfl (w64n (k := i + 1) (by omega) (by omega))) rfl ?_
   refine Ops.pv (pv_assign rfl) rfl ?_
   refine Ops.nil ?_
   refine Ends.goes ?_
   refine Goes.back (hK (i + 1, fr + 1, (mPlant p (((k + 1 : Nat) : Int), ((2 * (i % 2) : Nat) : Int)) ⟨6, 20 + (i : Int), 1, 0, 0, 0⟩).2, R2) ⟨by dsimp only; omega, by dsimp only; omega, by dsimp only; omega, hC3, bu_frame hbu (by omega) (by omega) h88, by have := (plant_does hbu.ok h88).2.2.2.2; dsimp only; omega⟩ (by dsimp only; omega)) ⟨rfl, rfl, rfl, rfl, rfl, rfl, trivial⟩
  refine Wp.skip ?_
  refine Ends.block_normal ?_
  refine Ends.seq ?_
  refine Wp.region ?_
  refine Ops.pv (pv_move rfl) rfl ?_
  refine Ops.pv (pv_add rfl rfl (w64n (k := i + 1) (by omega) (by omega))) rfl ?_
  refine Ops.pv (pv_assign rfl) rfl ?_
  refine Ops.nil ?_
  refine Ends.goes ?_
  refine Goes.back (hK (i + 1, fr, (mPlant p (((k + 1 : Nat) : Int), ((2 * (i % 2) : Nat) : Int)) ⟨6, 20 + (i : Int), 1, 0, 0, 0⟩).2, R2) ⟨by dsimp only; omega, by dsimp only; omega, by dsimp only; omega, hC3, by dsimp only; rw [plant_no h88]; exact bu_more hbu, by dsimp only; rw [plant_no h88]; exact hfl⟩ (by dsimp only; omega)) ⟨rfl, rfl, rfl, rfl, rfl, rfl, trivial⟩
 refine Wp.exit ?_
 refine Ends.then_exit ?_
 refine Ends.then_exit ?_
 refine Ends.block_hit ?_
 refine Ends.seq ?_
 refine Wp.seq ?_
 refine Wp.region ?_
 refine Ops.pv (pv_assign rfl) rfl ?_
 refine Ops.nil ?_
 refine Ends.seq ?_
 refine Wp.seq ?_
 refine Wp.seq ?_
 refine Wp.region ?_
 refine Ops.pv (pv_assign rfl) rfl ?_
 refine Ops.nil ?_
 refine Ends.seq ?_
 refine Wp.block ?_
 have hch := bu_chain hbu
 refine Wp.loopK (σ := Nat × Nat × List CapM × Value × Hp × PS × Hp) [(0, _), (1, _), (7, _), (10, _)] (fun s => [(13, s.2.2.2.1), (14, .int .i64 s.1)]) (fun s => s.2.2.2.2.1 ++ (s.2.2.2.2.2.2 ++ (G ++ F))) (fun s => Slc 24 6 s.2.2.2.1 s.2.2.1.length (cel CapM.cells s.2.2.1) s.2.2.2.2.1 ∧ CapsH (N + 12) s.2.2.2.2.2.1 cb1 s.2.2.2.2.2.2 ∧ ChI N s.2.1 s.2.2.2.2.2.1 ∧ 1 ≤ s.2.1 ∧ nodesOf s.2.2.1 = toldTo N s.2.1 ∧ s.2.2.1.length + (dfull s.2.2.2.2.2.1.l).length = N + fr ∧ s.1 ≤ s.2.2.1.length) (fun s => 60 - s.1) (0, N, [], .slice none 0 0, [], p, H) ⟨Slc.nil _ _, hCp.more (by omega), hch, by dsimp only; omega, toldTo_nil N, by dsimp only; rw [List.length_nil]; omega, Nat.zero_le _⟩ ⟨rfl, rfl, rfl, rfl, trivial⟩ ⟨rfl, rfl, trivial⟩ (by intro w ho; (try dsimp only [List.nil_append, List.cons_append]); exact Drop.own ho) ?_
 rintro ⟨i, m, told, vt, Kt, p, H⟩ KK ⟨hsl, hCp, hch, hm1, hnd, htl0, hit⟩ hK
 dsimp only [List.cons_append, List.nil_append] at hK ⊢
 dsimp only at hsl hCp hch hm1 hnd htl0 hit ⊢
 have hk1 : (dget p.l (0, 1)).1.kind ≠ 0 := by have := hch.linkk (id := 1) (Nat.le_refl _) hm1; rw [show ((0 : Int), (1 : Int)) = (((1 : Nat) : Int) - 1, 1) from rfl, this]; decide
 refine Wp.seq ?_
 refine Wp.seq ?_
 refine Wp.region ?_
 refine Ops.pv (pv_move rfl) rfl ?_
 refine Ops.pv (pv_lss rfl rfl) rfl ?_
 refine Ops.nil ?_
 refine Ends.seq ?_
 refine Wp.cond_dect rfl (fun h5 => ?_) (fun h5 => (by exfalso; omega))
 rcases Classical.em (∃ t, Away ⟨p, [], K⟩ [(0, 1)] (0, 1) true t) with ⟨tb2, hb⟩ | hb
 ·
  refine Wp.skip ?_
  refine Ends.seq ?_
  refine Wp.seq ?_
  refine Wp.block ?_
  refine Wp.seq ?_
  refine Wp.region ?_
  refine Ops.pv (pv_move rfl) rfl ?_
  refine Ops.pv (pv_build rfl) rfl ?_
  refine Ops.pv (pv_move rfl) rfl ?_
  refine Ops.ef rfl (ef_call (tr_dlT hCp hch.ok (by omega) hk1 (k := K) (by omega) (by omega) hb) rfl rfl) ?_
  rintro _ _ ⟨_, _, ⟨v2, T2, H2, hs2, ⟨sb3, tb3, Ls3, Lt3, hS3, hT3, rfl⟩, rfl, rfl⟩, rfl, rfl⟩
  refine Ops.app ?_
  try rw [List.cons_append, List.append_assoc]
  obtain ⟨m2, d1, d2, d3, d4, d5⟩ := chain_del hb hch hm1 hnd
  obtain ⟨tl, htl⟩ : ∃ q, q = told ++ tb2.told := ⟨_, rfl⟩
  have htll : tl.length = told.length + tb2.told.length := by rw [htl, List.length_append]
  rw [← htl] at d2 d3 d5
  obtain rfl : m2 = 0 := d4 rfl
  have hfn := chain_none d1
  rw [hfn, List.length_nil] at d3
  refine Ops.pv (pv_move rfl) rfl ?_
  refine Ops.pv (pv_extract rfl rfl) rfl ?_
  refine Ops.pv (pv_extract rfl rfl) rfl ?_
  refine Ops.pv (pv_extract rfl rfl) rfl ?_
  refine Ops.pv (pv_assign rfl) rfl ?_
  refine Ops.pv (pv_assign rfl) rfl ?_
  refine Ops.pv (pv_assign rfl) rfl ?_
  refine Ops.nil ?_
  refine Ends.seq ?_
  refine Wp.seq ?_
  refine Wp.region ?_
  refine Ops.pv (pv_move rfl) rfl ?_
  refine Ops.pv (pv_move rfl) rfl ?_
  refine Ops.ef rfl (ef_appendV (H := Kt) rfl hsl rfl (hs2.view.mono (by intro p hp; simp [hp])) (cel_one _) (by omega) (by omega) rfl rfl) ?_
  rintro _ _ ⟨u1, K1, hu1, rfl, rfl⟩
  refine Ops.app ?_
  have hut : Slc 24 6 u1 tl.length (cel CapM.cells tl) K1 := by rw [htl, List.length_append, cel_app]; exact hu1
  obtain ⟨pu1, qu1, rfl⟩ := hut.form
  refine Ops.pv (pv_assign rfl) rfl ?_
  refine Ops.nil ?_
  refine Ends.seq ?_
  refine Wp.seq ?_
  refine Wp.seq ?_
  refine Wp.region ?_
  refine Ops.pv (pv_move rfl) rfl ?_
  refine Ops.nil ?_
  refine Ends.seq ?_
  refine Wp.cond_true rfl ?_
  refine Wp.exit ?_
  refine Ends.then_exit ?_
  refine Ends.block_miss rfl ?_
  refine Ends.then_exit ?_
  refine Ends.then_exit ?_
  refine Ends.block_hit ?_
  refine Ends.seq ?_
  refine Wp.seq ?_
  refine Wp.seq ?_
  refine Wp.region ?_
  refine Ops.pv (pv_move rfl) rfl ?_
  refine Ops.pv (pv_nilCheck rfl) rfl ?_
  refine Ops.pv (pv_fieldAddr0 rfl rfl) rfl ?_
  refine Ops.pv (pv_fieldAddr0 rfl rfl) rfl ?_
  refine Ops.pv (pv_load rfl rfl rfl) rfl ?_
  refine Ops.ef rfl (ef_call (sf_full hS3) rfl rfl) ?_
  rintro _ _ ⟨_, _, ⟨C1, hc1, rfl⟩, rfl, rfl⟩
  refine Ops.app ?_
  rw [hfn] at hc1
  obtain ⟨pp1, qq1, rfl⟩ := hc1.form
  refine Ops.pv (pv_len_slice (T := 41) rfl rfl) rfl ?_
  refine Ops.pv ((pv_neq rfl rfl).fls (by first | exact fun h => h rfl | decide | omega | assumption)) rfl ?_
  refine Ops.pv (pv_move rfl) rfl ?_
  refine Ops.pvg ⟨_, _, rfl, rfl, rfl⟩ (pv_move rfl) rfl ?_
  refine Ops.pvg ⟨_, _, rfl, rfl, rfl⟩ (pv_len_slice (T := 63) rfl rfl) rfl ?_
  refine Ops.pvg ⟨_, _, rfl, rfl, rfl⟩ (pv_move rfl) rfl ?_
  refine Ops.pvg ⟨_, _, rfl, rfl, rfl⟩ (pv_move rfl) rfl ?_
  refine Ops.pvg ⟨_, _, rfl, rfl, rfl⟩ (pv_add rfl rfl (w64n (k := N + fr) (by omega) (by omega))) rfl ?_
  refine Ops.pvg ⟨_, _, rfl, rfl, rfl⟩ ((pv_neq rfl rfl).fls (by first | exact fun h => h rfl | decide | omega | assumption)) rfl ?_
  refine Ops.pv (pv_pick_false rfl rfl) rfl ?_
  refine Ops.nil ?_
  refine Ends.seq ?_
  refine Wp.cond_false rfl ?_
  refine Wp.skip ?_
  refine Ends.seq ?_
  refine Wp.seq ?_
  refine Wp.region ?_
  refine Ops.pv (pv_move rfl) rfl ?_
  refine Ops.pv (pv_add rfl rfl (w64n (k := N + 1 - 0) (by omega) (by omega))) rfl ?_
  refine Ops.pv (pv_assign rfl) rfl ?_
  refine Ops.nil ?_
  refine Ends.seq ?_
  refine Wp.seq ?_
  refine Wp.seq ?_
  refine Wp.region ?_
  refine Ops.pv (pv_assign rfl) rfl ?_
  refine Ops.nil ?_
  refine Ends.seq ?_
  refine Wp.block ?_
  refine Wp.loopK (σ := Nat × Nat) [(7, _), (13, _)] (fun s => [(18, .int .i64 ((N + 1 - s.2 : Nat) : Int)), (19, .int .i64 s.1)]) (fun s => K1 ++ (cBlk cb1 sb3 tb3 :: (Ls3 ++ (Lt3 ++ (G ++ F))))) (fun s => s.1 ≤ tl.length ∧ s.2 = (nodesOf (tl.take s.1)).length) (fun s => tl.length - s.1) (0, 0) ⟨Nat.zero_le _, rfl⟩ ⟨rfl, rfl, trivial⟩ ⟨rfl, rfl, trivial⟩ (by intro w ho; (try dsimp only [List.nil_append, List.cons_append]); exact Drop.own ho) ?_
  rintro ⟨i, cn⟩ KK ⟨hi9, hcn⟩ hK
  dsimp only [List.cons_append, List.nil_append] at hK ⊢
  dsimp only at hi9 hcn ⊢
  refine Wp.seq ?_
  refine Wp.seq ?_
  refine Wp.region ?_
  refine Ops.pv (pv_move rfl) rfl ?_
  refine Ops.pv (pv_move rfl) rfl ?_
  refine Ops.pv (pv_len_slice (T := 63) rfl rfl) rfl ?_
  refine Ops.pv (pv_lss rfl rfl) rfl ?_
  refine Ops.nil ?_
  refine Ends.seq ?_
  refine Wp.cond_dect rfl (fun h6 => ?_) (fun h6 => ?_)
  ·
   obtain ⟨b5, o5, cap5, cc5, T5, f5, hv5, hbv5, hr5⟩ := hut.view.open (by omega)
   cases hv5
   obtain ⟨x, hx⟩ : ∃ s, tl[i]? = some s := ⟨_, List.getElem?_eq_getElem (by omega)⟩
   have hrex := cel_reads hr5 hx
   have hnt := nodes_take hx
   refine Wp.skip ?_
   refine Ends.seq ?_
   refine Wp.seq ?_
   refine Wp.block ?_
   refine Wp.seq ?_
   refine Wp.region ?_
   refine Ops.pv (pv_move rfl) rfl ?_
   refine Ops.pv (pv_move rfl) rfl ?_
   refine Ops.pv (pv_indexAddr (i := i) rfl rfl rfl (by omega)) rfl ?_
   refine Ops.pv (pv_fieldAddr rfl rfl) rfl ?_
   refine Ops.pv (pv_load rfl rfl hrex.1) rfl ?_
   refine Ops.pv (pv_eql rfl rfl) rfl ?_
   refine Ops.nil ?_
   refine Ends.seq ?_
   refine Wp.cond_dect rfl (fun h138 => ?_) (fun h138 => ?_)
   ·
    have hna := nodes_at d2 hx h138
    rw [← hcn] at hna
    rw [if_pos h138, ← hcn] at hnt
    have hrx : dradix tb2.p.l x.object = 0 := by rw [hna.1, show (N : Int) - (cn : Int) = ((N - cn : Nat) : Int) by omega]; exact d1.rout _ (by omega) (by omega)
    refine Wp.seq ?_
    refine Wp.seq ?_
    refine AnyH.start (K1 ++ (cBlk cb1 sb3 tb3 :: [])) 22 rfl ?_
    refine Tk 0 rfl rfl (pv_move rfl) rfl ?_
    refine Tk 1 rfl rfl (pv_move rfl) rfl ?_
    refine Tk 2 rfl rfl (pv_indexAddr (i := i) rfl rfl rfl (by omega)) rfl ?_
    refine Tk 3 rfl rfl (pv_fieldAddr rfl rfl) rfl ?_
    refine Tk 4 rfl rfl (pv_load rfl rfl hrex.2.1) rfl ?_
    refine Tk 5 rfl rfl (pv_move rfl) rfl ?_
    refine Tk 6 rfl rfl (pv_sub rfl rfl (w64n (k := N - cn) (by omega) (by omega))) rfl ?_
    refine Tk 7 rfl rfl ((pv_neq rfl rfl).fls (fun h => h (by omega))) rfl ?_
    refine Tk 8 rfl rfl (pv_move rfl) rfl ?_
    refine Tk 9 rfl ⟨_, _, rfl, rfl, rfl⟩ (pv_move rfl) rfl ?_
    refine Tk 10 rfl ⟨_, _, rfl, rfl, rfl⟩ (pv_nilCheck rfl) rfl ?_
    refine Tk 11 rfl ⟨_, _, rfl, rfl, rfl⟩ (pv_fieldAddr0 rfl rfl) rfl ?_
    refine Tk 12 rfl ⟨_, _, rfl, rfl, rfl⟩ (pv_fieldAddr0 rfl rfl) rfl ?_
    refine Tk 13 rfl ⟨_, _, rfl, rfl, rfl⟩ (pv_load rfl rfl rfl) rfl ?_
    refine Tk 14 rfl ⟨_, _, rfl, rfl, rfl⟩ (pv_move rfl) rfl ?_
    refine Tk 15 rfl ⟨_, _, rfl, rfl, rfl⟩ (pv_move rfl) rfl ?_
    refine Tk 16 rfl ⟨_, _, rfl, rfl, rfl⟩ (pv_indexAddr (i := i) rfl rfl rfl (by omega)) rfl ?_
    refine Tk 17 rfl ⟨_, _, rfl, rfl, rfl⟩ (pv_fieldAddr rfl rfl) rfl ?_
    refine Tk 18 rfl ⟨_, _, rfl, rfl, rfl⟩ (pv_load rfl rfl hrex.2.1) rfl ?_
    refine AnyH.one 19 (by kernel_rfl) ?_
    refine Turn.ef rfl ⟨_, _, rfl, rfl, rfl⟩ (ef_callr ((sf_radix hS3 x.object).eq (r' := .int .i64 0) (by rw [hrx])) rfl rfl) ?_ ?_
    ·
     rintro _ _ ⟨rfl, rfl⟩; infer_instance
    rintro _ _ ⟨rfl, rfl⟩
    refine Tk 20 rfl ⟨_, _, rfl, rfl, rfl⟩ ((pv_neq rfl rfl).fls (by first | exact fun h => h rfl | decide | omega | assumption)) rfl ?_
    refine Tk 21 rfl rfl (pv_pick_false rfl rfl) rfl ?_
    refine AnyH.done (by kernel_rfl) ?_
    refine Ends.seq ?_
    refine Wp.cond_false rfl ?_
    refine Wp.skip ?_
    refine Ends.seq ?_
    refine Wp.region ?_
    refine Ops.pv (pv_move rfl) rfl ?_
    refine Ops.pv (pv_sub rfl rfl (w64n (k := N + 1 - (cn + 1)) (by omega) (by omega))) rfl ?_
    refine Ops.pv (pv_assign rfl) rfl ?_
    refine Ops.nil ?_
    refine Ends.block_normal ?_
    refine Ends.seq ?_
    refine Wp.region ?_
    refine Ops.pv (pv_move rfl) rfl ?_
    refine Ops.pv (pv_add rfl rfl (w64n (k := i + 1) (by omega) (by omega))) rfl ?_
    refine Ops.pv (pv_assign rfl) rfl ?_
    refine Ops.nil ?_
    refine Ends.goes ?_
    refine Goes.back (hK (i + 1, cn + 1) ⟨by dsimp only; omega, hnt.symm⟩ (by dsimp only; omega)) ⟨rfl, rfl, rfl, rfl, trivial⟩
   rw [if_neg h138, ← hcn] at hnt
   refine Wp.skip ?_
   refine Ends.block_normal ?_
   refine Ends.seq ?_
   refine Wp.region ?_
   refine Ops.pv (pv_move rfl) rfl ?_
   refine Ops.pv (pv_add rfl rfl (w64n (k := i + 1) (by omega) (by omega))) rfl ?_
   refine Ops.pv (pv_assign rfl) rfl ?_
   refine Ops.nil ?_
   refine Ends.goes ?_
   refine Goes.back (hK (i + 1, cn) ⟨by dsimp only; omega, hnt.symm⟩ (by dsimp only; omega)) ⟨rfl, rfl, rfl, rfl, trivial⟩
  have hcnN : cn = N := by rw [hcn, show i = tl.length by omega, List.take_length]; exact nodes_len d2
  refine Wp.exit ?_
  refine Ends.then_exit ?_
  refine Ends.then_exit ?_
  refine Ends.block_hit ?_
  refine Ends.seq ?_
  refine Wp.seq ?_
  refine Wp.region ?_
  refine Ops.pv (pv_move rfl) rfl ?_
  refine Ops.pv ((pv_eql rfl rfl).tru (by first | rfl | decide | omega | assumption | (simp; done) | (simp; omega))) rfl ?_
  refine Ops.pv (pv_move rfl) rfl ?_
  refine Ops.pvg ⟨_, _, rfl, rfl, rfl⟩ (pv_move rfl) rfl ?_
  refine Ops.pvg ⟨_, _, rfl, rfl, rfl⟩ (pv_nilCheck rfl) rfl ?_
  refine Ops.pvg ⟨_, _, rfl, rfl, rfl⟩ (pv_fieldAddr0 rfl rfl) rfl ?_
  refine Ops.pvg ⟨_, _, rfl, rfl, rfl⟩ (pv_fieldAddr0 rfl rfl) rfl ?_
  refine Ops.pvg ⟨_, _, rfl, rfl, rfl⟩ (pv_load rfl rfl rfl) rfl ?_
  refine Ops.efg ⟨_, _, rfl, rfl, rfl⟩ (ef_callr ((sf_radix hS3 0).eq (r' := .int .i64 2) (by rw [d1.r0])) rfl rfl) ?_
  rintro _ _ ⟨rfl, rfl⟩
  refine Ops.pvg ⟨_, _, rfl, rfl, rfl⟩ ((pv_eql rfl rfl).tru (by first | rfl | decide | omega | assumption | (simp; done) | (simp; omega))) rfl ?_
  refine Ops.pv (pv_pick_true rfl rfl) rfl ?_
  refine Ops.pv (pv_assign rfl) rfl ?_
  refine Ops.nil ?_
  refine Ends.seq ?_
  refine Wp.ret ?_
  exact Ends.ret (res1 rfl rfl) ⟨rfl, rfl⟩
 refine Wp.skip ?_
 refine Ends.seq ?_
 refine Wp.seq ?_
 refine Wp.block ?_
 refine Wp.seq ?_
 refine Wp.region ?_
 refine Ops.pv (pv_move rfl) rfl ?_
 refine Ops.pv (pv_build rfl) rfl ?_
 refine Ops.pv (pv_move rfl) rfl ?_
 refine Ops.ef rfl (ef_call (tr_dlF hCp hch.ok (by omega) hk1 (k := K) (by omega) (by omega) hb) rfl rfl) ?_
 rintro _ _ ⟨_, _, ⟨tb2, v2, T2, H2, hA, hs2, hC2, rfl, rfl⟩, rfl, rfl⟩
 refine Ops.app ?_
 obtain ⟨m2, d1, d2, d3, d4, d5⟩ := chain_del hA hch hm1 hnd
 obtain ⟨tl, htl⟩ : ∃ q, q = told ++ tb2.told := ⟨_, rfl⟩
 have htll : tl.length = told.length + tb2.told.length := by rw [htl, List.length_append]
 rw [← htl] at d2 d3 d5
 obtain ⟨d6, d7⟩ := d5 rfl
 refine Ops.pv (pv_move rfl) rfl ?_
 refine Ops.pv (pv_extract rfl rfl) rfl ?_
 refine Ops.pv (pv_extract rfl rfl) rfl ?_
 refine Ops.pv (pv_extract rfl rfl) rfl ?_
 refine Ops.pv (pv_assign rfl) rfl ?_
 refine Ops.pv (pv_assign rfl) rfl ?_
 refine Ops.pv (pv_assign rfl) rfl ?_
 refine Ops.nil ?_
 refine Ends.seq ?_
 refine Wp.seq ?_
 refine Wp.region ?_
 refine Ops.pv (pv_move rfl) rfl ?_
 refine Ops.pv (pv_move rfl) rfl ?_
 refine Ops.ef rfl (ef_appendV (H := Kt) rfl hsl rfl (hs2.view.mono (by intro p hp; simp [hp])) (cel_one _) (by omega) (by omega) rfl rfl) ?_
 rintro _ _ ⟨u2, K2, hu2, rfl, rfl⟩
 refine Ops.app ?_
 have hut : Slc 24 6 u2 tl.length (cel CapM.cells tl) K2 := by rw [htl, List.length_append, cel_app]; exact hu2
 obtain ⟨pu2, qu2, rfl⟩ := hut.form
 refine Ops.pv (pv_assign rfl) rfl ?_
 refine Ops.nil ?_
 refine Ends.seq ?_
 refine Wp.seq ?_
 refine Wp.seq ?_
 refine Wp.region ?_
 refine Ops.pv (pv_move rfl) rfl ?_
 refine Ops.nil ?_
 refine Ends.seq ?_
 refine Wp.cond_false rfl ?_
 refine Wp.skip ?_
 refine Ends.seq ?_
 refine Wp.seq ?_
 refine Wp.region ?_
 refine Ops.pv (pv_move rfl) rfl ?_
 refine Ops.pv ((pv_neq rfl rfl).fls (by first | exact fun h => h rfl | decide | omega | assumption)) rfl ?_
 refine Ops.nil ?_
 refine Ends.seq ?_
 refine Wp.cond_false rfl ?_
 refine Wp.skip ?_
 refine Ends.block_normal ?_
 refine Ends.seq ?_
 refine Wp.region ?_
 refine Ops.pv (pv_move rfl) rfl ?_
 refine Ops.pv (pv_add rfl rfl (w64n (k := i + 1) (by omega) (by omega))) rfl ?_
 refine Ops.pv (pv_assign rfl) rfl ?_
 refine Ops.nil ?_
 refine Ends.goes ?_
 refine Goes.back (hK (i + 1, m2, tl, .slice pu2 tl.length qu2, K2, tb2.p, H2) ⟨hut, hC2, d1, d6, d2, by dsimp only; omega, by dsimp only; omega⟩ (by dsimp only; omega)) ⟨rfl, rfl, rfl, rfl, rfl, rfl, trivial⟩
end Go.Proofs.Ytdodfnjmkpgdbaa
end
