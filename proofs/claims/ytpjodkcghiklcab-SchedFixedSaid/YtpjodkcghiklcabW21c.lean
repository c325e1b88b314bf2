/- Walks of SchedShares and SchedFixed: each returns true, whatever the input. No condition. -/
import Derived.Test.YtpjodkcghiklcabW21b
set_option linter.unusedVariables false
set_option linter.unusedSimpArgs false
namespace Go.Proofs.Ytpjodkcghiklcab
open Go.SL

set_option maxHeartbeats 4000000 in
theorem tr_schedShares (G : Hp) (hnd : (G.map Prod.fst).Nodup) (ta : Option Addr) (tc : Nat) (T : Ones) (hta : ArgS G 2 ta (T.map oneC)) (htc : T.length ≤ tc) (htl : T.length ≤ maxLen) (n : Int) : TrR Try.prog 3 [.slice ta T.length tc, .int .i64 n] (G) (.bool true) := by
  have hv := argS_view hnd hta htc
  refine Tr.enter Try.func3 rfl Try.ntmps3 rfl (fun W F => ?_)
  refine Wp.app ?_
  refine Wp.seq ?_
  refine Wp.region ?_
  refine Ops.pv (pv_assign rfl) rfl ?_
  refine Ops.nil ?_
  refine Ends.seq ?_
  refine Wp.seq ?_
  refine Wp.seq ?_
  refine Wp.region ?_
  refine Ops.ef rfl (ef_callr (tr_works21) rfl rfl) ?_
  rintro _ _ ⟨rfl, rfl⟩
  first | refine Ops.pv (pv_not_dec rfl) rfl ?_ | refine Ops.pv (pv_not rfl) rfl ?_
  refine Ops.nil ?_
  refine Ends.seq ?_
  refine Wp.cond_false rfl ?_
  refine Wp.skip ?_
  refine Ends.seq ?_
  refine Wp.seq ?_
  refine Wp.seq ?_
  refine Wp.region ?_
  refine Ops.pv (pv_move rfl) rfl ?_
  refine Ops.pv (pv_len_slice (T := 22) rfl rfl) rfl ?_
  refine Ops.pv (pv_gtr rfl rfl) rfl ?_
  refine Ops.nil ?_
  refine Ends.seq ?_
  first | refine Wp.cond_dect rfl (fun h1 => ?_) (fun h1 => ?_) | refine Wp.cond_t rfl (fun h1 => ?_) (fun h1 => ?_)
  · refine Wp.seq ?_
    refine Wp.region ?_
    refine Ops.pv (pv_assign rfl) rfl ?_
    refine Ops.nil ?_
    refine Ends.seq ?_
    refine Wp.ret ?_
    refine Ends.then_ret ?_
    exact Ends.ret (res1 rfl rfl) ⟨rfl, rfl⟩
  · rcases Decidable.em (tmsOk T) with hT | hT
    · have hT1 := hT.1
      have hsl := sumT_le hT (n := T.length) (Nat.le_refl _)
      have hs0 := sumT_nonneg hT (n := T.length) (Nat.le_refl _)
      refine Wp.skip ?_
      refine Ends.seq ?_
      refine Wp.seq ?_
      refine Wp.region ?_
      refine Ops.pv (pv_move rfl) rfl ?_
      refine Ops.ef rfl (ef_call (tr_to G ta tc T hv (by omega)) rfl rfl) ?_
      rintro _ _ ⟨_, _, ⟨C1, hc1, rfl⟩, rfl, rfl⟩
      refine Ops.app ?_
      obtain ⟨p1, q1, rfl⟩ := hc1.form
      refine Ops.ef rfl (ef_call (tr_sNewOk C1 _ _ T hc1.view (by omega) hT) rfl rfl) ?_
      rintro _ _ ⟨_, _, ⟨sb1, HS1, rfl, hZ1, rfl⟩, rfl, rfl⟩
      refine Ops.app ?_
      refine Ops.pv (pv_move rfl) rfl ?_
      refine Ops.pv (pv_extract rfl rfl) rfl ?_
      refine Ops.pv (pv_extract rfl rfl) rfl ?_
      refine Ops.pv (pv_assign rfl) rfl ?_
      refine Ops.pv (pv_assign rfl) rfl ?_
      refine Ops.nil ?_
      refine Ends.seq ?_
      refine Wp.seq ?_
      refine Wp.seq ?_
      refine Wp.region ?_
      refine Ops.pv (pv_move rfl) rfl ?_
      refine Ops.pv ((pv_neq rfl rfl).fls (by first | exact fun h => h rfl | decide | omega | assumption)) rfl ?_
      refine Ops.pv (pv_move rfl) rfl ?_
      refine Ops.pvg ⟨_, _, rfl, rfl, rfl⟩ (pv_move rfl) rfl ?_
      refine Ops.pvg ⟨_, _, rfl, rfl, rfl⟩ (pv_eql_nil rfl rfl) rfl ?_
      refine Ops.pv (pv_pick_false rfl rfl) rfl ?_
      refine Ops.nil ?_
      refine Ends.seq ?_
      refine Wp.cond_false rfl ?_
      refine Wp.skip ?_
      refine Ends.seq ?_
      refine Wp.seq ?_
      refine Wp.region ?_
      refine Ops.ef rfl (ef_allocK tyZ30 rfl) ?_
      rintro _ _ ⟨b1, rfl, rfl⟩
      refine Ops.ef rfl (ef_allocK tyZ30 rfl) ?_
      rintro _ _ ⟨b2, rfl, rfl⟩
      refine Ops.nil ?_
      refine Ends.seq ?_
      refine Wp.seq ?_
      refine Wp.region ?_
      refine Ops.pv (pv_assign rfl) rfl ?_
      refine Ops.nil ?_
      refine Ends.seq ?_
      refine Wp.seq ?_
      refine Wp.seq ?_
      refine Wp.region ?_
      refine Ops.pv (pv_assign rfl) rfl ?_
      refine Ops.nil ?_
      refine Ends.seq ?_
      refine Wp.block ?_
      refine Wp.loopK (σ := Nat) [(0, _), (1, _), (5, _), (7, _), (8, _)] (fun s => [(9, .int .i64 (sumT T s)), (10, .int .i64 s)]) (fun s => (b1, .cells (arrC (wantF T s)).toArray 30) :: ((b2, .cells (arrC (fun _ => 0)).toArray 30) :: (HS1 ++ (G ++ F)))) (fun s => s ≤ T.length) (fun s => T.length - s) 0 (Nat.zero_le _) ⟨rfl, rfl, rfl, rfl, rfl, trivial⟩ ⟨rfl, rfl, trivial⟩ (by intro w ho; exact Drop.own (M := (b1, .cells [.int .i64 0, .int .i64 0, .int .i64 0, .int .i64 0].toArray 30) :: ((b2, .cells [.int .i64 0, .int .i64 0, .int .i64 0, .int .i64 0].toArray 30) :: (HS1 ++ (G ++ F)))) ho) ?_
      rintro i KK hi hK
      dsimp only [List.cons_append, List.nil_append] at hK ⊢
      refine Wp.seq ?_
      refine Wp.seq ?_
      refine Wp.region ?_
      refine Ops.pv (pv_move rfl) rfl ?_
      refine Ops.pv (pv_move rfl) rfl ?_
      refine Ops.pv (pv_len_slice (T := 22) rfl rfl) rfl ?_
      refine Ops.pv (pv_lss rfl rfl) rfl ?_
      refine Ops.nil ?_
      refine Ends.seq ?_
      first | refine Wp.cond_dect rfl (fun h2 => ?_) (fun h2 => ?_) | refine Wp.cond_t rfl (fun h2 => ?_) (fun h2 => ?_)
      · obtain ⟨b, o, cap, cc, T0, f, hv1, hbv, hr⟩ := hv.open (by omega)
        cases hv1
        obtain ⟨q0, q1⟩ := one_read hr (tkd_get (show i < T.length by omega))
        have htk := hT.2 _ (List.mem_of_getElem? (tkd_get (show i < T.length by omega)))
        have htk1 := htk.1
        have htk2 := htk.2
        obtain ⟨dn, hdn⟩ : ∃ n : Nat, (tkd T i).1 = n := ⟨(tkd T i).1.toNat, by have := htk.1; omega⟩
        have hd4 : dn < 4 := by have := htk.1; omega
        rw [hdn] at q0
        have hnew := want_step (T := T) (i := i) hdn
        obtain ⟨hw0, hw1⟩ := wantF_le hT dn (i := i) (by omega)
        have hm0 := sumT_nonneg hT (n := i) (by omega)
        have hm1 := sumT_mono hT (n := i + 1) (m := T.length) (by omega) (Nat.le_refl _)
        have hst : sumT T (i + 1) = sumT T i + (tkd T i).2 := rfl
        have hset : ∀ x : Int, SetL (arrC (wantF T i)) (0 + dn * 1) [.int .i64 x] (arrC (fset (wantF T i) dn x)) := fun x => arr_setL hd4
        have harr := arr_nth (f := wantF T i) hd4
        refine Wp.skip ?_
        refine Ends.seq ?_
        refine Wp.seq ?_
        refine Wp.block ?_
        refine Wp.seq ?_
        refine AnyH.start G 20 rfl ?_
        refine AnyH.take 0 rfl (by kernel_rfl) (by kernel_rfl) (by kernel_rfl) PF.pf rfl (pv_move rfl) rfl ?_
        refine AnyH.take 1 rfl (by kernel_rfl) (by kernel_rfl) (by kernel_rfl) PF.pf rfl (pv_move rfl) rfl ?_
        refine AnyH.take 2 rfl (by kernel_rfl) (by kernel_rfl) (by kernel_rfl) PF.pf rfl (pv_indexAddr rfl rfl rfl (by omega)) rfl ?_
        first | refine AnyH.take 3 rfl (by kernel_rfl) (by kernel_rfl) (by kernel_rfl) PF.pf rfl (pv_fieldAddr0 rfl rfl) rfl ?_ | refine AnyH.take 3 rfl (by kernel_rfl) (by kernel_rfl) (by kernel_rfl) PF.pf rfl (pv_fieldAddr rfl rfl) rfl ?_
        refine AnyH.take 4 rfl (by kernel_rfl) (by kernel_rfl) (by kernel_rfl) PF.pf rfl (pv_load rfl rfl q0) rfl ?_
        refine AnyH.take 5 rfl (by kernel_rfl) (by kernel_rfl) (by kernel_rfl) PF.pf rfl (pv_move rfl) rfl ?_
        refine AnyH.take 6 rfl (by kernel_rfl) (by kernel_rfl) (by kernel_rfl) PF.pf rfl (pv_move rfl) rfl ?_
        refine AnyH.take 7 rfl (by kernel_rfl) (by kernel_rfl) (by kernel_rfl) PF.pf rfl (pv_indexAddr rfl rfl rfl (by omega)) rfl ?_
        first | refine AnyH.take 8 rfl (by kernel_rfl) (by kernel_rfl) (by kernel_rfl) PF.pf rfl (pv_fieldAddr0 rfl rfl) rfl ?_ | refine AnyH.take 8 rfl (by kernel_rfl) (by kernel_rfl) (by kernel_rfl) PF.pf rfl (pv_fieldAddr rfl rfl) rfl ?_
        refine AnyH.take 9 rfl (by kernel_rfl) (by kernel_rfl) (by kernel_rfl) PF.pf rfl (pv_load rfl rfl q0) rfl ?_
        refine AnyH.take 10 rfl (by kernel_rfl) (by kernel_rfl) (by kernel_rfl) PF.pf rfl (pv_indexAddrA (i := dn) rfl rfl rfl hd4) rfl ?_
        refine AnyH.take 12 rfl (by kernel_rfl) (by kernel_rfl) (by kernel_rfl) PF.pf rfl (pv_move rfl) rfl ?_
        refine AnyH.take 13 rfl (by kernel_rfl) (by kernel_rfl) (by kernel_rfl) PF.pf rfl (pv_move rfl) rfl ?_
        refine AnyH.take 14 rfl (by kernel_rfl) (by kernel_rfl) (by kernel_rfl) PF.pf rfl (pv_indexAddr rfl rfl rfl (by omega)) rfl ?_
        first | refine AnyH.take 15 rfl (by kernel_rfl) (by kernel_rfl) (by kernel_rfl) PF.pf rfl (pv_fieldAddr0 rfl rfl) rfl ?_ | refine AnyH.take 15 rfl (by kernel_rfl) (by kernel_rfl) (by kernel_rfl) PF.pf rfl (pv_fieldAddr rfl rfl) rfl ?_
        refine AnyH.take 16 rfl (by kernel_rfl) (by kernel_rfl) (by kernel_rfl) PF.pf rfl (pv_load rfl rfl q1) rfl ?_
        refine AnyH.one 11 (by kernel_rfl) ?_
        refine Turn.ef rfl rfl (ef_pv (pv_load rfl rfl harr) rfl) ?_ ?_
        · rintro _ _ ⟨rfl, rfl⟩; infer_instance
        rintro _ _ ⟨rfl, rfl⟩
        first | refine AnyH.take 17 rfl (by kernel_rfl) (by kernel_rfl) (by kernel_rfl) PF.pf rfl (pv_add rfl rfl (w64 (by omega) (by omega))) rfl ?_ | refine AnyH.take 17 rfl (by kernel_rfl) (by kernel_rfl) (by kernel_rfl) PF.pf rfl (pv_add rfl rfl rfl) rfl ?_
        refine AnyH.take 18 rfl (by kernel_rfl) (by kernel_rfl) (by kernel_rfl) PF.pf rfl (pv_indexAddrA (i := dn) rfl rfl rfl hd4) rfl ?_
        refine AnyH.one 19 (by kernel_rfl) ?_
        refine Turn.ef rfl rfl (ef_store1 rfl rfl (by first | rfl | assumption) (by first | rfl | assumption)) ?_ ?_
        · rintro _ _ ⟨rfl, rfl⟩; infer_instance
        rintro _ _ ⟨rfl, rfl⟩
        refine AnyH.done (by kernel_rfl) ?_
        refine Ends.seq ?_
        refine Wp.region ?_
        refine Ops.pv (pv_move rfl) rfl ?_
        refine Ops.pv (pv_move rfl) rfl ?_
        refine Ops.pv (pv_move rfl) rfl ?_
        refine Ops.pv (pv_indexAddr rfl rfl rfl (by omega)) rfl ?_
        first | refine Ops.pv (pv_fieldAddr0 rfl rfl) rfl ?_ | refine Ops.pv (pv_fieldAddr rfl rfl) rfl ?_
        refine Ops.pv (pv_load rfl rfl q1) rfl ?_
        first | refine Ops.pv (pv_add rfl rfl (w64 (by omega) (by omega))) rfl ?_ | refine Ops.pv (pv_add rfl rfl rfl) rfl ?_
        refine Ops.pv (pv_assign rfl) rfl ?_
        refine Ops.nil ?_
        refine Ends.block_normal ?_
        refine Ends.seq ?_
        refine Wp.region ?_
        refine Ops.pv (pv_move rfl) rfl ?_
        first | refine Ops.pv (pv_add rfl rfl (w64 (by omega) (by omega))) rfl ?_ | refine Ops.pv (pv_add rfl rfl rfl) rfl ?_
        refine Ops.pv (pv_assign rfl) rfl ?_
        refine Ops.nil ?_
        refine Ends.goes ?_
        rw [hnew]
        refine Goes.back (hK (i + 1) (by omega) (by omega)) ⟨rfl, rfl, rfl, rfl, rfl, rfl, rfl, trivial⟩
      · refine Wp.exit ?_
        refine Ends.then_exit ?_
        refine Ends.then_exit ?_
        refine Ends.block_hit ?_
        refine Ends.seq ?_
        refine Wp.seq ?_
        refine Wp.region ?_
        refine Ops.pv (pv_move rfl) rfl ?_
        refine Ops.pv (pv_conv rfl (uI_eq _)) rfl ?_
        refine Ops.pv (pv_rem rfl rfl (by omega) (tmod_nat (b := 2) rfl)) rfl ?_
        refine Ops.pv (pv_conv rfl (w64n rfl (by omega))) rfl ?_
        refine Ops.pv (pv_add rfl rfl (w64n (k := 1 + uI n % 2) (by omega) (by omega))) rfl ?_
        refine Ops.pv (pv_assign rfl) rfl ?_
        refine Ops.nil ?_
        refine Ends.seq ?_
        refine Wp.seq ?_
        refine Wp.region ?_
        have hiT : T.length = i := by omega
        subst hiT
        obtain ⟨r, hrn, hr12⟩ : ∃ r : Nat, 1 + uI n % 2 = r ∧ (r = 1 ∨ r = 2) := ⟨_, rfl, by omega⟩
        rw [hrn]
        have hms : 0 ≤ (r : Int) * sumT T T.length ∧ (r : Int) * sumT T T.length ≤ 32000 := by rcases hr12 with h9 | h9 <;> (rw [h9]; omega)
        have hml : 0 ≤ (r : Int) * (T.length : Int) ∧ (r : Int) * (T.length : Int) ≤ 32 := by rcases hr12 with h9 | h9 <;> (rw [h9]; omega)
        refine Ops.pv (pv_assign rfl) rfl ?_
        refine Ops.nil ?_
        refine Ends.seq ?_
        refine Wp.seq ?_
        refine Wp.seq ?_
        refine Wp.region ?_
        refine Ops.pv (pv_assign rfl) rfl ?_
        refine Ops.nil ?_
        refine Ends.seq ?_
        refine Wp.block ?_
        refine Wp.loopK (σ := Nat × Nat × Int × Nat × Hp × (Nat → Int) × Nat) [(0, _), (1, _), (5, _), (7, _), (8, _), (9, _)] (fun s => [(11, .int .i64 s.2.2.2.2.2.2), (12, .int .i64 s.1)]) (fun s => (b1, .cells (arrC (wantF T T.length)).toArray 30) :: ((b2, .cells (arrC s.2.2.2.2.2.1).toArray 30) :: (s.2.2.2.2.1 ++ (G ++ F)))) (fun s => At T s.2.1 s.2.2.1 ∧ ((s.1 : Nat) : Int) = s.2.2.2.1 * sumT T T.length + posT T s.2.1 s.2.2.1 ∧ SchH T s.2.1 s.2.2.1 (fun _ => []) sb1 s.2.2.2.2.1 ∧ (∀ d, d < 4 → s.2.2.2.2.2.1 d = s.2.2.2.1 * wantF T T.length d + gotF T s.2.1 s.2.2.1 d) ∧ (∀ d, d < 4 → 0 ≤ s.2.2.2.2.2.1 d ∧ s.2.2.2.2.2.1 d ≤ s.1) ∧ s.2.2.2.2.2.2 = s.2.2.2.1 * T.length + s.2.1 ∧ ((s.1 : Nat) : Int) ≤ (r : Int) * sumT T T.length ∧ s.2.2.2.2.2.2 ≤ s.1) (fun s => (((r : Int) * sumT T T.length) - s.1).toNat) (0, 0, (tkd T 0).2, 0, HS1, fun _ => 0, 0) ⟨At.start hT, by dsimp only; unfold posT; simp [sumT], hZ1, fun d _ => by (dsimp only; rw [gotF_start]; simp), fun d _ => ⟨by dsimp only; omega, by dsimp only; omega⟩, by simp, by dsimp only; omega, by dsimp only; omega⟩ ⟨rfl, rfl, rfl, rfl, rfl, rfl, trivial⟩ ⟨rfl, rfl, trivial⟩ (by intro w ho; (try dsimp only [List.nil_append, List.cons_append]); exact Drop.own ho) ?_
        rintro ⟨i, e, l, rr, H, got, bg⟩ KK ⟨hAt, hip, hA, hg, hgle, hbg, him, hbi⟩ hK
        dsimp only [List.cons_append, List.nil_append] at hK ⊢
        dsimp only at hAt hip hA hg hgle hbg him hbi ⊢
        refine Wp.seq ?_
        refine Wp.seq ?_
        refine Wp.region ?_
        refine Ops.pv (pv_move rfl) rfl ?_
        refine Ops.pv (pv_move rfl) rfl ?_
        refine Ops.pv (pv_move rfl) rfl ?_
        refine Ops.pv (pv_mul rfl rfl (w64 (by omega) (by omega))) rfl ?_
        refine Ops.pv (pv_lss rfl rfl) rfl ?_
        refine Ops.nil ?_
        refine Ends.seq ?_
        first | refine Wp.cond_dect rfl (fun h3 => ?_) (fun h3 => ?_) | refine Wp.cond_t rfl (fun h3 => ?_) (fun h3 => ?_)
        · obtain ⟨hdn, hd4⟩ := hAt.domN
          have hset : ∀ x : Int, SetL (arrC got) (0 + domN T e * 1) [.int .i64 x] (arrC (fset got (domN T e) x)) := fun x => arr_setL hd4
          have harr := arr_nth (f := got) hd4
          have hgd := hgle (domN T e) hd4
          obtain ⟨hp1, hp2, hp3, hp4⟩ := hAt.pos_ge
          refine Wp.skip ?_
          refine Ends.seq ?_
          refine Wp.seq ?_
          refine Wp.block ?_
          refine Wp.seq ?_
          refine Wp.region ?_
          refine Ops.pv (pv_move rfl) rfl ?_
          refine Ops.ef rfl (ef_callr ((tr_sDomain sb1 _ T e l _ hA hAt).eq (by rw [hdn])) rfl rfl) ?_
          rintro _ _ ⟨rfl, rfl⟩
          refine Ops.pv (pv_indexAddrA (i := domN T e) rfl rfl rfl hd4) rfl ?_
          refine Ops.pv (pv_load rfl rfl harr) rfl ?_
          first | refine Ops.pv (pv_add rfl rfl (w64 (by omega) (by omega))) rfl ?_ | refine Ops.pv (pv_add rfl rfl rfl) rfl ?_
          refine Ops.pv (pv_indexAddrA (i := domN T e) rfl rfl rfl hd4) rfl ?_
          refine Ops.ef rfl (ef_store1 rfl rfl (by first | rfl | assumption) (by first | rfl | assumption)) ?_
          rintro _ _ ⟨rfl, rfl⟩
          refine Ops.nil ?_
          refine Ends.seq ?_
          refine Wp.seq ?_
          refine Wp.region ?_
          refine Ops.pv (pv_move rfl) rfl ?_
          refine Ops.ef rfl (ef_call (tr_sTick sb1 _ T e l _ hA hAt) rfl rfl) ?_
          rintro _ _ ⟨_, _, ⟨rfl, hA1⟩, rfl, rfl⟩
          refine Ops.app ?_
          refine Ops.nil ?_
          refine Ends.seq ?_
          refine Wp.cond_t rfl (fun h4 => ?_) (fun h4 => ?_)
          · refine Wp.region ?_
            refine Ops.pv (pv_move rfl) rfl ?_
            first | refine Ops.pv (pv_add rfl rfl (w64 (by omega) (by omega))) rfl ?_ | refine Ops.pv (pv_add rfl rfl rfl) rfl ?_
            refine Ops.pv (pv_assign rfl) rfl ?_
            refine Ops.nil ?_
            refine Ends.block_normal ?_
            refine Ends.seq ?_
            refine Wp.region ?_
            refine Ops.pv (pv_move rfl) rfl ?_
            first | refine Ops.pv (pv_add rfl rfl (w64 (by omega) (by omega))) rfl ?_ | refine Ops.pv (pv_add rfl rfl rfl) rfl ?_
            refine Ops.pv (pv_assign rfl) rfl ?_
            refine Ops.nil ?_
            refine Ends.goes ?_
            have hsp := share_pos hAt rr
            have hsb := share_begun hAt rr
            have hnb : l - 1 > 0 ↔ False := by have hq9 : nxB l = true := (by assumption); unfold nxB at hq9; simp only [decide_eq_true_eq] at hq9; exact iff_false_intro hq9
            refine Goes.back (hK (i + 1, nxE T e l, nxL T e l, rrN T e l rr, _, fset got (domN T e) (got (domN T e) + 1), bg + 1) ⟨hAt.next, ?_, hA1, fun d hd => ?_, fun d hd => ?_, ?_, ?_, ?_⟩ (by dsimp only; push_cast; omega)) ⟨rfl, rfl, rfl, rfl, rfl, rfl, rfl, rfl, trivial⟩
            · dsimp only; push_cast; omega
            · dsimp only; rw [share_got hAt rr d]; unfold fset
              by_cases ed : d = domN T e
              · subst ed; rw [if_pos rfl, if_pos hdn, hg _ hd]
              · rw [if_neg ed, if_neg (fun h9 => ed (by omega)), hg _ hd]; omega
            · dsimp only; have h7 := hgle d hd; unfold fset; split <;> (push_cast; omega)
            · dsimp only; rw [hsb]; simp only [hnb]; simp; omega
            · dsimp only; push_cast; omega
            · dsimp only; omega
          · refine Wp.skip ?_
            refine Ends.block_normal ?_
            refine Ends.seq ?_
            refine Wp.region ?_
            refine Ops.pv (pv_move rfl) rfl ?_
            first | refine Ops.pv (pv_add rfl rfl (w64 (by omega) (by omega))) rfl ?_ | refine Ops.pv (pv_add rfl rfl rfl) rfl ?_
            refine Ops.pv (pv_assign rfl) rfl ?_
            refine Ops.nil ?_
            refine Ends.goes ?_
            have hsp := share_pos hAt rr
            have hsb := share_begun hAt rr
            have hnb : l - 1 > 0 ↔ True := by have hq9 : nxB l = false := (by assumption); unfold nxB at hq9; simp only [decide_eq_false_iff_not, Decidable.not_not] at hq9; exact iff_true_intro hq9
            refine Goes.back (hK (i + 1, nxE T e l, nxL T e l, rrN T e l rr, _, fset got (domN T e) (got (domN T e) + 1), bg) ⟨hAt.next, ?_, hA1, fun d hd => ?_, fun d hd => ?_, ?_, ?_, ?_⟩ (by dsimp only; push_cast; omega)) ⟨rfl, rfl, rfl, rfl, rfl, rfl, rfl, rfl, trivial⟩
            · dsimp only; push_cast; omega
            · dsimp only; rw [share_got hAt rr d]; unfold fset
              by_cases ed : d = domN T e
              · subst ed; rw [if_pos rfl, if_pos hdn, hg _ hd]
              · rw [if_neg ed, if_neg (fun h9 => ed (by omega)), hg _ hd]; omega
            · dsimp only; have h7 := hgle d hd; unfold fset; split <;> (push_cast; omega)
            · dsimp only; rw [hsb]; simp only [hnb]; simp; omega
            · dsimp only; push_cast; omega
            · dsimp only; omega
        · refine Wp.exit ?_
          refine Ends.then_exit ?_
          refine Ends.then_exit ?_
          refine Ends.block_hit ?_
          refine Ends.seq ?_
          refine Wp.seq ?_
          refine Wp.seq ?_
          refine Wp.region ?_
          obtain ⟨hp1, hp2, hp3, hp4⟩ := hAt.pos_ge
          obtain ⟨hend1, he0, hl0⟩ := share_end hAt (by omega) (show (rr : Int) * sumT T T.length + posT T e l = r * sumT T T.length by omega)
          subst he0 hl0
          have hend2 := hend1.symm
          subst hend2
          refine Ops.pv (pv_assign rfl) rfl ?_
          refine Ops.nil ?_
          refine Ends.seq ?_
          refine Wp.block ?_
          refine Wp.loopK (σ := Nat) [(0, _), (1, _), (5, _), (7, _), (8, _), (11, _)] (fun s => [(13, .int .i64 s)]) (fun s => (b1, .cells (arrC (wantF T T.length)).toArray 30) :: ((b2, .cells (arrC got).toArray 30) :: (H ++ (G ++ F)))) (fun s => s ≤ 4) (fun s => 4 - s) 0 (Nat.zero_le _) ⟨rfl, rfl, rfl, rfl, rfl, rfl, trivial⟩ ⟨rfl, trivial⟩ (by intro w ho; (try dsimp only [List.nil_append, List.cons_append]); exact Drop.own ho) ?_
          rintro d KK hd hK
          dsimp only [List.cons_append, List.nil_append] at hK ⊢
          refine Wp.seq ?_
          refine Wp.seq ?_
          refine Wp.region ?_
          refine Ops.pv (pv_move rfl) rfl ?_
          refine Ops.pv (pv_lss rfl rfl) rfl ?_
          refine Ops.nil ?_
          refine Ends.seq ?_
          first | refine Wp.cond_dect rfl (fun h5 => ?_) (fun h5 => ?_) | refine Wp.cond_t rfl (fun h5 => ?_) (fun h5 => ?_)
          · have hd4 : d < 4 := by omega
            have harr := arr_nth (f := got) hd4
            have harw := arr_nth (f := wantF T T.length) hd4
            obtain ⟨hw0, hw1⟩ := wantF_le hT d (i := T.length) (Nat.le_refl _)
            have hmw : 0 ≤ (r : Int) * wantF T T.length d ∧ (r : Int) * wantF T T.length d ≤ 32000 := by rcases hr12 with h9 | h9 <;> (rw [h9]; omega)
            have hgd := hg d hd4
            rw [gotF_start, Int.add_zero] at hgd
            refine Wp.skip ?_
            refine Ends.seq ?_
            refine Wp.seq ?_
            refine Wp.block ?_
            refine Wp.seq ?_
            refine AnyH.startL 9 rfl ?_
            refine AnyH.take 0 rfl (by kernel_rfl) (by kernel_rfl) (by kernel_rfl) PF.pf rfl (pv_move rfl) rfl ?_
            refine AnyH.take 1 rfl (by kernel_rfl) (by kernel_rfl) (by kernel_rfl) PF.pf rfl (pv_indexAddrA (i := d) rfl rfl rfl hd4) rfl ?_
            refine AnyH.take 2 rfl (by kernel_rfl) (by kernel_rfl) (by kernel_rfl) PF.pf rfl (pv_load rfl rfl harr) rfl ?_
            refine AnyH.take 3 rfl (by kernel_rfl) (by kernel_rfl) (by kernel_rfl) PF.pf rfl (pv_move rfl) rfl ?_
            refine AnyH.take 4 rfl (by kernel_rfl) (by kernel_rfl) (by kernel_rfl) PF.pf rfl (pv_move rfl) rfl ?_
            refine AnyH.take 5 rfl (by kernel_rfl) (by kernel_rfl) (by kernel_rfl) PF.pf rfl (pv_indexAddrA (i := d) rfl rfl rfl hd4) rfl ?_
            refine AnyH.take 6 rfl (by kernel_rfl) (by kernel_rfl) (by kernel_rfl) PF.pf rfl (pv_load rfl rfl harw) rfl ?_
            refine AnyH.take 7 rfl (by kernel_rfl) (by kernel_rfl) (by kernel_rfl) PF.pf rfl (pv_mul rfl rfl (w64 (by omega) (by omega))) rfl ?_
            refine AnyH.take 8 rfl (by kernel_rfl) (by kernel_rfl) (by kernel_rfl) PF.pf rfl ((pv_neq rfl rfl).fls (by first | exact fun h => h rfl | decide | omega | assumption)) rfl ?_
            refine AnyH.done (by kernel_rfl) ?_
            refine Ends.seq ?_
            refine Wp.cond_false rfl ?_
            refine Wp.skip ?_
            refine Ends.block_normal ?_
            refine Ends.seq ?_
            refine Wp.region ?_
            refine Ops.pv (pv_move rfl) rfl ?_
            first | refine Ops.pv (pv_add rfl rfl (w64 (by omega) (by omega))) rfl ?_ | refine Ops.pv (pv_add rfl rfl rfl) rfl ?_
            refine Ops.pv (pv_assign rfl) rfl ?_
            refine Ops.nil ?_
            refine Ends.goes ?_
            refine Goes.back (hK (d + 1) (by omega) (by omega)) ⟨rfl, rfl, rfl, rfl, rfl, rfl, rfl, trivial⟩
          · refine Wp.exit ?_
            refine Ends.then_exit ?_
            refine Ends.then_exit ?_
            refine Ends.block_hit ?_
            refine Ends.seq ?_
            refine Wp.seq ?_
            refine Wp.region ?_
            obtain ⟨b, o, cap, cc, T0, f, hv1, hbv, hr⟩ := hv.open (by omega)
            cases hv1
            obtain ⟨q0, q1⟩ := one_read hr (tkd_get (show 0 < T.length by omega))
            refine Ops.pv (pv_move rfl) rfl ?_
            refine Ops.ef rfl (ef_callr (tr_sNow sb1 _ T 0 (tkd T 0).2 _ hA hAt) rfl rfl) ?_
            rintro _ _ ⟨rfl, rfl⟩
            refine Ops.pv (pv_move rfl) rfl ?_
            refine Ops.pv (pv_extract rfl rfl) rfl ?_
            refine Ops.pv (pv_extract rfl rfl) rfl ?_
            refine Ops.pv (pv_assign rfl) rfl ?_
            refine Ops.pv (pv_assign rfl) rfl ?_
            refine Ops.nil ?_
            refine Ends.seq ?_
            refine Wp.seq ?_
            refine Wp.region ?_
            refine Ops.pv (pv_move rfl) rfl ?_
            refine Ops.pv (pv_move rfl) rfl ?_
            refine Ops.pv (pv_move rfl) rfl ?_
            refine Ops.pv (pv_len_slice (T := 22) rfl rfl) rfl ?_
            refine Ops.pv (pv_mul rfl rfl (w64 (by omega) (by omega))) rfl ?_
            refine Ops.pv ((pv_eql rfl rfl).tru (by rw [hbg]; push_cast; omega)) rfl ?_
            refine Ops.pv (pv_move rfl) rfl ?_
            refine Ops.pvg ⟨_, _, rfl, rfl, rfl⟩ (pv_move rfl) rfl ?_
            refine Ops.pvg ⟨_, _, rfl, rfl, rfl⟩ ((pv_eql rfl rfl).tru (by first | rfl | decide | omega | assumption | (simp; done) | (simp; omega))) rfl ?_
            refine Ops.pv (pv_pick_true rfl rfl) rfl ?_
            refine Ops.pv (pv_move rfl) rfl ?_
            refine Ops.pvg ⟨_, _, rfl, rfl, rfl⟩ (pv_move rfl) rfl ?_
            refine Ops.pvg ⟨_, _, rfl, rfl, rfl⟩ (pv_move rfl) rfl ?_
            refine Ops.pvg ⟨_, _, rfl, rfl, rfl⟩ (pv_indexAddr (i := 0) rfl rfl rfl (by first | omega | (simp; done) | (simp; omega))) rfl ?_
            first | refine Ops.pvg ⟨_, _, rfl, rfl, rfl⟩ (pv_fieldAddr0 rfl rfl) rfl ?_ | refine Ops.pvg ⟨_, _, rfl, rfl, rfl⟩ (pv_fieldAddr rfl rfl) rfl ?_
            refine Ops.pvg ⟨_, _, rfl, rfl, rfl⟩ (pv_load rfl rfl q1) rfl ?_
            refine Ops.pvg ⟨_, _, rfl, rfl, rfl⟩ ((pv_eql rfl rfl).tru (by first | rfl | decide | omega | assumption | (simp; done) | (simp; omega))) rfl ?_
            refine Ops.pv (pv_pick_true rfl rfl) rfl ?_
            refine Ops.pv (pv_assign rfl) rfl ?_
            refine Ops.nil ?_
            refine Ends.seq ?_
            refine Wp.ret ?_
            exact Ends.ret (res1 rfl rfl) ⟨rfl, rfl⟩
    · refine Wp.skip ?_
      refine Ends.seq ?_
      refine Wp.seq ?_
      refine Wp.region ?_
      refine Ops.pv (pv_move rfl) rfl ?_
      refine Ops.ef rfl (ef_call (tr_to G ta tc T hv (by omega)) rfl rfl) ?_
      rintro _ _ ⟨_, _, ⟨C2, hc2, rfl⟩, rfl, rfl⟩
      refine Ops.app ?_
      obtain ⟨p2, q2, rfl⟩ := hc2.form
      refine Ops.ef rfl (ef_callr (tr_sNewBad C2 _ _ T hc2.view (by omega) hT) rfl rfl) ?_
      rintro _ _ ⟨rfl, rfl⟩
      refine Ops.pv (pv_move rfl) rfl ?_
      refine Ops.pv (pv_extract rfl rfl) rfl ?_
      refine Ops.pv (pv_extract rfl rfl) rfl ?_
      refine Ops.pv (pv_assign rfl) rfl ?_
      refine Ops.pv (pv_assign rfl) rfl ?_
      refine Ops.nil ?_
      refine Ends.seq ?_
      refine Wp.seq ?_
      refine Wp.seq ?_
      refine Wp.region ?_
      refine Ops.pv (pv_move rfl) rfl ?_
      refine Ops.pv ((pv_neq rfl rfl).tru (by first | rfl | decide | omega | assumption | (simp; done) | (simp; omega))) rfl ?_
      refine Ops.pv (pv_move rfl) rfl ?_
      refine Ops.skipg ⟨_, _, rfl, rfl, rfl⟩ rfl ?_
      refine Ops.skipg ⟨_, _, rfl, rfl, rfl⟩ rfl ?_
      refine Ops.pv (pv_pick_true rfl rfl) rfl ?_
      refine Ops.nil ?_
      refine Ends.seq ?_
      refine Wp.cond_true rfl ?_
      refine Wp.seq ?_
      refine Wp.region ?_
      refine Ops.pv (pv_move rfl) rfl ?_
      refine Ops.pv ((pv_eql rfl rfl).tru (by first | rfl | decide | omega | assumption | (simp; done) | (simp; omega))) rfl ?_
      refine Ops.pv (pv_assign rfl) rfl ?_
      refine Ops.nil ?_
      refine Ends.seq ?_
      refine Wp.ret ?_
      refine Ends.then_ret ?_
      exact Ends.ret (res1 rfl rfl) ⟨rfl, rfl⟩

set_option maxHeartbeats 4000000 in
theorem tr_schedFixed (G : Hp) (hnd : (G.map Prod.fst).Nodup) (ta : Option Addr) (tc : Nat) (T : Ones) (hta : ArgS G 2 ta (T.map oneC)) (htc : T.length ≤ tc) (htl : T.length ≤ maxLen) (a : Option Addr) (c : Nat) (ops : List OpS) (ha : ArgS G 4 a (ops.map OpS.cells)) (hol : ops.length ≤ maxLen) (n : Int) : TrR Try.prog 5 [.slice ta T.length tc, .slice a ops.length c, .int .i64 n] (G) (.bool true) := by
  have hv := argS_view hnd hta htc
  refine Tr.enter Try.func5 rfl Try.ntmps5 rfl (fun W F => ?_)
  refine Wp.app ?_
  refine Wp.seq ?_
  refine Wp.region ?_
  refine Ops.pv (pv_assign rfl) rfl ?_
  refine Ops.nil ?_
  refine Ends.seq ?_
  refine Wp.seq ?_
  refine Wp.seq ?_
  refine Wp.region ?_
  refine Ops.ef rfl (ef_callr (tr_works21) rfl rfl) ?_
  rintro _ _ ⟨rfl, rfl⟩
  first | refine Ops.pv (pv_not_dec rfl) rfl ?_ | refine Ops.pv (pv_not rfl) rfl ?_
  refine Ops.nil ?_
  refine Ends.seq ?_
  refine Wp.cond_false rfl ?_
  refine Wp.skip ?_
  refine Ends.seq ?_
  refine Wp.seq ?_
  refine Wp.seq ?_
  refine Wp.region ?_
  refine Ops.pv (pv_move rfl) rfl ?_
  refine Ops.pv (pv_len_slice (T := 22) rfl rfl) rfl ?_
  refine Ops.pv (pv_gtr rfl rfl) rfl ?_
  refine Ops.nil ?_
  refine Ends.seq ?_
  first | refine Wp.cond_dect rfl (fun h1 => ?_) (fun h1 => ?_) | refine Wp.cond_t rfl (fun h1 => ?_) (fun h1 => ?_)
  · refine Wp.seq ?_
    refine Wp.region ?_
    refine Ops.pv (pv_assign rfl) rfl ?_
    refine Ops.nil ?_
    refine Ends.seq ?_
    refine Wp.ret ?_
    refine Ends.then_ret ?_
    exact Ends.ret (res1 rfl rfl) ⟨rfl, rfl⟩
  · rcases Decidable.em (tmsOk T) with hT | hT
    · have hT1 := hT.1
      have hsl := sumT_le hT (n := T.length) (Nat.le_refl _)
      have hs0 := sumT_nonneg hT (n := T.length) (Nat.le_refl _)
      refine Wp.skip ?_
      refine Ends.seq ?_
      refine Wp.seq ?_
      refine Wp.region ?_
      refine Ops.pv (pv_move rfl) rfl ?_
      refine Ops.ef rfl (ef_call (tr_to G ta tc T hv (by omega)) rfl rfl) ?_
      rintro _ _ ⟨_, _, ⟨C1, hc1, rfl⟩, rfl, rfl⟩
      refine Ops.app ?_
      obtain ⟨p1, q1, rfl⟩ := hc1.form
      refine Ops.ef rfl (ef_call (tr_sNewOk C1 _ _ T hc1.view (by omega) hT) rfl rfl) ?_
      rintro _ _ ⟨_, _, ⟨sb1, HS1, rfl, hZ1, rfl⟩, rfl, rfl⟩
      refine Ops.app ?_
      refine Ops.pv (pv_move rfl) rfl ?_
      refine Ops.pv (pv_extract rfl rfl) rfl ?_
      refine Ops.pv (pv_extract rfl rfl) rfl ?_
      refine Ops.pv (pv_assign rfl) rfl ?_
      refine Ops.pv (pv_assign rfl) rfl ?_
      refine Ops.nil ?_
      refine Ends.seq ?_
      refine Wp.seq ?_
      refine Wp.seq ?_
      refine Wp.region ?_
      refine Ops.pv (pv_move rfl) rfl ?_
      refine Ops.pv ((pv_neq rfl rfl).fls (by first | exact fun h => h rfl | decide | omega | assumption)) rfl ?_
      refine Ops.pv (pv_move rfl) rfl ?_
      refine Ops.pvg ⟨_, _, rfl, rfl, rfl⟩ (pv_move rfl) rfl ?_
      refine Ops.pvg ⟨_, _, rfl, rfl, rfl⟩ (pv_eql_nil rfl rfl) rfl ?_
      refine Ops.pv (pv_pick_false rfl rfl) rfl ?_
      refine Ops.nil ?_
      refine Ends.seq ?_
      refine Wp.cond_false rfl ?_
      refine Wp.skip ?_
      refine Ends.seq ?_
      refine Wp.seq ?_
      refine Wp.region ?_
      refine Ops.pv (pv_assign rfl) rfl ?_
      refine Ops.nil ?_
      refine Ends.seq ?_
      refine Wp.seq ?_
      refine Wp.seq ?_
      refine Wp.region ?_
      refine Ops.pv (pv_assign rfl) rfl ?_
      refine Ops.nil ?_
      refine Ends.seq ?_
      refine Wp.block ?_
      refine Wp.loopK (σ := Nat × Value × Hp) [(0, _), (1, _), (2, _), (7, _)] (fun s => [(9, s.2.1), (10, .int .i64 s.1)]) (fun s => s.2.2 ++ (HS1 ++ (G ++ F))) (fun s => s.1 ≤ T.length ∧ Slc 3 1 s.2.1 (planU T s.1).length (intsC (planU T s.1)) s.2.2) (fun s => T.length - s.1) (0, .slice none 0 0, []) ⟨Nat.zero_le _, Slc.nil _ _⟩ ⟨rfl, rfl, rfl, rfl, trivial⟩ ⟨rfl, rfl, trivial⟩ (by intro w ho; (try dsimp only [List.nil_append, List.cons_append]); exact Drop.own ho) ?_
      rintro ⟨i, w, K⟩ KK ⟨hi, hs⟩ hK
      dsimp only [List.cons_append, List.nil_append] at hK ⊢
      dsimp only at hi hs ⊢
      refine Wp.seq ?_
      refine Wp.seq ?_
      refine Wp.region ?_
      refine Ops.pv (pv_move rfl) rfl ?_
      refine Ops.pv (pv_move rfl) rfl ?_
      refine Ops.pv (pv_len_slice (T := 22) rfl rfl) rfl ?_
      refine Ops.pv (pv_lss rfl rfl) rfl ?_
      refine Ops.nil ?_
      refine Ends.seq ?_
      first | refine Wp.cond_dect rfl (fun h2 => ?_) (fun h2 => ?_) | refine Wp.cond_t rfl (fun h2 => ?_) (fun h2 => ?_)
      · obtain ⟨b, o, cap, cc, T0, f, hv1, hbv, hr⟩ := hv.open (by omega)
        cases hv1
        obtain ⟨q0, q1⟩ := one_read hr (tkd_get (show i < T.length by omega))
        have htk := hT.2 _ (List.mem_of_getElem? (tkd_get (show i < T.length by omega)))
        have htk1 := htk.1
        have htk2 := htk.2
        have hpl := plan_len hT (e := i) (by omega)
        have hm1 := sumT_mono hT (n := i) (m := T.length) (by omega) (Nat.le_refl _)
        refine Wp.skip ?_
        refine Ends.seq ?_
        refine Wp.seq ?_
        refine Wp.block ?_
        refine Wp.seq ?_
        refine Wp.region ?_
        refine Ops.pv (pv_assign rfl) rfl ?_
        refine Ops.nil ?_
        refine Ends.seq ?_
        refine Wp.block ?_
        refine Wp.loopK (σ := Nat × Value × Hp) [(0, _), (1, _), (2, _), (7, _), (10, _)] (fun s => [(9, s.2.1), (11, .int .i64 s.1)]) (fun s => s.2.2 ++ (HS1 ++ (G ++ F))) (fun s => s.1 ≤ (tkd T i).2.toNat ∧ Slc 3 1 s.2.1 (planU T i ++ List.replicate s.1 (tkd T i).1).length (intsC (planU T i ++ List.replicate s.1 (tkd T i).1)) s.2.2) (fun s => (tkd T i).2.toNat - s.1) (0, w, K) ⟨Nat.zero_le _, by dsimp only; rw [List.replicate_zero, List.append_nil]; exact hs⟩ ⟨rfl, rfl, rfl, rfl, rfl, trivial⟩ ⟨rfl, rfl, trivial⟩ (by intro w ho; (try dsimp only [List.nil_append, List.cons_append]); exact Drop.own ho) ?_
        rintro ⟨k, w, K⟩ KK ⟨hk, hs⟩ hK1
        dsimp only [List.cons_append, List.nil_append] at hK1 ⊢
        dsimp only at hk hs ⊢
        refine Wp.seq ?_
        refine Wp.seq ?_
        refine Wp.region ?_
        refine Ops.pv (pv_move rfl) rfl ?_
        refine Ops.pv (pv_move rfl) rfl ?_
        refine Ops.pv (pv_move rfl) rfl ?_
        refine Ops.pv (pv_indexAddr rfl rfl rfl (by omega)) rfl ?_
        first | refine Ops.pv (pv_fieldAddr0 rfl rfl) rfl ?_ | refine Ops.pv (pv_fieldAddr rfl rfl) rfl ?_
        refine Ops.pv (pv_load rfl rfl q1) rfl ?_
        refine Ops.pv (pv_lss rfl rfl) rfl ?_
        refine Ops.nil ?_
        refine Ends.seq ?_
        first | refine Wp.cond_dect rfl (fun h3 => ?_) (fun h3 => ?_) | refine Wp.cond_t rfl (fun h3 => ?_) (fun h3 => ?_)
        · refine Wp.skip ?_
          refine Ends.seq ?_
          refine Wp.seq ?_
          refine Wp.block ?_
          refine Wp.region ?_
          refine Ops.pv (pv_move rfl) rfl ?_
          refine Ops.pv (pv_move rfl) rfl ?_
          refine Ops.pv (pv_move rfl) rfl ?_
          refine Ops.pv (pv_indexAddr rfl rfl rfl (by omega)) rfl ?_
          first | refine Ops.pv (pv_fieldAddr0 rfl rfl) rfl ?_ | refine Ops.pv (pv_fieldAddr rfl rfl) rfl ?_
          refine Ops.pv (pv_load rfl rfl q0) rfl ?_
          refine Ops.ef rfl (ef_buildSlice1 (k := 1) rfl rfl rfl rfl rfl) ?_
          rintro _ _ ⟨b1, rfl, rfl⟩
          refine Ops.ef rfl (ef_append (H := K) (xs := [.int .i64 (tkd T i).1]) rfl hs rfl ⟨rfl, trivial⟩ rfl rfl rfl (by simp only [List.length_append, List.length_replicate]; omega) (by simp only [List.length_append, List.length_replicate]; omega) rfl rfl) ?_
          rintro _ _ ⟨v1, H1, hs1, rfl, rfl⟩
          refine Ops.app ?_
          skip
          refine Ops.pv (pv_assign rfl) rfl ?_
          refine Ops.nil ?_
          refine Ends.block_normal ?_
          refine Ends.seq ?_
          refine Wp.region ?_
          refine Ops.pv (pv_move rfl) rfl ?_
          first | refine Ops.pv (pv_add rfl rfl (w64 (by omega) (by omega))) rfl ?_ | refine Ops.pv (pv_add rfl rfl rfl) rfl ?_
          refine Ops.pv (pv_assign rfl) rfl ?_
          refine Ops.nil ?_
          refine Ends.goes ?_
          refine Goes.back (hK1 (k + 1, v1, H1) ⟨by dsimp only; omega, by dsimp only; rw [replicate_snoc, List.length_append (bs := [_]), intsC_app (planU T i ++ _)]; exact hs1⟩ (by dsimp only; omega)) ⟨rfl, rfl, rfl, rfl, rfl, rfl, rfl, trivial⟩
        · refine Wp.exit ?_
          refine Ends.then_exit ?_
          refine Ends.then_exit ?_
          refine Ends.block_hit ?_
          refine Ends.block_normal ?_
          refine Ends.seq ?_
          refine Wp.region ?_
          refine Ops.pv (pv_move rfl) rfl ?_
          first | refine Ops.pv (pv_add rfl rfl (w64 (by omega) (by omega))) rfl ?_ | refine Ops.pv (pv_add rfl rfl rfl) rfl ?_
          refine Ops.pv (pv_assign rfl) rfl ?_
          refine Ops.nil ?_
          refine Ends.goes ?_
          have hk9 : (tkd T i).2.toNat = k := by omega
          subst hk9
          refine Goes.back (hK (i + 1, w, K) ⟨by dsimp only; omega, hs⟩ (by dsimp only; omega)) ⟨rfl, rfl, rfl, rfl, rfl, rfl, trivial⟩
      · refine Wp.exit ?_
        refine Ends.then_exit ?_
        refine Ends.then_exit ?_
        refine Ends.block_hit ?_
        refine Ends.seq ?_
        refine Wp.seq ?_
        refine Wp.seq ?_
        refine Wp.region ?_
        have hiT : T.length = i := by omega
        subst hiT
        have hpl := plan_len hT (e := T.length) (Nat.le_refl _)
        obtain ⟨pa, pc, rfl⟩ := hs.form
        have hvw := hs.view
        refine Ops.pv (pv_assign rfl) rfl ?_
        refine Ops.nil ?_
        refine Ends.seq ?_
        refine Wp.block ?_
        refine Wp.loopK (σ := Nat × Nat × Int × (Nat → Ones) × Hp) [(1, _), (2, _), (7, _), (9, _)] (fun s => [(12, .int .i64 s.1)]) (fun s => s.2.2.2.2 ++ (K ++ (G ++ F))) (fun s => s.1 ≤ 3000 ∧ At T s.2.1 s.2.2.1 ∧ posT T s.2.1 s.2.2.1 = ((s.1 % (planU T T.length).length : Nat) : Int) ∧ RdysW s.2.2.2.1 ∧ RdysL s.2.2.2.1 (3 * s.1) ∧ SchH T s.2.1 s.2.2.1 s.2.2.2.1 sb1 s.2.2.2.2) (fun s => 3000 - s.1) (0, 0, (tkd T 0).2, fun _ => [], HS1) ⟨Nat.zero_le _, At.start hT, by dsimp only; rw [Nat.zero_mod]; unfold posT; simp [sumT], RdysW.nil, fun _ _ => Nat.zero_le _, hZ1⟩ ⟨rfl, rfl, rfl, rfl, trivial⟩ ⟨rfl, trivial⟩ (by intro w ho; (try dsimp only [List.nil_append, List.cons_append]); exact Drop.own ho) ?_
        rintro ⟨i, e, l, L, H⟩ KK ⟨hi, hAt, hpi, hW, hl, hA⟩ hK
        dsimp only [List.cons_append, List.nil_append] at hK ⊢
        dsimp only at hi hAt hpi hW hl hA ⊢
        refine Wp.seq ?_
        refine Wp.seq ?_
        refine Wp.region ?_
        refine Ops.pv (pv_move rfl) rfl ?_
        refine Ops.pv (pv_move rfl) rfl ?_
        refine Ops.pv (pv_conv rfl (uI_eq _)) rfl ?_
        refine Ops.pv (pv_rem rfl rfl (by omega) (tmod_nat (b := 3000) rfl)) rfl ?_
        refine Ops.pv (pv_conv rfl (w64n rfl (by omega))) rfl ?_
        refine Ops.pv (pv_lss rfl rfl) rfl ?_
        refine Ops.nil ?_
        refine Ends.seq ?_
        first | refine Wp.cond_dect rfl (fun h4 => ?_) (fun h4 => ?_) | refine Wp.cond_t rfl (fun h4 => ?_) (fun h4 => ?_)
        · have hN0 : 0 < (planU T T.length).length := by have := hAt.pos_ge; omega
          have hmod := Nat.mod_lt i hN0
          obtain ⟨bp, op, capp, ccp, Tp, fp, hvp, hbvp, hrp⟩ := hvw.open hN0
          cases hvp
          have hny := ints_nth hrp (hAt.plan hpi)
          have hi3 : i < 3000 := by omega
          refine Wp.skip ?_
          refine Ends.seq ?_
          refine Wp.seq ?_
          refine Wp.block ?_
          refine Wp.seq ?_
          refine Wp.seq ?_
          refine AnyH.start K 10 rfl ?_
          refine AnyH.take 0 rfl (by kernel_rfl) (by kernel_rfl) (by kernel_rfl) PF.pf rfl (pv_move rfl) rfl ?_
          refine AnyH.take 2 rfl (by kernel_rfl) (by kernel_rfl) (by kernel_rfl) PF.pf rfl (pv_move rfl) rfl ?_
          refine AnyH.take 3 rfl (by kernel_rfl) (by kernel_rfl) (by kernel_rfl) PF.pf rfl (pv_move rfl) rfl ?_
          refine AnyH.take 4 rfl (by kernel_rfl) (by kernel_rfl) (by kernel_rfl) PF.pf rfl (pv_move rfl) rfl ?_
          refine AnyH.take 5 rfl (by kernel_rfl) (by kernel_rfl) (by kernel_rfl) PF.pf rfl (pv_len_slice (T := 40) rfl rfl) rfl ?_
          refine AnyH.take 6 rfl (by kernel_rfl) (by kernel_rfl) (by kernel_rfl) PF.pf rfl (pv_rem rfl rfl (by omega) (tmod_nat rfl)) rfl ?_
          refine AnyH.take 7 rfl (by kernel_rfl) (by kernel_rfl) (by kernel_rfl) PF.pf rfl (pv_indexAddr (i := i % (planU T T.length).length) rfl rfl rfl hmod) rfl ?_
          refine AnyH.take 8 rfl (by kernel_rfl) (by kernel_rfl) (by kernel_rfl) PF.pf rfl (pv_load rfl rfl hny) rfl ?_
          refine AnyH.one 1 (by kernel_rfl) ?_
          refine Turn.ef rfl rfl (ef_callr (tr_sDomain sb1 _ T e l L hA hAt) rfl rfl) ?_ ?_
          · rintro _ _ ⟨rfl, rfl⟩; infer_instance
          rintro _ _ ⟨rfl, rfl⟩
          refine AnyH.take 9 rfl (by kernel_rfl) (by kernel_rfl) (by kernel_rfl) PF.pf rfl ((pv_neq rfl rfl).fls (by first | exact fun h => h rfl | decide | omega | assumption)) rfl ?_
          refine AnyH.done (by kernel_rfl) ?_
          refine Ends.seq ?_
          refine Wp.cond_false rfl ?_
          refine Wp.skip ?_
          refine Ends.seq ?_
          refine Wp.seq ?_
          refine Wp.seq ?_
          refine Wp.region ?_
          refine Ops.pv (pv_move rfl) rfl ?_
          refine Ops.pv (pv_move rfl) rfl ?_
          refine Ops.pv (pv_len_slice (T := 38) rfl rfl) rfl ?_
          refine Ops.pv (pv_lss rfl rfl) rfl ?_
          refine Ops.nil ?_
          refine Ends.seq ?_
          first | refine Wp.cond_dect rfl (fun h5 => ?_) (fun h5 => ?_) | refine Wp.cond_t rfl (fun h5 => ?_) (fun h5 => ?_)
          · obtain ⟨x, hq⟩ : ∃ x, ops[i]? = some x := ⟨_, List.getElem?_eq_getElem (by omega)⟩
            obtain ⟨_, bo, oo, co, To, fo, rfl, hm, hro⟩ := ha i x.cells (by rw [List.getElem?_map, hq]; rfl)
            have hbg : Blk G bo (.cells co.toArray To fo) := ⟨hm⟩
            obtain ⟨r0, r1, r2, r3, _⟩ := hro
            refine Wp.seq ?_
            refine AnyH.start G 17 rfl ?_
            refine AnyH.take 0 rfl (by kernel_rfl) (by kernel_rfl) (by kernel_rfl) PF.pf rfl (pv_move rfl) rfl ?_
            refine AnyH.take 1 rfl (by kernel_rfl) (by kernel_rfl) (by kernel_rfl) PF.pf rfl (pv_move rfl) rfl ?_
            refine AnyH.take 2 rfl (by kernel_rfl) (by kernel_rfl) (by kernel_rfl) PF.pf rfl (pv_move rfl) rfl ?_
            refine AnyH.take 3 rfl (by kernel_rfl) (by kernel_rfl) (by kernel_rfl) PF.pf rfl (pv_indexAddr rfl rfl rfl (by omega)) rfl ?_
            first | refine AnyH.take 4 rfl (by kernel_rfl) (by kernel_rfl) (by kernel_rfl) PF.pf rfl (pv_fieldAddr0 rfl rfl) rfl ?_ | refine AnyH.take 4 rfl (by kernel_rfl) (by kernel_rfl) (by kernel_rfl) PF.pf rfl (pv_fieldAddr rfl rfl) rfl ?_
            first | refine AnyH.take 5 rfl (by kernel_rfl) (by kernel_rfl) (by kernel_rfl) PF.pf rfl (pv_load rfl rfl rfl) rfl ?_ | refine AnyH.take 5 rfl (by kernel_rfl) (by kernel_rfl) (by kernel_rfl) PF.pf rfl (pv_load rfl rfl (by assumption)) rfl ?_
            refine AnyH.take 6 rfl (by kernel_rfl) (by kernel_rfl) (by kernel_rfl) PF.pf rfl (pv_move rfl) rfl ?_
            refine AnyH.take 7 rfl (by kernel_rfl) (by kernel_rfl) (by kernel_rfl) PF.pf rfl (pv_move rfl) rfl ?_
            refine AnyH.take 8 rfl (by kernel_rfl) (by kernel_rfl) (by kernel_rfl) PF.pf rfl (pv_indexAddr rfl rfl rfl (by omega)) rfl ?_
            first | refine AnyH.take 9 rfl (by kernel_rfl) (by kernel_rfl) (by kernel_rfl) PF.pf rfl (pv_fieldAddr0 rfl rfl) rfl ?_ | refine AnyH.take 9 rfl (by kernel_rfl) (by kernel_rfl) (by kernel_rfl) PF.pf rfl (pv_fieldAddr rfl rfl) rfl ?_
            first | refine AnyH.take 10 rfl (by kernel_rfl) (by kernel_rfl) (by kernel_rfl) PF.pf rfl (pv_load rfl rfl rfl) rfl ?_ | refine AnyH.take 10 rfl (by kernel_rfl) (by kernel_rfl) (by kernel_rfl) PF.pf rfl (pv_load rfl rfl (by assumption)) rfl ?_
            refine AnyH.take 11 rfl (by kernel_rfl) (by kernel_rfl) (by kernel_rfl) PF.pf rfl (pv_move rfl) rfl ?_
            refine AnyH.take 12 rfl (by kernel_rfl) (by kernel_rfl) (by kernel_rfl) PF.pf rfl (pv_move rfl) rfl ?_
            refine AnyH.take 13 rfl (by kernel_rfl) (by kernel_rfl) (by kernel_rfl) PF.pf rfl (pv_indexAddr rfl rfl rfl (by omega)) rfl ?_
            first | refine AnyH.take 14 rfl (by kernel_rfl) (by kernel_rfl) (by kernel_rfl) PF.pf rfl (pv_fieldAddr0 rfl rfl) rfl ?_ | refine AnyH.take 14 rfl (by kernel_rfl) (by kernel_rfl) (by kernel_rfl) PF.pf rfl (pv_fieldAddr rfl rfl) rfl ?_
            first | refine AnyH.take 15 rfl (by kernel_rfl) (by kernel_rfl) (by kernel_rfl) PF.pf rfl (pv_load rfl rfl rfl) rfl ?_ | refine AnyH.take 15 rfl (by kernel_rfl) (by kernel_rfl) (by kernel_rfl) PF.pf rfl (pv_load rfl rfl (by assumption)) rfl ?_
            refine AnyH.one 16 (by kernel_rfl) ?_
            refine Turn.ef rfl rfl (ef_call (tr_sPut sb1 _ T e l L hA hAt hW (hl.mono (by omega)) x.id x.domain x.level) rfl rfl) ?_ ?_
            · rintro _ _ ⟨_, _, ⟨rfl, hA1⟩, rfl, rfl⟩; infer_instance
            rintro _ _ ⟨_, _, ⟨rfl, hA1⟩, rfl, rfl⟩
            refine AnyH.app ?_
            refine AnyH.done (by kernel_rfl) ?_
            refine Ends.seq ?_
            refine Wp.seq ?_
            refine Wp.seq ?_
            refine Wp.region ?_
            refine Ops.pv (pv_move rfl) rfl ?_
            refine Ops.pv (pv_move rfl) rfl ?_
            refine Ops.pv (pv_indexAddr rfl rfl rfl (by omega)) rfl ?_
            first | refine Ops.pv (pv_fieldAddr0 rfl rfl) rfl ?_ | refine Ops.pv (pv_fieldAddr rfl rfl) rfl ?_
            first | refine Ops.pv (pv_load rfl rfl rfl) rfl ?_ | refine Ops.pv (pv_load rfl rfl (by assumption)) rfl ?_
            refine Ops.pv (pv_eql rfl rfl) rfl ?_
            refine Ops.nil ?_
            refine Ends.seq ?_
            first | refine Wp.cond_dect rfl (fun h6 => ?_) (fun h6 => ?_) | refine Wp.cond_t rfl (fun h6 => ?_) (fun h6 => ?_)
            · refine Wp.region ?_
              refine Ops.pv (pv_move rfl) rfl ?_
              refine Ops.pv (pv_move rfl) rfl ?_
              refine Ops.pv (pv_move rfl) rfl ?_
              refine Ops.pv (pv_indexAddr rfl rfl rfl (by omega)) rfl ?_
              first | refine Ops.pv (pv_fieldAddr0 rfl rfl) rfl ?_ | refine Ops.pv (pv_fieldAddr rfl rfl) rfl ?_
              first | refine Ops.pv (pv_load rfl rfl rfl) rfl ?_ | refine Ops.pv (pv_load rfl rfl (by assumption)) rfl ?_
              refine Ops.ef rfl (ef_call (tr_sDrop sb1 _ T e l (spL L x.id x.domain x.level) hA1 hAt (spW hW x.id x.domain x.level) ((spLen hl x.id x.domain x.level).mono (by omega)) x.id) rfl rfl) ?_
              rintro _ _ ⟨_, _, ⟨rfl, hA2⟩, rfl, rfl⟩
              refine Ops.app ?_
              refine Ops.nil ?_
              refine Ends.seq ?_
              refine Wp.seq ?_
              refine Wp.region ?_
              refine Ops.pv (pv_move rfl) rfl ?_
              refine Ops.pv (pv_move rfl) rfl ?_
              refine Ops.pv (pv_indexAddr rfl rfl rfl (by omega)) rfl ?_
              first | refine Ops.pv (pv_fieldAddr0 rfl rfl) rfl ?_ | refine Ops.pv (pv_fieldAddr rfl rfl) rfl ?_
              first | refine Ops.pv (pv_load rfl rfl rfl) rfl ?_ | refine Ops.pv (pv_load rfl rfl (by assumption)) rfl ?_
              refine Ops.pv (pv_eql rfl rfl) rfl ?_
              refine Ops.nil ?_
              refine Ends.seq ?_
              first | refine Wp.cond_dect rfl (fun h7 => ?_) (fun h7 => ?_) | refine Wp.cond_t rfl (fun h7 => ?_) (fun h7 => ?_)
              · refine Wp.region ?_
                refine Ops.pv (pv_move rfl) rfl ?_
                refine Ops.pv (pv_move rfl) rfl ?_
                refine Ops.pv (pv_move rfl) rfl ?_
                refine Ops.pv (pv_indexAddr rfl rfl rfl (by omega)) rfl ?_
                first | refine Ops.pv (pv_fieldAddr0 rfl rfl) rfl ?_ | refine Ops.pv (pv_fieldAddr rfl rfl) rfl ?_
                first | refine Ops.pv (pv_load rfl rfl rfl) rfl ?_ | refine Ops.pv (pv_load rfl rfl (by assumption)) rfl ?_
                refine Ops.ef rfl (ef_call (tr_sYield sb1 _ T e l (sdL (spL L x.id x.domain x.level) x.id) hA2 hAt (sdW (spW hW x.id x.domain x.level) x.id) ((sdLen (spLen hl x.id x.domain x.level) x.id).mono (by omega)) x.id) rfl rfl) ?_
                rintro _ _ ⟨_, _, ⟨rfl, hA3⟩, rfl, rfl⟩
                refine Ops.app ?_
                refine Ops.nil ?_
                refine Ends.seq ?_
                refine Wp.seq ?_
                refine Wp.seq ?_
                refine AnyH.start K 10 rfl ?_
                refine AnyH.take 0 rfl (by kernel_rfl) (by kernel_rfl) (by kernel_rfl) PF.pf rfl (pv_move rfl) rfl ?_
                refine AnyH.take 2 rfl (by kernel_rfl) (by kernel_rfl) (by kernel_rfl) PF.pf rfl (pv_move rfl) rfl ?_
                refine AnyH.take 3 rfl (by kernel_rfl) (by kernel_rfl) (by kernel_rfl) PF.pf rfl (pv_move rfl) rfl ?_
                refine AnyH.take 4 rfl (by kernel_rfl) (by kernel_rfl) (by kernel_rfl) PF.pf rfl (pv_move rfl) rfl ?_
                refine AnyH.take 5 rfl (by kernel_rfl) (by kernel_rfl) (by kernel_rfl) PF.pf rfl (pv_len_slice (T := 40) rfl rfl) rfl ?_
                refine AnyH.take 6 rfl (by kernel_rfl) (by kernel_rfl) (by kernel_rfl) PF.pf rfl (pv_rem rfl rfl (by omega) (tmod_nat rfl)) rfl ?_
                refine AnyH.take 7 rfl (by kernel_rfl) (by kernel_rfl) (by kernel_rfl) PF.pf rfl (pv_indexAddr (i := i % (planU T T.length).length) rfl rfl rfl hmod) rfl ?_
                refine AnyH.take 8 rfl (by kernel_rfl) (by kernel_rfl) (by kernel_rfl) PF.pf rfl (pv_load rfl rfl hny) rfl ?_
                refine AnyH.one 1 (by kernel_rfl) ?_
                refine Turn.ef rfl rfl (ef_callr (tr_sDomain sb1 _ T e l (syL (sdL (spL L x.id x.domain x.level) x.id) x.id) hA3 hAt) rfl rfl) ?_ ?_
                · rintro _ _ ⟨rfl, rfl⟩; infer_instance
                rintro _ _ ⟨rfl, rfl⟩
                refine AnyH.take 9 rfl (by kernel_rfl) (by kernel_rfl) (by kernel_rfl) PF.pf rfl ((pv_neq rfl rfl).fls (by first | exact fun h => h rfl | decide | omega | assumption)) rfl ?_
                refine AnyH.done (by kernel_rfl) ?_
                refine Ends.seq ?_
                refine Wp.cond_false rfl ?_
                refine Wp.skip ?_
                refine Ends.seq ?_
                refine Wp.region ?_
                refine Ops.pv (pv_move rfl) rfl ?_
                refine Ops.ef rfl (ef_call (tr_sTick sb1 _ T e l (syL (sdL (spL L x.id x.domain x.level) x.id) x.id) hA3 hAt) rfl rfl) ?_
                rintro _ _ ⟨_, _, ⟨rfl, hA4⟩, rfl, rfl⟩
                refine Ops.app ?_
                refine Ops.nil ?_
                refine Ends.block_normal ?_
                refine Ends.seq ?_
                refine Wp.region ?_
                refine Ops.pv (pv_move rfl) rfl ?_
                first | refine Ops.pv (pv_add rfl rfl (w64 (by omega) (by omega))) rfl ?_ | refine Ops.pv (pv_add rfl rfl rfl) rfl ?_
                refine Ops.pv (pv_assign rfl) rfl ?_
                refine Ops.nil ?_
                refine Ends.goes ?_
                refine Goes.back (hK (i + 1, nxE T e l, nxL T e l, (syL (sdL (spL L x.id x.domain x.level) x.id) x.id), _) ⟨by dsimp only; omega, hAt.next, ?_, (syW (sdW (spW hW x.id x.domain x.level) x.id) x.id), (syLen (sdLen (spLen hl x.id x.domain x.level) x.id) x.id).mono (by dsimp only; omega), hA4⟩ (by dsimp only; omega)) ⟨rfl, rfl, rfl, rfl, rfl, trivial⟩
                dsimp only; rw [hAt.pos_next, hpi, ← hpl, ← Int.natCast_one, ← Int.natCast_add, tmod_nat rfl]; congr 1; rw [Nat.mod_add_mod]
              · refine Wp.skip ?_
                refine Ends.seq ?_
                refine Wp.seq ?_
                refine Wp.seq ?_
                refine AnyH.start K 10 rfl ?_
                refine AnyH.take 0 rfl (by kernel_rfl) (by kernel_rfl) (by kernel_rfl) PF.pf rfl (pv_move rfl) rfl ?_
                refine AnyH.take 2 rfl (by kernel_rfl) (by kernel_rfl) (by kernel_rfl) PF.pf rfl (pv_move rfl) rfl ?_
                refine AnyH.take 3 rfl (by kernel_rfl) (by kernel_rfl) (by kernel_rfl) PF.pf rfl (pv_move rfl) rfl ?_
                refine AnyH.take 4 rfl (by kernel_rfl) (by kernel_rfl) (by kernel_rfl) PF.pf rfl (pv_move rfl) rfl ?_
                refine AnyH.take 5 rfl (by kernel_rfl) (by kernel_rfl) (by kernel_rfl) PF.pf rfl (pv_len_slice (T := 40) rfl rfl) rfl ?_
                refine AnyH.take 6 rfl (by kernel_rfl) (by kernel_rfl) (by kernel_rfl) PF.pf rfl (pv_rem rfl rfl (by omega) (tmod_nat rfl)) rfl ?_
                refine AnyH.take 7 rfl (by kernel_rfl) (by kernel_rfl) (by kernel_rfl) PF.pf rfl (pv_indexAddr (i := i % (planU T T.length).length) rfl rfl rfl hmod) rfl ?_
                refine AnyH.take 8 rfl (by kernel_rfl) (by kernel_rfl) (by kernel_rfl) PF.pf rfl (pv_load rfl rfl hny) rfl ?_
                refine AnyH.one 1 (by kernel_rfl) ?_
                refine Turn.ef rfl rfl (ef_callr (tr_sDomain sb1 _ T e l (sdL (spL L x.id x.domain x.level) x.id) hA2 hAt) rfl rfl) ?_ ?_
                · rintro _ _ ⟨rfl, rfl⟩; infer_instance
                rintro _ _ ⟨rfl, rfl⟩
                refine AnyH.take 9 rfl (by kernel_rfl) (by kernel_rfl) (by kernel_rfl) PF.pf rfl ((pv_neq rfl rfl).fls (by first | exact fun h => h rfl | decide | omega | assumption)) rfl ?_
                refine AnyH.done (by kernel_rfl) ?_
                refine Ends.seq ?_
                refine Wp.cond_false rfl ?_
                refine Wp.skip ?_
                refine Ends.seq ?_
                refine Wp.region ?_
                refine Ops.pv (pv_move rfl) rfl ?_
                refine Ops.ef rfl (ef_call (tr_sTick sb1 _ T e l (sdL (spL L x.id x.domain x.level) x.id) hA2 hAt) rfl rfl) ?_
                rintro _ _ ⟨_, _, ⟨rfl, hA5⟩, rfl, rfl⟩
                refine Ops.app ?_
                refine Ops.nil ?_
                refine Ends.block_normal ?_
                refine Ends.seq ?_
                refine Wp.region ?_
                refine Ops.pv (pv_move rfl) rfl ?_
                first | refine Ops.pv (pv_add rfl rfl (w64 (by omega) (by omega))) rfl ?_ | refine Ops.pv (pv_add rfl rfl rfl) rfl ?_
                refine Ops.pv (pv_assign rfl) rfl ?_
                refine Ops.nil ?_
                refine Ends.goes ?_
                refine Goes.back (hK (i + 1, nxE T e l, nxL T e l, (sdL (spL L x.id x.domain x.level) x.id), _) ⟨by dsimp only; omega, hAt.next, ?_, (sdW (spW hW x.id x.domain x.level) x.id), (sdLen (spLen hl x.id x.domain x.level) x.id).mono (by dsimp only; omega), hA5⟩ (by dsimp only; omega)) ⟨rfl, rfl, rfl, rfl, rfl, trivial⟩
                dsimp only; rw [hAt.pos_next, hpi, ← hpl, ← Int.natCast_one, ← Int.natCast_add, tmod_nat rfl]; congr 1; rw [Nat.mod_add_mod]
            · refine Wp.skip ?_
              refine Ends.seq ?_
              refine Wp.seq ?_
              refine Wp.region ?_
              refine Ops.pv (pv_move rfl) rfl ?_
              refine Ops.pv (pv_move rfl) rfl ?_
              refine Ops.pv (pv_indexAddr rfl rfl rfl (by omega)) rfl ?_
              first | refine Ops.pv (pv_fieldAddr0 rfl rfl) rfl ?_ | refine Ops.pv (pv_fieldAddr rfl rfl) rfl ?_
              first | refine Ops.pv (pv_load rfl rfl rfl) rfl ?_ | refine Ops.pv (pv_load rfl rfl (by assumption)) rfl ?_
              refine Ops.pv (pv_eql rfl rfl) rfl ?_
              refine Ops.nil ?_
              refine Ends.seq ?_
              first | refine Wp.cond_dect rfl (fun h8 => ?_) (fun h8 => ?_) | refine Wp.cond_t rfl (fun h8 => ?_) (fun h8 => ?_)
              · refine Wp.region ?_
                refine Ops.pv (pv_move rfl) rfl ?_
                refine Ops.pv (pv_move rfl) rfl ?_
                refine Ops.pv (pv_move rfl) rfl ?_
                refine Ops.pv (pv_indexAddr rfl rfl rfl (by omega)) rfl ?_
                first | refine Ops.pv (pv_fieldAddr0 rfl rfl) rfl ?_ | refine Ops.pv (pv_fieldAddr rfl rfl) rfl ?_
                first | refine Ops.pv (pv_load rfl rfl rfl) rfl ?_ | refine Ops.pv (pv_load rfl rfl (by assumption)) rfl ?_
                refine Ops.ef rfl (ef_call (tr_sYield sb1 _ T e l (spL L x.id x.domain x.level) hA1 hAt (spW hW x.id x.domain x.level) ((spLen hl x.id x.domain x.level).mono (by omega)) x.id) rfl rfl) ?_
                rintro _ _ ⟨_, _, ⟨rfl, hA6⟩, rfl, rfl⟩
                refine Ops.app ?_
                refine Ops.nil ?_
                refine Ends.seq ?_
                refine Wp.seq ?_
                refine Wp.seq ?_
                refine AnyH.start K 10 rfl ?_
                refine AnyH.take 0 rfl (by kernel_rfl) (by kernel_rfl) (by kernel_rfl) PF.pf rfl (pv_move rfl) rfl ?_
                refine AnyH.take 2 rfl (by kernel_rfl) (by kernel_rfl) (by kernel_rfl) PF.pf rfl (pv_move rfl) rfl ?_
                refine AnyH.take 3 rfl (by kernel_rfl) (by kernel_rfl) (by kernel_rfl) PF.pf rfl (pv_move rfl) rfl ?_
                refine AnyH.take 4 rfl (by kernel_rfl) (by kernel_rfl) (by kernel_rfl) PF.pf rfl (pv_move rfl) rfl ?_
                refine AnyH.take 5 rfl (by kernel_rfl) (by kernel_rfl) (by kernel_rfl) PF.pf rfl (pv_len_slice (T := 40) rfl rfl) rfl ?_
                refine AnyH.take 6 rfl (by kernel_rfl) (by kernel_rfl) (by kernel_rfl) PF.pf rfl (pv_rem rfl rfl (by omega) (tmod_nat rfl)) rfl ?_
                refine AnyH.take 7 rfl (by kernel_rfl) (by kernel_rfl) (by kernel_rfl) PF.pf rfl (pv_indexAddr (i := i % (planU T T.length).length) rfl rfl rfl hmod) rfl ?_
                refine AnyH.take 8 rfl (by kernel_rfl) (by kernel_rfl) (by kernel_rfl) PF.pf rfl (pv_load rfl rfl hny) rfl ?_
                refine AnyH.one 1 (by kernel_rfl) ?_
                refine Turn.ef rfl rfl (ef_callr (tr_sDomain sb1 _ T e l (syL (spL L x.id x.domain x.level) x.id) hA6 hAt) rfl rfl) ?_ ?_
                · rintro _ _ ⟨rfl, rfl⟩; infer_instance
                rintro _ _ ⟨rfl, rfl⟩
                refine AnyH.take 9 rfl (by kernel_rfl) (by kernel_rfl) (by kernel_rfl) PF.pf rfl ((pv_neq rfl rfl).fls (by first | exact fun h => h rfl | decide | omega | assumption)) rfl ?_
                refine AnyH.done (by kernel_rfl) ?_
                refine Ends.seq ?_
                refine Wp.cond_false rfl ?_
                refine Wp.skip ?_
                refine Ends.seq ?_
                refine Wp.region ?_
                refine Ops.pv (pv_move rfl) rfl ?_
                refine Ops.ef rfl (ef_call (tr_sTick sb1 _ T e l (syL (spL L x.id x.domain x.level) x.id) hA6 hAt) rfl rfl) ?_
                rintro _ _ ⟨_, _, ⟨rfl, hA7⟩, rfl, rfl⟩
                refine Ops.app ?_
                refine Ops.nil ?_
                refine Ends.block_normal ?_
                refine Ends.seq ?_
                refine Wp.region ?_
                refine Ops.pv (pv_move rfl) rfl ?_
                first | refine Ops.pv (pv_add rfl rfl (w64 (by omega) (by omega))) rfl ?_ | refine Ops.pv (pv_add rfl rfl rfl) rfl ?_
                refine Ops.pv (pv_assign rfl) rfl ?_
                refine Ops.nil ?_
                refine Ends.goes ?_
                refine Goes.back (hK (i + 1, nxE T e l, nxL T e l, (syL (spL L x.id x.domain x.level) x.id), _) ⟨by dsimp only; omega, hAt.next, ?_, (syW (spW hW x.id x.domain x.level) x.id), (syLen (spLen hl x.id x.domain x.level) x.id).mono (by dsimp only; omega), hA7⟩ (by dsimp only; omega)) ⟨rfl, rfl, rfl, rfl, rfl, trivial⟩
                dsimp only; rw [hAt.pos_next, hpi, ← hpl, ← Int.natCast_one, ← Int.natCast_add, tmod_nat rfl]; congr 1; rw [Nat.mod_add_mod]
              · refine Wp.skip ?_
                refine Ends.seq ?_
                refine Wp.seq ?_
                refine Wp.seq ?_
                refine AnyH.start K 10 rfl ?_
                refine AnyH.take 0 rfl (by kernel_rfl) (by kernel_rfl) (by kernel_rfl) PF.pf rfl (pv_move rfl) rfl ?_
                refine AnyH.take 2 rfl (by kernel_rfl) (by kernel_rfl) (by kernel_rfl) PF.pf rfl (pv_move rfl) rfl ?_
                refine AnyH.take 3 rfl (by kernel_rfl) (by kernel_rfl) (by kernel_rfl) PF.pf rfl (pv_move rfl) rfl ?_
                refine AnyH.take 4 rfl (by kernel_rfl) (by kernel_rfl) (by kernel_rfl) PF.pf rfl (pv_move rfl) rfl ?_
                refine AnyH.take 5 rfl (by kernel_rfl) (by kernel_rfl) (by kernel_rfl) PF.pf rfl (pv_len_slice (T := 40) rfl rfl) rfl ?_
                refine AnyH.take 6 rfl (by kernel_rfl) (by kernel_rfl) (by kernel_rfl) PF.pf rfl (pv_rem rfl rfl (by omega) (tmod_nat rfl)) rfl ?_
                refine AnyH.take 7 rfl (by kernel_rfl) (by kernel_rfl) (by kernel_rfl) PF.pf rfl (pv_indexAddr (i := i % (planU T T.length).length) rfl rfl rfl hmod) rfl ?_
                refine AnyH.take 8 rfl (by kernel_rfl) (by kernel_rfl) (by kernel_rfl) PF.pf rfl (pv_load rfl rfl hny) rfl ?_
                refine AnyH.one 1 (by kernel_rfl) ?_
                refine Turn.ef rfl rfl (ef_callr (tr_sDomain sb1 _ T e l (spL L x.id x.domain x.level) hA1 hAt) rfl rfl) ?_ ?_
                · rintro _ _ ⟨rfl, rfl⟩; infer_instance
                rintro _ _ ⟨rfl, rfl⟩
                refine AnyH.take 9 rfl (by kernel_rfl) (by kernel_rfl) (by kernel_rfl) PF.pf rfl ((pv_neq rfl rfl).fls (by first | exact fun h => h rfl | decide | omega | assumption)) rfl ?_
                refine AnyH.done (by kernel_rfl) ?_
                refine Ends.seq ?_
                refine Wp.cond_false rfl ?_
                refine Wp.skip ?_
                refine Ends.seq ?_
                refine Wp.region ?_
                refine Ops.pv (pv_move rfl) rfl ?_
                refine Ops.ef rfl (ef_call (tr_sTick sb1 _ T e l (spL L x.id x.domain x.level) hA1 hAt) rfl rfl) ?_
                rintro _ _ ⟨_, _, ⟨rfl, hA8⟩, rfl, rfl⟩
                refine Ops.app ?_
                refine Ops.nil ?_
                refine Ends.block_normal ?_
                refine Ends.seq ?_
                refine Wp.region ?_
                refine Ops.pv (pv_move rfl) rfl ?_
                first | refine Ops.pv (pv_add rfl rfl (w64 (by omega) (by omega))) rfl ?_ | refine Ops.pv (pv_add rfl rfl rfl) rfl ?_
                refine Ops.pv (pv_assign rfl) rfl ?_
                refine Ops.nil ?_
                refine Ends.goes ?_
                refine Goes.back (hK (i + 1, nxE T e l, nxL T e l, (spL L x.id x.domain x.level), _) ⟨by dsimp only; omega, hAt.next, ?_, (spW hW x.id x.domain x.level), (spLen hl x.id x.domain x.level).mono (by dsimp only; omega), hA8⟩ (by dsimp only; omega)) ⟨rfl, rfl, rfl, rfl, rfl, trivial⟩
                dsimp only; rw [hAt.pos_next, hpi, ← hpl, ← Int.natCast_one, ← Int.natCast_add, tmod_nat rfl]; congr 1; rw [Nat.mod_add_mod]
          · refine Wp.skip ?_
            refine Ends.seq ?_
            refine Wp.seq ?_
            refine Wp.seq ?_
            refine AnyH.start K 10 rfl ?_
            refine AnyH.take 0 rfl (by kernel_rfl) (by kernel_rfl) (by kernel_rfl) PF.pf rfl (pv_move rfl) rfl ?_
            refine AnyH.take 2 rfl (by kernel_rfl) (by kernel_rfl) (by kernel_rfl) PF.pf rfl (pv_move rfl) rfl ?_
            refine AnyH.take 3 rfl (by kernel_rfl) (by kernel_rfl) (by kernel_rfl) PF.pf rfl (pv_move rfl) rfl ?_
            refine AnyH.take 4 rfl (by kernel_rfl) (by kernel_rfl) (by kernel_rfl) PF.pf rfl (pv_move rfl) rfl ?_
            refine AnyH.take 5 rfl (by kernel_rfl) (by kernel_rfl) (by kernel_rfl) PF.pf rfl (pv_len_slice (T := 40) rfl rfl) rfl ?_
            refine AnyH.take 6 rfl (by kernel_rfl) (by kernel_rfl) (by kernel_rfl) PF.pf rfl (pv_rem rfl rfl (by omega) (tmod_nat rfl)) rfl ?_
            refine AnyH.take 7 rfl (by kernel_rfl) (by kernel_rfl) (by kernel_rfl) PF.pf rfl (pv_indexAddr (i := i % (planU T T.length).length) rfl rfl rfl hmod) rfl ?_
            refine AnyH.take 8 rfl (by kernel_rfl) (by kernel_rfl) (by kernel_rfl) PF.pf rfl (pv_load rfl rfl hny) rfl ?_
            refine AnyH.one 1 (by kernel_rfl) ?_
            refine Turn.ef rfl rfl (ef_callr (tr_sDomain sb1 _ T e l L hA hAt) rfl rfl) ?_ ?_
            · rintro _ _ ⟨rfl, rfl⟩; infer_instance
            rintro _ _ ⟨rfl, rfl⟩
            refine AnyH.take 9 rfl (by kernel_rfl) (by kernel_rfl) (by kernel_rfl) PF.pf rfl ((pv_neq rfl rfl).fls (by first | exact fun h => h rfl | decide | omega | assumption)) rfl ?_
            refine AnyH.done (by kernel_rfl) ?_
            refine Ends.seq ?_
            refine Wp.cond_false rfl ?_
            refine Wp.skip ?_
            refine Ends.seq ?_
            refine Wp.region ?_
            refine Ops.pv (pv_move rfl) rfl ?_
            refine Ops.ef rfl (ef_call (tr_sTick sb1 _ T e l L hA hAt) rfl rfl) ?_
            rintro _ _ ⟨_, _, ⟨rfl, hA9⟩, rfl, rfl⟩
            refine Ops.app ?_
            refine Ops.nil ?_
            refine Ends.block_normal ?_
            refine Ends.seq ?_
            refine Wp.region ?_
            refine Ops.pv (pv_move rfl) rfl ?_
            first | refine Ops.pv (pv_add rfl rfl (w64 (by omega) (by omega))) rfl ?_ | refine Ops.pv (pv_add rfl rfl rfl) rfl ?_
            refine Ops.pv (pv_assign rfl) rfl ?_
            refine Ops.nil ?_
            refine Ends.goes ?_
            refine Goes.back (hK (i + 1, nxE T e l, nxL T e l, L, _) ⟨by dsimp only; omega, hAt.next, ?_, hW, hl.mono (by dsimp only; omega), hA9⟩ (by dsimp only; omega)) ⟨rfl, rfl, rfl, rfl, rfl, trivial⟩
            dsimp only; rw [hAt.pos_next, hpi, ← hpl, ← Int.natCast_one, ← Int.natCast_add, tmod_nat rfl]; congr 1; rw [Nat.mod_add_mod]
        · refine Wp.exit ?_
          refine Ends.then_exit ?_
          refine Ends.then_exit ?_
          refine Ends.block_hit ?_
          refine Ends.seq ?_
          refine Wp.seq ?_
          refine Wp.region ?_
          refine Ops.pv (pv_assign rfl) rfl ?_
          refine Ops.nil ?_
          refine Ends.seq ?_
          refine Wp.ret ?_
          exact Ends.ret (res1 rfl rfl) ⟨rfl, rfl⟩
    · refine Wp.skip ?_
      refine Ends.seq ?_
      refine Wp.seq ?_
      refine Wp.region ?_
      refine Ops.pv (pv_move rfl) rfl ?_
      refine Ops.ef rfl (ef_call (tr_to G ta tc T hv (by omega)) rfl rfl) ?_
      rintro _ _ ⟨_, _, ⟨C2, hc2, rfl⟩, rfl, rfl⟩
      refine Ops.app ?_
      obtain ⟨p2, q2, rfl⟩ := hc2.form
      refine Ops.ef rfl (ef_callr (tr_sNewBad C2 _ _ T hc2.view (by omega) hT) rfl rfl) ?_
      rintro _ _ ⟨rfl, rfl⟩
      refine Ops.pv (pv_move rfl) rfl ?_
      refine Ops.pv (pv_extract rfl rfl) rfl ?_
      refine Ops.pv (pv_extract rfl rfl) rfl ?_
      refine Ops.pv (pv_assign rfl) rfl ?_
      refine Ops.pv (pv_assign rfl) rfl ?_
      refine Ops.nil ?_
      refine Ends.seq ?_
      refine Wp.seq ?_
      refine Wp.seq ?_
      refine Wp.region ?_
      refine Ops.pv (pv_move rfl) rfl ?_
      refine Ops.pv ((pv_neq rfl rfl).tru (by first | rfl | decide | omega | assumption | (simp; done) | (simp; omega))) rfl ?_
      refine Ops.pv (pv_move rfl) rfl ?_
      refine Ops.skipg ⟨_, _, rfl, rfl, rfl⟩ rfl ?_
      refine Ops.skipg ⟨_, _, rfl, rfl, rfl⟩ rfl ?_
      refine Ops.pv (pv_pick_true rfl rfl) rfl ?_
      refine Ops.nil ?_
      refine Ends.seq ?_
      refine Wp.cond_true rfl ?_
      refine Wp.seq ?_
      refine Wp.region ?_
      refine Ops.pv (pv_move rfl) rfl ?_
      refine Ops.pv ((pv_eql rfl rfl).tru (by first | rfl | decide | omega | assumption | (simp; done) | (simp; omega))) rfl ?_
      refine Ops.pv (pv_assign rfl) rfl ?_
      refine Ops.nil ?_
      refine Ends.seq ?_
      refine Wp.ret ?_
      refine Ends.then_ret ?_
      exact Ends.ret (res1 rfl rfl) ⟨rfl, rfl⟩

end Go.Proofs.Ytpjodkcghiklcab
