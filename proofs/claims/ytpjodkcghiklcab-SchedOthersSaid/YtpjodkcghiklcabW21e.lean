/- Walks of SchedPicks and SchedOthers: each returns true, whatever the input. No condition. -/
import Derived.Test.YtpjodkcghiklcabM21p
set_option linter.unusedVariables false
set_option linter.unusedSimpArgs false
namespace Go.Proofs.Ytpjodkcghiklcab
open Go.SL

set_option maxHeartbeats 4000000 in
theorem tr_schedPicks (G : Hp) (a : Option Addr) (c : Nat) (ops : List OpS) (ha : ArgS G 4 a (ops.map OpS.cells)) (hol : ops.length ≤ maxLen) (n : Int) : TrR Try.prog 4 [.slice a ops.length c, .int .i64 n] (G) (.bool true) := by
  refine Tr.enter Try.func4 rfl Try.ntmps4 rfl (fun W F => ?_)
  refine Wp.app ?_
  refine Wp.seq ?_
  refine Wp.region ?_
  refine Ops.pv (pv_assign rfl) rfl ?_
  refine Ops.nil ?_
  refine Ends.seq ?_
  refine Wp.seq ?_
  refine Wp.seq ?_
  refine Wp.region ?_
  refine Ops.ef rfl (ef_callr (tr_works21) rfl rfl) ?_
  rintro _ _ ⟨rfl, rfl⟩
  first | refine Ops.pv (pv_not_dec rfl) rfl ?_ | refine Ops.pv (pv_not rfl) rfl ?_
  refine Ops.nil ?_
  refine Ends.seq ?_
  refine Wp.cond_false rfl ?_
  refine Wp.skip ?_
  refine Ends.seq ?_
  refine Wp.seq ?_
  refine Wp.region ?_
  refine Ops.pv (pv_move rfl) rfl ?_
  refine Ops.pv (pv_conv rfl (uI_eq _)) rfl ?_
  refine Ops.pv (pv_rem rfl rfl (by omega) (tmod_nat (b := 4) rfl)) rfl ?_
  refine Ops.pv (pv_conv rfl (w64n rfl (by omega))) rfl ?_
  refine Ops.pv (pv_assign rfl) rfl ?_
  refine Ops.nil ?_
  refine Ends.seq ?_
  refine Wp.seq ?_
  refine Wp.region ?_
  obtain ⟨dm, hdm, hd4⟩ : ∃ dm : Nat, uI n % 4 = dm ∧ dm < 4 := ⟨_, rfl, Nat.mod_lt _ (by omega)⟩
  rw [hdm]
  refine Ops.pv (pv_move rfl) rfl ?_
  refine Ops.pv (pv_build rfl) rfl ?_
  refine Ops.ef rfl (ef_buildSlice1 (k := 2) rfl rfl rfl rfl rfl) ?_
  rintro _ _ ⟨b1, rfl, rfl⟩
  refine Ops.ef rfl (ef_call (tr_sNewOk [(b1, .cells [.int .i64 (dm : Int), .int .i64 5].toArray 39)] _ _ [((dm : Int), 5)] (view_lit rfl) (by simp) (one_ok dm hd4 5 (by omega))) rfl rfl) ?_
  rintro _ _ ⟨_, _, ⟨sb1, HS1, rfl, hZ1, rfl⟩, rfl, rfl⟩
  refine Ops.app ?_
  refine Ops.pv (pv_move rfl) rfl ?_
  refine Ops.pv (pv_extract rfl rfl) rfl ?_
  refine Ops.pv (pv_extract rfl rfl) rfl ?_
  refine Ops.pv (pv_assign rfl) rfl ?_
  refine Ops.pv (pv_assign rfl) rfl ?_
  refine Ops.nil ?_
  refine Ends.seq ?_
  refine Wp.seq ?_
  refine Wp.seq ?_
  refine Wp.region ?_
  refine Ops.pv (pv_move rfl) rfl ?_
  refine Ops.pv ((pv_neq rfl rfl).fls (by first | exact fun h => h rfl | decide | omega | assumption)) rfl ?_
  refine Ops.pv (pv_move rfl) rfl ?_
  refine Ops.pvg ⟨_, _, rfl, rfl, rfl⟩ (pv_move rfl) rfl ?_
  refine Ops.pvg ⟨_, _, rfl, rfl, rfl⟩ (pv_eql_nil rfl rfl) rfl ?_
  refine Ops.pv (pv_pick_false rfl rfl) rfl ?_
  refine Ops.nil ?_
  refine Ends.seq ?_
  refine Wp.cond_false rfl ?_
  refine Wp.skip ?_
  refine Ends.seq ?_
  refine Wp.seq ?_
  refine Wp.region ?_
  have hAt : At [((dm : Int), 5)] 0 5 := At.start (one_ok dm hd4 5 (by omega))
  refine Ops.pv (pv_assign rfl) rfl ?_
  refine Ops.nil ?_
  refine Ends.seq ?_
  refine Wp.seq ?_
  refine Wp.region ?_
  refine Ops.pv (pv_assign rfl) rfl ?_
  refine Ops.nil ?_
  refine Ends.seq ?_
  refine Wp.seq ?_
  refine Wp.seq ?_
  refine Wp.region ?_
  refine Ops.pv (pv_assign rfl) rfl ?_
  refine Ops.nil ?_
  refine Ends.seq ?_
  refine Wp.block ?_
  refine Wp.loopK (σ := Nat × (Nat → Ones) × Hp × Value × Hp × Int) [(0, _), (1, _), (5, _)] (fun s => [(7, s.2.2.2.1), (8, .int .i64 s.2.2.2.2.2), (9, .int .i64 s.1)]) (fun s => s.2.2.1 ++ (s.2.2.2.2.1 ++ (G ++ F))) (fun s => s.1 ≤ 60 ∧ RdysW s.2.1 ∧ RdysL s.2.1 s.1 ∧ UniqL s.2.1 ∧ SchH [((dm : Int), 5)] 0 5 s.2.1 sb1 s.2.2.1 ∧ TopL (s.2.1 dm) s.2.2.2.2.2 ∧ Slc 3 1 s.2.2.2.1 (lvl (s.2.1 dm) s.2.2.2.2.2).length (intsC (lvl (s.2.1 dm) s.2.2.2.2.2)) s.2.2.2.2.1) (fun s => ops.length - s.1) (0, fun _ => [], HS1, .slice none 0 0, [], -1) ⟨Nat.zero_le _, RdysW.nil, fun _ _ => Nat.zero_le _, UniqL.nil, hZ1, TopL.nil, Slc.nil _ _⟩ ⟨rfl, rfl, rfl, trivial⟩ ⟨rfl, rfl, rfl, trivial⟩ (by intro w ho; (try dsimp only [List.nil_append, List.cons_append]); exact Drop.own ho) ?_
  rintro ⟨i, L, H, v, K, top⟩ KK ⟨hi, hW, hl, hU, hA, htop, hs⟩ hK
  dsimp only [List.cons_append, List.nil_append] at hK ⊢
  dsimp only at hi hW hl hU hA htop hs ⊢
  obtain ⟨vp, vc, rfl⟩ := hs.form
  refine Wp.seq ?_
  refine Wp.seq ?_
  refine Wp.region ?_
  refine Ops.pv (pv_move rfl) rfl ?_
  refine Ops.pv (pv_move rfl) rfl ?_
  refine Ops.pv (pv_len_slice (T := 38) rfl rfl) rfl ?_
  refine Ops.pv (pv_lss rfl rfl) rfl ?_
  refine Ops.pv (pv_move rfl) rfl ?_
  refine Ops.pvc rfl rfl (fun hg => pv_move rfl) rfl ?_
  refine Ops.pvc rfl rfl (fun hg => Pv.setE (t := 41) rfl (cv_pos hg) (pv_lss rfl rfl)) rfl ?_
  refine Ops.pv (pv_pick_and rfl rfl) rfl ?_
  refine Ops.nil ?_
  refine Ends.seq ?_
  first | refine Wp.cond_dect rfl (fun h1 => ?_) (fun h1 => ?_) | refine Wp.cond_t rfl (fun h1 => ?_) (fun h1 => ?_)
  · obtain ⟨x, hq⟩ : ∃ x, ops[i]? = some x := ⟨_, List.getElem?_eq_getElem (by omega)⟩
    obtain ⟨_, bo, oo, co, To, fo, rfl, hm, hro⟩ := ha i x.cells (by rw [List.getElem?_map, hq]; rfl)
    have hbg : Blk G bo (.cells co.toArray To fo) := ⟨hm⟩
    refine Wp.skip ?_
    refine Ends.seq ?_
    refine Wp.seq ?_
    refine Wp.block ?_
    refine Wp.seq ?_
    refine Wp.region ?_
    refine Ops.pv (pv_move rfl) rfl ?_
    refine Ops.pv (pv_move rfl) rfl ?_
    refine Ops.pv (pv_indexAddr rfl rfl rfl (by omega)) rfl ?_
    refine Ops.pv (pv_loadK x.cells rfl rfl rfl hro) rfl ?_
    refine Ops.ef rfl (ef_allocK tyZ42 rfl) ?_
    rintro _ _ ⟨b2, rfl, rfl⟩
    refine Ops.ef rfl (ef_storeK rfl rfl rfl rfl) ?_
    rintro _ _ ⟨rfl, rfl⟩
    refine Ops.nil ?_
    refine Ends.seq ?_
    refine Wp.seq ?_
    refine Wp.seq ?_
    refine Wp.region ?_
    refine Ops.pv (pv_move rfl) rfl ?_
    first | refine Ops.pv (pv_fieldAddr0 rfl rfl) rfl ?_ | refine Ops.pv (pv_fieldAddr rfl rfl) rfl ?_
    first | refine Ops.pv (pv_load rfl rfl rfl) rfl ?_ | refine Ops.pv (pv_load rfl rfl (by assumption)) rfl ?_
    first | refine Ops.pv (pv_fieldAddr0 rfl rfl) rfl ?_ | refine Ops.pv (pv_fieldAddr rfl rfl) rfl ?_
    first | refine Ops.pv (pv_load rfl rfl rfl) rfl ?_ | refine Ops.pv (pv_load rfl rfl (by assumption)) rfl ?_
    first | refine Ops.pv (pv_fieldAddr0 rfl rfl) rfl ?_ | refine Ops.pv (pv_fieldAddr rfl rfl) rfl ?_
    first | refine Ops.pv (pv_load rfl rfl rfl) rfl ?_ | refine Ops.pv (pv_load rfl rfl (by assumption)) rfl ?_
    refine Ops.ef rfl (ef_call (tr_sPut sb1 _ [((dm : Int), 5)] 0 5 L hA hAt hW (hl.mono (by omega)) x.id x.domain x.level) rfl rfl) ?_
    rintro _ _ ⟨_, _, ⟨rfl, hA1⟩, rfl, rfl⟩
    refine Ops.app ?_
    refine Ops.pv (pv_neq rfl rfl) rfl ?_
    refine Ops.pv (pv_move rfl) rfl ?_
    first | refine Ops.pvcn rfl rfl (fun hg => pv_fieldAddr0 rfl rfl) rfl ?_ | refine Ops.pvcn rfl rfl (fun hg => pv_fieldAddr rfl rfl) rfl ?_
    first | refine Ops.pvcn rfl rfl (fun hg => Pv.setE (t := 60) rfl (cv_pos hg) (pv_load rfl rfl rfl)) rfl ?_ | refine Ops.pvcn rfl rfl (fun hg => Pv.setE (t := 60) rfl (cv_pos hg) (pv_load rfl rfl (by assumption))) rfl ?_
    refine Ops.pvcn rfl rfl (fun hg => Pv.setE (t := 60) rfl (cv_pos hg) (Pv.setE (t := 61) rfl (cv_pos hg) (pv_move rfl))) rfl ?_
    refine Ops.pvcn rfl rfl (fun hg => Pv.setE (t := 60) rfl (cv_pos hg) (Pv.setE (t := 61) rfl (cv_pos hg) (Pv.setE (t := 62) rfl (cv_pos hg) (pv_neq rfl rfl)))) rfl ?_
    refine Ops.pv (pv_pick_or rfl rfl) rfl ?_
    refine Ops.nil ?_
    refine Ends.seq ?_
    first | refine Wp.cond_dect rfl (fun h2 => ?_) (fun h2 => ?_) | refine Wp.cond_t rfl (fun h2 => ?_) (fun h2 => ?_)
    · refine Wp.exit ?_
      refine Ends.then_exit ?_
      refine Ends.block_hit ?_
      refine Ends.seq ?_
      refine Wp.region ?_
      refine Ops.pv (pv_move rfl) rfl ?_
      first | refine Ops.pv (pv_add rfl rfl (w64 (by omega) (by omega))) rfl ?_ | refine Ops.pv (pv_add rfl rfl rfl) rfl ?_
      refine Ops.pv (pv_assign rfl) rfl ?_
      refine Ops.nil ?_
      refine Ends.goes ?_
      have hsame := sp_other (L := L) (x := x.id) (d := x.domain) (k := x.level) (dm := dm) (by omega) hd4
      refine Goes.back (hK (i + 1, (spL L x.id x.domain x.level), _, .slice vp (lvl (L dm) top).length vc, K, top) ⟨by dsimp only; omega, spW hW _ _ _, spLen hl _ _ _, hU.put _ _ _, hA1, by dsimp only; rw [hsame]; exact htop, by dsimp only; rw [hsame]; exact hs⟩ (by dsimp only; omega)) ⟨rfl, rfl, rfl, rfl, rfl, rfl, trivial⟩
    · have hdx : x.domain = dm := by omega
      have he0 : spE L x.id (dm : Int) x.level = 0 := by rw [← hdx]; omega
      have hhere := sp_here he0
      rw [← hdx] at hhere
      refine Wp.skip ?_
      refine Ends.seq ?_
      refine Wp.seq ?_
      refine Wp.seq ?_
      refine Wp.region ?_
      first | refine Ops.pv (pv_fieldAddr0 rfl rfl) rfl ?_ | refine Ops.pv (pv_fieldAddr rfl rfl) rfl ?_
      first | refine Ops.pv (pv_load rfl rfl rfl) rfl ?_ | refine Ops.pv (pv_load rfl rfl (by assumption)) rfl ?_
      refine Ops.pv (pv_move rfl) rfl ?_
      refine Ops.pv (pv_gtr rfl rfl) rfl ?_
      refine Ops.nil ?_
      refine Ends.seq ?_
      first | refine Wp.cond_dect rfl (fun h3 => ?_) (fun h3 => ?_) | refine Wp.cond_t rfl (fun h3 => ?_) (fun h3 => ?_)
      · refine Wp.seq ?_
        refine Wp.region ?_
        refine Ops.pv (pv_assign rfl) rfl ?_
        refine Ops.nil ?_
        refine Ends.seq ?_
        refine Wp.region ?_
        first | refine Ops.pv (pv_fieldAddr0 rfl rfl) rfl ?_ | refine Ops.pv (pv_fieldAddr rfl rfl) rfl ?_
        first | refine Ops.pv (pv_load rfl rfl rfl) rfl ?_ | refine Ops.pv (pv_load rfl rfl (by assumption)) rfl ?_
        refine Ops.pv (pv_assign rfl) rfl ?_
        refine Ops.nil ?_
        refine Ends.seq ?_
        refine Wp.seq ?_
        refine Wp.region ?_
        first | refine Ops.pv (pv_fieldAddr0 rfl rfl) rfl ?_ | refine Ops.pv (pv_fieldAddr rfl rfl) rfl ?_
        first | refine Ops.pv (pv_load rfl rfl rfl) rfl ?_ | refine Ops.pv (pv_load rfl rfl (by assumption)) rfl ?_
        refine Ops.pv (pv_move rfl) rfl ?_
        refine Ops.pv (pv_eql rfl rfl) rfl ?_
        refine Ops.nil ?_
        refine Ends.seq ?_
        refine Wp.cond_dect rfl (fun h4 => ?_) (fun h4 => (by exfalso; omega))
        refine Wp.region ?_
        refine Ops.pv (pv_move rfl) rfl ?_
        first | refine Ops.pv (pv_fieldAddr0 rfl rfl) rfl ?_ | refine Ops.pv (pv_fieldAddr rfl rfl) rfl ?_
        first | refine Ops.pv (pv_load rfl rfl rfl) rfl ?_ | refine Ops.pv (pv_load rfl rfl (by assumption)) rfl ?_
        refine Ops.ef rfl (ef_buildSlice1 (k := 1) rfl rfl rfl rfl rfl) ?_
        rintro _ _ ⟨b3, rfl, rfl⟩
        refine Ops.ef rfl (ef_append (H := []) (xs := [.int .i64 x.id]) rfl (Slc.nil 3 1) rfl ⟨rfl, trivial⟩ rfl rfl rfl (by have := lvl_len (L dm) top; have := hl dm hd4; omega) (by have := lvl_len (L dm) top; have := hl dm hd4; omega) rfl rfl) ?_
        rintro _ _ ⟨v1, H1, hs1, rfl, rfl⟩
        refine Ops.app ?_
        skip
        refine Ops.pv (pv_assign rfl) rfl ?_
        refine Ops.nil ?_
        refine Ends.block_normal ?_
        refine Ends.seq ?_
        refine Wp.region ?_
        refine Ops.pv (pv_move rfl) rfl ?_
        first | refine Ops.pv (pv_add rfl rfl (w64 (by omega) (by omega))) rfl ?_ | refine Ops.pv (pv_add rfl rfl rfl) rfl ?_
        refine Ops.pv (pv_assign rfl) rfl ?_
        refine Ops.nil ?_
        refine Ends.goes ?_
        have hab := htop.above (x := x.id) (k := x.level) (by omega)
        refine Goes.back (hK (i + 1, (spL L x.id x.domain x.level), _, v1, H1, x.level) ⟨by dsimp only; omega, spW hW _ _ _, spLen hl _ _ _, hU.put _ _ _, hA1, by dsimp only; rw [hhere.1]; exact hab.1, by dsimp only; rw [hhere.1, hab.2]; exact hs1⟩ (by dsimp only; omega)) ⟨rfl, rfl, rfl, rfl, rfl, rfl, trivial⟩
      · refine Wp.skip ?_
        refine Ends.seq ?_
        refine Wp.seq ?_
        refine Wp.region ?_
        first | refine Ops.pv (pv_fieldAddr0 rfl rfl) rfl ?_ | refine Ops.pv (pv_fieldAddr rfl rfl) rfl ?_
        first | refine Ops.pv (pv_load rfl rfl rfl) rfl ?_ | refine Ops.pv (pv_load rfl rfl (by assumption)) rfl ?_
        refine Ops.pv (pv_move rfl) rfl ?_
        refine Ops.pv (pv_eql rfl rfl) rfl ?_
        refine Ops.nil ?_
        refine Ends.seq ?_
        first | refine Wp.cond_dect rfl (fun h5 => ?_) (fun h5 => ?_) | refine Wp.cond_t rfl (fun h5 => ?_) (fun h5 => ?_)
        · refine Wp.region ?_
          refine Ops.pv (pv_move rfl) rfl ?_
          first | refine Ops.pv (pv_fieldAddr0 rfl rfl) rfl ?_ | refine Ops.pv (pv_fieldAddr rfl rfl) rfl ?_
          first | refine Ops.pv (pv_load rfl rfl rfl) rfl ?_ | refine Ops.pv (pv_load rfl rfl (by assumption)) rfl ?_
          refine Ops.ef rfl (ef_buildSlice1 (k := 1) rfl rfl rfl rfl rfl) ?_
          rintro _ _ ⟨b4, rfl, rfl⟩
          refine Ops.ef rfl (ef_append (H := K) (xs := [.int .i64 x.id]) rfl hs rfl ⟨rfl, trivial⟩ rfl rfl rfl (by have := lvl_len (L dm) top; have := hl dm hd4; omega) (by have := lvl_len (L dm) top; have := hl dm hd4; omega) rfl rfl) ?_
          rintro _ _ ⟨v2, H2, hs2, rfl, rfl⟩
          refine Ops.app ?_
          skip
          refine Ops.pv (pv_assign rfl) rfl ?_
          refine Ops.nil ?_
          refine Ends.block_normal ?_
          refine Ends.seq ?_
          refine Wp.region ?_
          refine Ops.pv (pv_move rfl) rfl ?_
          first | refine Ops.pv (pv_add rfl rfl (w64 (by omega) (by omega))) rfl ?_ | refine Ops.pv (pv_add rfl rfl rfl) rfl ?_
          refine Ops.pv (pv_assign rfl) rfl ?_
          refine Ops.nil ?_
          refine Ends.goes ?_
          have hlt : x.level = top := by omega
          have hab := htop.at_ (x := x.id)
          refine Goes.back (hK (i + 1, (spL L x.id x.domain x.level), _, v2, H2, top) ⟨by dsimp only; omega, spW hW _ _ _, spLen hl _ _ _, hU.put _ _ _, hA1, by dsimp only; rw [hhere.1, hlt]; exact hab.1, by dsimp only; rw [hhere.1, hlt, hab.2, List.length_append, intsC_app]; exact hs2⟩ (by dsimp only; omega)) ⟨rfl, rfl, rfl, rfl, rfl, rfl, trivial⟩
        · refine Wp.skip ?_
          refine Ends.block_normal ?_
          refine Ends.seq ?_
          refine Wp.region ?_
          refine Ops.pv (pv_move rfl) rfl ?_
          first | refine Ops.pv (pv_add rfl rfl (w64 (by omega) (by omega))) rfl ?_ | refine Ops.pv (pv_add rfl rfl rfl) rfl ?_
          refine Ops.pv (pv_assign rfl) rfl ?_
          refine Ops.nil ?_
          refine Ends.goes ?_
          have hab := htop.below (x := x.id) (k := x.level) (by omega) hhere.2.1
          refine Goes.back (hK (i + 1, (spL L x.id x.domain x.level), _, .slice vp (lvl (L dm) top).length vc, K, top) ⟨by dsimp only; omega, spW hW _ _ _, spLen hl _ _ _, hU.put _ _ _, hA1, by dsimp only; rw [hhere.1]; exact hab.1, by dsimp only; rw [hhere.1, hab.2]; exact hs⟩ (by dsimp only; omega)) ⟨rfl, rfl, rfl, rfl, rfl, rfl, trivial⟩
  · refine Wp.exit ?_
    refine Ends.then_exit ?_
    refine Ends.then_exit ?_
    refine Ends.block_hit ?_
    refine Ends.seq ?_
    refine Wp.seq ?_
    refine Wp.seq ?_
    refine Wp.region ?_
    have hJ60 : (lvl (L dm) top).length ≤ 60 := Nat.le_trans (lvl_len _ _) (Nat.le_trans (hl dm hd4) (by omega))
    obtain ⟨J, hJ⟩ : ∃ J, lvl (L dm) top = J := ⟨_, rfl⟩
    have hl60 := hl.mono (show i ≤ 60 by omega)
    rw [hJ] at hs hJ60
    rw [hJ]
    have hvw := hs.view
    have hne : J ≠ [] ↔ L dm ≠ [] := by rw [← hJ]; exact ⟨fun h1 h2 => h1 (by rw [h2]; rfl), htop.2.1⟩
    refine Ops.pv (pv_assign rfl) rfl ?_
    refine Ops.nil ?_
    refine Ends.seq ?_
    refine Wp.block ?_
    refine Wp.loopK (σ := Nat × (Nat → Ones) × Hp × Nat) [(5, _), (7, _)] (fun s => [(11, .int .i64 s.1)]) (fun s => s.2.2.1 ++ (K ++ (G ++ F))) (fun s => s.1 ≤ 2 ∧ RdysW s.2.1 ∧ RdysL s.2.1 s.2.2.2 ∧ s.2.2.2 ≤ 60 + 60 * s.1 ∧ UniqL s.2.1 ∧ SchH [((dm : Int), 5)] 0 5 s.2.1 sb1 s.2.2.1 ∧ (∀ e, e ∈ s.2.1 dm → e.2 ≤ top) ∧ lvl (s.2.1 dm) top = J ∧ (J ≠ [] ↔ s.2.1 dm ≠ [])) (fun s => 2 - s.1) (0, L, H, 60) ⟨Nat.zero_le _, hW, hl60, Nat.le_refl _, hU, hA, htop.1, hJ, hne⟩ ⟨rfl, rfl, trivial⟩ ⟨rfl, trivial⟩ (by intro w ho; (try dsimp only [List.nil_append, List.cons_append]); exact Drop.own ho) ?_
    rintro ⟨r, L, H, m⟩ KK ⟨hr2, hW, hl, hm60, hU, hA, hle, hlv, hne⟩ hK
    dsimp only [List.cons_append, List.nil_append] at hK ⊢
    dsimp only at hr2 hW hl hm60 hU hA hle hlv hne ⊢
    refine Wp.seq ?_
    refine Wp.seq ?_
    refine Wp.region ?_
    refine Ops.pv (pv_move rfl) rfl ?_
    refine Ops.pv (pv_lss rfl rfl) rfl ?_
    refine Ops.nil ?_
    refine Ends.seq ?_
    first | refine Wp.cond_dect rfl (fun h6 => ?_) (fun h6 => ?_) | refine Wp.cond_t rfl (fun h6 => ?_) (fun h6 => ?_)
    · refine Wp.skip ?_
      refine Ends.seq ?_
      refine Wp.seq ?_
      refine Wp.block ?_
      refine Wp.seq ?_
      refine Wp.region ?_
      refine Ops.pv (pv_assign rfl) rfl ?_
      refine Ops.nil ?_
      refine Ends.seq ?_
      refine Wp.block ?_
      refine Wp.loopK (σ := Nat × (Nat → Ones) × Hp × Nat) [(5, _), (7, _), (11, _)] (fun s => [(12, .int .i64 s.1)]) (fun s => s.2.2.1 ++ (K ++ (G ++ F))) (fun s => s.1 ≤ J.length ∧ RdysW s.2.1 ∧ RdysL s.2.1 s.2.2.2 ∧ s.2.2.2 ≤ 60 + 60 * r + s.1 ∧ UniqL s.2.1 ∧ SchH [((dm : Int), 5)] 0 5 s.2.1 sb1 s.2.2.1 ∧ (∀ e, e ∈ s.2.1 dm → e.2 ≤ top) ∧ lvl (s.2.1 dm) top = J.drop s.1 ++ J.take s.1 ∧ (J ≠ [] ↔ s.2.1 dm ≠ [])) (fun s => J.length - s.1) (0, L, H, m) ⟨Nat.zero_le _, hW, hl, by dsimp only; omega, hU, hA, hle, by dsimp only; rw [hlv]; simp, hne⟩ ⟨rfl, rfl, rfl, trivial⟩ ⟨rfl, trivial⟩ (by intro w ho; (try dsimp only [List.nil_append, List.cons_append]); exact Drop.own ho) ?_
      rintro ⟨j, L, H, m⟩ KK ⟨hjJ, hW, hl, hm60, hU, hA, hle, hlv, hne⟩ hK1
      dsimp only [List.cons_append, List.nil_append] at hK1 ⊢
      dsimp only at hjJ hW hl hm60 hU hA hle hlv hne ⊢
      refine Wp.seq ?_
      refine Wp.seq ?_
      refine Wp.region ?_
      refine Ops.pv (pv_move rfl) rfl ?_
      refine Ops.pv (pv_move rfl) rfl ?_
      refine Ops.pv (pv_len_slice (T := 40) rfl rfl) rfl ?_
      refine Ops.pv (pv_lss rfl rfl) rfl ?_
      refine Ops.nil ?_
      refine Ends.seq ?_
      first | refine Wp.cond_dect rfl (fun h7 => ?_) (fun h7 => ?_) | refine Wp.cond_t rfl (fun h7 => ?_) (fun h7 => ?_)
      · have hj : ∃ y, J[j]? = some y := ⟨_, List.getElem?_eq_getElem (by omega)⟩
        obtain ⟨y, hy⟩ := hj
        obtain ⟨b, o, cap, cc, T0, f, hv1, hbv, hr⟩ := hvw.open (by omega)
        cases hv1
        have hny := ints_nth hr hy
        obtain ⟨t1, t2⟩ := rot_step hy
        rw [t1] at hlv
        obtain ⟨hp1, hp2⟩ := pick_top (hW dm hd4) hle hlv
        obtain ⟨y1, y2, y3, y4, y5, y6⟩ := yield_top hU hW hd4 hle hlv
        refine Wp.skip ?_
        refine Ends.seq ?_
        refine Wp.seq ?_
        refine Wp.block ?_
        refine Wp.seq ?_
        refine Wp.region ?_
        refine Ops.pv (pv_move rfl) rfl ?_
        refine Ops.ef rfl (ef_callr (tr_sPick sb1 _ [((dm : Int), 5)] 0 5 L hA hAt hW (hl.mono (by omega)) |>.eq (by rw [show domN [((dm : Int), 5)] 0 = dm from rfl, hp1, hp2])) rfl rfl) ?_
        rintro _ _ ⟨rfl, rfl⟩
        refine Ops.pv (pv_move rfl) rfl ?_
        refine Ops.pv (pv_extract rfl rfl) rfl ?_
        refine Ops.pv (pv_extract rfl rfl) rfl ?_
        refine Ops.pv (pv_assign rfl) rfl ?_
        refine Ops.pv (pv_assign rfl) rfl ?_
        refine Ops.nil ?_
        refine Ends.seq ?_
        refine Wp.seq ?_
        refine Wp.region ?_
        refine Ops.pv (pv_move rfl) rfl ?_
        first | refine Ops.pv (pv_not_dec rfl) rfl ?_ | refine Ops.pv (pv_not rfl) rfl ?_
        refine Ops.pv (pv_move rfl) rfl ?_
        refine Ops.pvg ⟨_, _, rfl, rfl, rfl⟩ (pv_move rfl) rfl ?_
        refine Ops.pvg ⟨_, _, rfl, rfl, rfl⟩ (pv_move rfl) rfl ?_
        refine Ops.pvg ⟨_, _, rfl, rfl, rfl⟩ (pv_move rfl) rfl ?_
        refine Ops.pvg ⟨_, _, rfl, rfl, rfl⟩ (pv_indexAddr (i := j) rfl rfl rfl (by omega)) rfl ?_
        refine Ops.pvg ⟨_, _, rfl, rfl, rfl⟩ (pv_load rfl rfl hny) rfl ?_
        refine Ops.pvg ⟨_, _, rfl, rfl, rfl⟩ ((pv_neq rfl rfl).fls (by first | exact fun h => h rfl | decide | omega | assumption)) rfl ?_
        refine Ops.pv (pv_pick_false rfl rfl) rfl ?_
        refine Ops.pv (pv_move rfl) rfl ?_
        refine Ops.pvg ⟨_, _, rfl, rfl, rfl⟩ (pv_move rfl) rfl ?_
        refine Ops.pvg ⟨_, _, rfl, rfl, rfl⟩ (pv_move rfl) rfl ?_
        refine Ops.efg ⟨_, _, rfl, rfl, rfl⟩ (ef_call (tr_sYield sb1 _ [((dm : Int), 5)] 0 5 L hA hAt hW (hl.mono (by omega)) y) rfl rfl) ?_
        rintro _ _ ⟨_, _, ⟨rfl, hA2⟩, rfl, rfl⟩
        refine Ops.app ?_
        rw [y1]
        first | refine Ops.pvg ⟨_, _, rfl, rfl, rfl⟩ (pv_not_dec rfl) rfl ?_ | refine Ops.pvg ⟨_, _, rfl, rfl, rfl⟩ (pv_not rfl) rfl ?_
        refine Ops.pv (pv_pick_false rfl rfl) rfl ?_
        refine Ops.nil ?_
        refine Ends.seq ?_
        refine Wp.cond_false rfl ?_
        refine Wp.skip ?_
        refine Ends.block_normal ?_
        refine Ends.seq ?_
        refine Wp.region ?_
        refine Ops.pv (pv_move rfl) rfl ?_
        first | refine Ops.pv (pv_add rfl rfl (w64 (by omega) (by omega))) rfl ?_ | refine Ops.pv (pv_add rfl rfl rfl) rfl ?_
        refine Ops.pv (pv_assign rfl) rfl ?_
        refine Ops.nil ?_
        refine Ends.goes ?_
        refine Goes.back (hK1 (j + 1, syL L y, _, m + 1) ⟨by dsimp only; omega, syW hW y, syLen hl y, by dsimp only; omega, y5, hA2, y4, by dsimp only; rw [y3, t2], ?_⟩ (by dsimp only; omega)) ⟨rfl, rfl, rfl, rfl, trivial⟩
        dsimp only; rw [y2]; exact ⟨fun _ => by simp, fun _ h9 => by rw [h9] at hy; simp at hy⟩
      · refine Wp.exit ?_
        refine Ends.then_exit ?_
        refine Ends.then_exit ?_
        refine Ends.block_hit ?_
        refine Ends.block_normal ?_
        refine Ends.seq ?_
        refine Wp.region ?_
        refine Ops.pv (pv_move rfl) rfl ?_
        first | refine Ops.pv (pv_add rfl rfl (w64 (by omega) (by omega))) rfl ?_ | refine Ops.pv (pv_add rfl rfl rfl) rfl ?_
        refine Ops.pv (pv_assign rfl) rfl ?_
        refine Ops.nil ?_
        refine Ends.goes ?_
        have hjl : j = J.length := by omega
        refine Goes.back (hK (r + 1, L, H, m) ⟨by dsimp only; omega, hW, hl, by dsimp only; omega, hU, hA, hle, ?_, hne⟩ (by dsimp only; omega)) ⟨rfl, rfl, rfl, trivial⟩
        dsimp only; rw [hlv, hjl, List.drop_length, List.take_length]; rfl
    · refine Wp.exit ?_
      refine Ends.then_exit ?_
      refine Ends.then_exit ?_
      refine Ends.block_hit ?_
      refine Ends.seq ?_
      refine Wp.seq ?_
      refine Wp.region ?_
      have hfin : nextB (L dm) = decide ((0 : Int) < (J.length : Nat)) := pick_fin (hW dm hd4) hle hlv hne
      refine Ops.pv (pv_move rfl) rfl ?_
      refine Ops.ef rfl (ef_callr (tr_sPick sb1 _ [((dm : Int), 5)] 0 5 L hA hAt hW (hl.mono (by omega)) |>.eq (by rw [show domN [((dm : Int), 5)] 0 = dm from rfl])) rfl rfl) ?_
      rintro _ _ ⟨rfl, rfl⟩
      refine Ops.pv (pv_move rfl) rfl ?_
      refine Ops.pv (pv_extract rfl rfl) rfl ?_
      refine Ops.pv (pv_extract rfl rfl) rfl ?_
      refine Ops.pv (pv_assign rfl) rfl ?_
      refine Ops.pv (pv_assign rfl) rfl ?_
      refine Ops.nil ?_
      refine Ends.seq ?_
      refine Wp.seq ?_
      refine Wp.region ?_
      refine Ops.pv (pv_move rfl) rfl ?_
      refine Ops.pv (pv_move rfl) rfl ?_
      refine Ops.pv (pv_len_slice (T := 40) rfl rfl) rfl ?_
      refine Ops.pv (pv_gtr rfl rfl) rfl ?_
      refine Ops.pv ((pv_eql_bool rfl rfl).is (u := .bool true) (by rw [hfin]; simp)) rfl ?_
      refine Ops.pv (pv_assign rfl) rfl ?_
      refine Ops.nil ?_
      refine Ends.seq ?_
      refine Wp.ret ?_
      exact Ends.ret (res1 rfl rfl) ⟨rfl, rfl⟩

set_option maxHeartbeats 4000000 in
theorem tr_schedOthers (G : Hp) (a : Option Addr) (c : Nat) (ops : List OpS) (ha : ArgS G 4 a (ops.map OpS.cells)) (hol : ops.length ≤ maxLen) (n : Int) : TrR Try.prog 6 [.slice a ops.length c, .int .i64 n] (G) (.bool true) := by
  refine Tr.enter Try.func6 rfl Try.ntmps6 rfl (fun W F => ?_)
  refine Wp.app ?_
  refine Wp.seq ?_
  refine Wp.region ?_
  refine Ops.pv (pv_assign rfl) rfl ?_
  refine Ops.nil ?_
  refine Ends.seq ?_
  refine Wp.seq ?_
  refine Wp.seq ?_
  refine Wp.region ?_
  refine Ops.ef rfl (ef_callr (tr_works21) rfl rfl) ?_
  rintro _ _ ⟨rfl, rfl⟩
  first | refine Ops.pv (pv_not_dec rfl) rfl ?_ | refine Ops.pv (pv_not rfl) rfl ?_
  refine Ops.nil ?_
  refine Ends.seq ?_
  refine Wp.cond_false rfl ?_
  refine Wp.skip ?_
  refine Ends.seq ?_
  refine Wp.seq ?_
  refine Wp.region ?_
  refine Ops.pv (pv_move rfl) rfl ?_
  refine Ops.pv (pv_conv rfl (uI_eq _)) rfl ?_
  refine Ops.pv (pv_rem rfl rfl (by omega) (tmod_nat (b := 4) rfl)) rfl ?_
  refine Ops.pv (pv_conv rfl (w64n rfl (by omega))) rfl ?_
  refine Ops.pv (pv_assign rfl) rfl ?_
  refine Ops.nil ?_
  refine Ends.seq ?_
  refine Wp.seq ?_
  refine Wp.region ?_
  obtain ⟨dm, hdm, hd4⟩ : ∃ dm : Nat, uI n % 4 = dm ∧ dm < 4 := ⟨_, rfl, Nat.mod_lt _ (by omega)⟩
  rw [hdm]
  refine Ops.pv (pv_move rfl) rfl ?_
  refine Ops.pv (pv_build rfl) rfl ?_
  refine Ops.ef rfl (ef_buildSlice1 (k := 2) rfl rfl rfl rfl rfl) ?_
  rintro _ _ ⟨b1, rfl, rfl⟩
  refine Ops.ef rfl (ef_call (tr_sNewOk [(b1, .cells [.int .i64 (dm : Int), .int .i64 9].toArray 39)] _ _ [((dm : Int), 9)] (view_lit rfl) (by simp) (one_ok dm hd4 9 (by omega))) rfl rfl) ?_
  rintro _ _ ⟨_, _, ⟨sb1, HS1, rfl, hZ1, rfl⟩, rfl, rfl⟩
  refine Ops.app ?_
  refine Ops.pv (pv_move rfl) rfl ?_
  refine Ops.pv (pv_extract rfl rfl) rfl ?_
  refine Ops.pv (pv_extract rfl rfl) rfl ?_
  refine Ops.pv (pv_assign rfl) rfl ?_
  refine Ops.pv (pv_assign rfl) rfl ?_
  refine Ops.nil ?_
  refine Ends.seq ?_
  refine Wp.seq ?_
  refine Wp.region ?_
  refine Ops.pv (pv_move rfl) rfl ?_
  refine Ops.pv (pv_build rfl) rfl ?_
  refine Ops.ef rfl (ef_buildSlice1 (k := 2) rfl rfl rfl rfl rfl) ?_
  rintro _ _ ⟨b2, rfl, rfl⟩
  refine Ops.ef rfl (ef_call (tr_sNewOk [(b2, .cells [.int .i64 (dm : Int), .int .i64 9].toArray 39)] _ _ [((dm : Int), 9)] (view_lit rfl) (by simp) (one_ok dm hd4 9 (by omega))) rfl rfl) ?_
  rintro _ _ ⟨_, _, ⟨sb2, HS2, rfl, hZ2, rfl⟩, rfl, rfl⟩
  refine Ops.app ?_
  refine Ops.pv (pv_move rfl) rfl ?_
  refine Ops.pv (pv_extract rfl rfl) rfl ?_
  refine Ops.pv (pv_extract rfl rfl) rfl ?_
  refine Ops.pv (pv_assign rfl) rfl ?_
  refine Ops.pv (pv_assign rfl) rfl ?_
  refine Ops.nil ?_
  refine Ends.seq ?_
  refine Wp.seq ?_
  refine Wp.seq ?_
  refine Wp.region ?_
  refine Ops.pv (pv_move rfl) rfl ?_
  refine Ops.pv ((pv_neq rfl rfl).fls (by first | exact fun h => h rfl | decide | omega | assumption)) rfl ?_
  refine Ops.pv (pv_move rfl) rfl ?_
  refine Ops.pvg ⟨_, _, rfl, rfl, rfl⟩ (pv_move rfl) rfl ?_
  refine Ops.pvg ⟨_, _, rfl, rfl, rfl⟩ (pv_eql_nil rfl rfl) rfl ?_
  refine Ops.pv (pv_pick_false rfl rfl) rfl ?_
  refine Ops.pv (pv_move rfl) rfl ?_
  refine Ops.pvg ⟨_, _, rfl, rfl, rfl⟩ (pv_move rfl) rfl ?_
  refine Ops.pvg ⟨_, _, rfl, rfl, rfl⟩ (pv_eql_nil rfl rfl) rfl ?_
  refine Ops.pv (pv_pick_false rfl rfl) rfl ?_
  refine Ops.nil ?_
  refine Ends.seq ?_
  refine Wp.cond_false rfl ?_
  refine Wp.skip ?_
  refine Ends.seq ?_
  refine Wp.seq ?_
  refine Wp.seq ?_
  refine Wp.region ?_
  have hAt : At [((dm : Int), 9)] 0 9 := At.start (one_ok dm hd4 9 (by omega))
  refine Ops.pv (pv_assign rfl) rfl ?_
  refine Ops.nil ?_
  refine Ends.seq ?_
  refine Wp.block ?_
  refine Wp.loopK (σ := Nat × (Nat → Ones) × (Nat → Ones) × Hp × Hp) [(0, _), (1, _), (5, _), (7, _)] (fun s => [(9, .int .i64 s.1)]) (fun s => s.2.2.2.1 ++ (s.2.2.2.2 ++ (G ++ F))) (fun s => s.1 ≤ 60 ∧ RdysW s.2.1 ∧ RdysL s.2.1 (3 * s.1) ∧ RdysW s.2.2.1 ∧ RdysL s.2.2.1 (3 * s.1) ∧ OthL s.2.1 s.2.2.1 dm ∧ SchH [((dm : Int), 9)] 0 9 s.2.1 sb1 s.2.2.2.1 ∧ SchH [((dm : Int), 9)] 0 9 s.2.2.1 sb2 s.2.2.2.2) (fun s => ops.length - s.1) (0, fun _ => [], fun _ => [], HS1, HS2) ⟨Nat.zero_le _, RdysW.nil, fun _ _ => Nat.zero_le _, RdysW.nil, fun _ _ => Nat.zero_le _, OthL.nil, hZ1, hZ2⟩ ⟨rfl, rfl, rfl, rfl, trivial⟩ ⟨rfl, trivial⟩ (by intro w ho; (try dsimp only [List.nil_append, List.cons_append]); exact Drop.own ho) ?_
  rintro ⟨i, La, Lb, H, K⟩ KK ⟨hi, hWa, hla, hWb, hlb, hO, hA, hB⟩ hK
  dsimp only [List.cons_append, List.nil_append] at hK ⊢
  dsimp only at hi hWa hla hWb hlb hO hA hB ⊢
  refine Wp.seq ?_
  refine Wp.seq ?_
  refine Wp.region ?_
  refine Ops.pv (pv_move rfl) rfl ?_
  refine Ops.pv (pv_move rfl) rfl ?_
  refine Ops.pv (pv_len_slice (T := 38) rfl rfl) rfl ?_
  refine Ops.pv (pv_lss rfl rfl) rfl ?_
  refine Ops.pv (pv_move rfl) rfl ?_
  refine Ops.pvc rfl rfl (fun hg => pv_move rfl) rfl ?_
  refine Ops.pvc rfl rfl (fun hg => Pv.setE (t := 51) rfl (cv_pos hg) (pv_lss rfl rfl)) rfl ?_
  refine Ops.pv (pv_pick_and rfl rfl) rfl ?_
  refine Ops.nil ?_
  refine Ends.seq ?_
  first | refine Wp.cond_dect rfl (fun h1 => ?_) (fun h1 => ?_) | refine Wp.cond_t rfl (fun h1 => ?_) (fun h1 => ?_)
  · obtain ⟨x, hq⟩ : ∃ x, ops[i]? = some x := ⟨_, List.getElem?_eq_getElem (by omega)⟩
    obtain ⟨_, bo, oo, co, To, fo, rfl, hm, hro⟩ := ha i x.cells (by rw [List.getElem?_map, hq]; rfl)
    have hbg : Blk G bo (.cells co.toArray To fo) := ⟨hm⟩
    refine Wp.skip ?_
    refine Ends.seq ?_
    refine Wp.seq ?_
    refine Wp.block ?_
    refine Wp.seq ?_
    refine Wp.region ?_
    refine Ops.pv (pv_move rfl) rfl ?_
    refine Ops.pv (pv_move rfl) rfl ?_
    refine Ops.pv (pv_indexAddr rfl rfl rfl (by omega)) rfl ?_
    refine Ops.pv (pv_loadK x.cells rfl rfl rfl hro) rfl ?_
    refine Ops.ef rfl (ef_allocK tyZ42 rfl) ?_
    rintro _ _ ⟨b3, rfl, rfl⟩
    refine Ops.ef rfl (ef_storeK rfl rfl rfl rfl) ?_
    rintro _ _ ⟨rfl, rfl⟩
    refine Ops.nil ?_
    refine Ends.seq ?_
    refine Wp.seq ?_
    refine Wp.region ?_
    first | refine Ops.pv (pv_fieldAddr0 rfl rfl) rfl ?_ | refine Ops.pv (pv_fieldAddr rfl rfl) rfl ?_
    first | refine Ops.pv (pv_load rfl rfl rfl) rfl ?_ | refine Ops.pv (pv_load rfl rfl (by assumption)) rfl ?_
    refine Ops.pv (pv_conv rfl (uI_eq _)) rfl ?_
    refine Ops.pv (pv_rem rfl rfl (by omega) (tmod_nat (b := 32) rfl)) rfl ?_
    refine Ops.pv (pv_conv rfl (w64n rfl (by omega))) rfl ?_
    refine Ops.pv (pv_assign rfl) rfl ?_
    obtain ⟨idn, hidn, hid32⟩ : ∃ k : Nat, uI x.id % 32 = k ∧ k < 32 := ⟨_, rfl, Nat.mod_lt _ (by omega)⟩
    rw [hidn]
    refine Ops.nil ?_
    refine Ends.seq ?_
    refine Wp.seq ?_
    refine Wp.region ?_
    refine Ops.pv (pv_move rfl) rfl ?_
    refine Ops.pv (pv_move rfl) rfl ?_
    refine Ops.pv (pv_add rfl rfl (w64n (k := 32 + idn) (by omega) (by omega))) rfl ?_
    refine Ops.pv (pv_move rfl) rfl ?_
    refine Ops.pv (pv_add rfl rfl (w64n (k := dm + 1) (by omega) (by omega))) rfl ?_
    refine Ops.pv (pv_rem rfl rfl (by omega) (tmod_nat (b := 4) rfl)) rfl ?_
    first | refine Ops.pv (pv_fieldAddr0 rfl rfl) rfl ?_ | refine Ops.pv (pv_fieldAddr rfl rfl) rfl ?_
    first | refine Ops.pv (pv_load rfl rfl rfl) rfl ?_ | refine Ops.pv (pv_load rfl rfl (by assumption)) rfl ?_
    refine Ops.ef rfl (ef_call (tr_sPut sb1 _ [((dm : Int), 9)] 0 9 La hA hAt hWa (hla.mono (by omega)) ((32 + idn : Nat) : Int) (((dm + 1) % 4 : Nat) : Int) x.level) rfl rfl) ?_
    rintro _ _ ⟨_, _, ⟨rfl, hA1⟩, rfl, rfl⟩
    refine Ops.app ?_
    have hW1 := spW hWa ((32 + idn : Nat) : Int) (((dm + 1) % 4 : Nat) : Int) x.level
    have hl1 := spLen hla ((32 + idn : Nat) : Int) (((dm + 1) % 4 : Nat) : Int) x.level
    have hO1 := hO.other (x := ((32 + idn : Nat) : Int)) (k := x.level) (d := (dm + 1) % 4) (by omega) (by omega)
    obtain ⟨La1, hLa1⟩ : ∃ M, spL La ((32 + idn : Nat) : Int) (((dm + 1) % 4 : Nat) : Int) x.level = M := ⟨_, rfl⟩
    rw [hLa1] at hA1 hW1 hl1 hO1
    obtain ⟨e1, hP⟩ := hO1.put hd4 (x := idn) (k := x.level) (by omega)
    obtain ⟨e2, hD⟩ := hO1.drop hd4 (x := idn) (by omega)
    obtain ⟨e3, hY⟩ := hO1.yield hd4 (x := idn) (by omega)
    refine Ops.nil ?_
    refine Ends.seq ?_
    refine Wp.seq ?_
    refine Wp.seq ?_
    refine Wp.region ?_
    first | refine Ops.pv (pv_fieldAddr0 rfl rfl) rfl ?_ | refine Ops.pv (pv_fieldAddr rfl rfl) rfl ?_
    first | refine Ops.pv (pv_load rfl rfl rfl) rfl ?_ | refine Ops.pv (pv_load rfl rfl (by assumption)) rfl ?_
    refine Ops.nil ?_
    refine Ends.seq ?_
    refine Wp.block ?_
    refine Wp.seq ?_
    refine Wp.region ?_
    refine Ops.pv (pv_eql rfl rfl) rfl ?_
    refine Ops.pv (pv_assign rfl) rfl ?_
    refine Ops.nil ?_
    refine Ends.seq ?_
    first | refine Wp.cond_dect rfl (fun h2 => ?_) (fun h2 => ?_) | refine Wp.cond_t rfl (fun h2 => ?_) (fun h2 => ?_)
    · refine Wp.seq ?_
      refine AnyH.start [(b3, .cells x.cells.toArray 42)] 13 rfl ?_
      refine AnyH.take 0 rfl (by kernel_rfl) (by kernel_rfl) (by kernel_rfl) PF.pf rfl (pv_move rfl) rfl ?_
      refine AnyH.take 1 rfl (by kernel_rfl) (by kernel_rfl) (by kernel_rfl) PF.pf rfl (pv_move rfl) rfl ?_
      refine AnyH.take 2 rfl (by kernel_rfl) (by kernel_rfl) (by kernel_rfl) PF.pf rfl (pv_move rfl) rfl ?_
      first | refine AnyH.take 3 rfl (by kernel_rfl) (by kernel_rfl) (by kernel_rfl) PF.pf rfl (pv_fieldAddr0 rfl rfl) rfl ?_ | refine AnyH.take 3 rfl (by kernel_rfl) (by kernel_rfl) (by kernel_rfl) PF.pf rfl (pv_fieldAddr rfl rfl) rfl ?_
      first | refine AnyH.take 4 rfl (by kernel_rfl) (by kernel_rfl) (by kernel_rfl) PF.pf rfl (pv_load rfl rfl rfl) rfl ?_ | refine AnyH.take 4 rfl (by kernel_rfl) (by kernel_rfl) (by kernel_rfl) PF.pf rfl (pv_load rfl rfl (by assumption)) rfl ?_
      refine AnyH.take 6 rfl (by kernel_rfl) (by kernel_rfl) (by kernel_rfl) PF.pf rfl (pv_move rfl) rfl ?_
      refine AnyH.take 7 rfl (by kernel_rfl) (by kernel_rfl) (by kernel_rfl) PF.pf rfl (pv_move rfl) rfl ?_
      refine AnyH.take 8 rfl (by kernel_rfl) (by kernel_rfl) (by kernel_rfl) PF.pf rfl (pv_move rfl) rfl ?_
      first | refine AnyH.take 9 rfl (by kernel_rfl) (by kernel_rfl) (by kernel_rfl) PF.pf rfl (pv_fieldAddr0 rfl rfl) rfl ?_ | refine AnyH.take 9 rfl (by kernel_rfl) (by kernel_rfl) (by kernel_rfl) PF.pf rfl (pv_fieldAddr rfl rfl) rfl ?_
      first | refine AnyH.take 10 rfl (by kernel_rfl) (by kernel_rfl) (by kernel_rfl) PF.pf rfl (pv_load rfl rfl rfl) rfl ?_ | refine AnyH.take 10 rfl (by kernel_rfl) (by kernel_rfl) (by kernel_rfl) PF.pf rfl (pv_load rfl rfl (by assumption)) rfl ?_
      refine AnyH.one 5 (by kernel_rfl) ?_
      refine Turn.ef rfl rfl (ef_call (tr_sPut sb1 _ [((dm : Int), 9)] 0 9 La1 hA1 hAt hW1 (hl1.mono (by omega)) idn dm x.level) rfl rfl) ?_ ?_
      · rintro _ _ ⟨_, _, ⟨rfl, hA2⟩, rfl, rfl⟩; infer_instance
      rintro _ _ ⟨_, _, ⟨rfl, hA2⟩, rfl, rfl⟩
      refine AnyH.app ?_
      rw [e1]
      refine AnyH.one 11 (by kernel_rfl) ?_
      refine Turn.ef rfl rfl (ef_call (tr_sPut sb2 _ [((dm : Int), 9)] 0 9 Lb hB hAt hWb (hlb.mono (by omega)) idn dm x.level) rfl rfl) ?_ ?_
      · rintro _ _ ⟨_, _, ⟨rfl, hB1⟩, rfl, rfl⟩; infer_instance
      rintro _ _ ⟨_, _, ⟨rfl, hB1⟩, rfl, rfl⟩
      refine AnyH.app ?_
      refine AnyH.take 12 rfl (by kernel_rfl) (by kernel_rfl) (by kernel_rfl) PF.pf rfl ((pv_neq rfl rfl).fls (by first | exact fun h => h rfl | decide | omega | assumption)) rfl ?_
      refine AnyH.done (by kernel_rfl) ?_
      refine Ends.seq ?_
      refine Wp.cond_false rfl ?_
      refine Wp.skip ?_
      refine Ends.block_normal ?_
      refine Ends.seq ?_
      refine Wp.seq ?_
      refine Wp.region ?_
      refine Ops.pv (pv_move rfl) rfl ?_
      refine Ops.ef rfl (ef_callr (tr_sPick sb1 _ [((dm : Int), 9)] 0 9 (spL La1 idn dm x.level) hA2 hAt (spW hW1 idn dm x.level) ((spLen hl1 idn dm x.level).mono (by omega)) |>.eq (by rw [show domN [((dm : Int), 9)] 0 = dm from rfl, (hP).same])) rfl rfl) ?_
      rintro _ _ ⟨rfl, rfl⟩
      refine Ops.pv (pv_move rfl) rfl ?_
      refine Ops.pv (pv_extract rfl rfl) rfl ?_
      refine Ops.pv (pv_extract rfl rfl) rfl ?_
      refine Ops.pv (pv_assign rfl) rfl ?_
      refine Ops.pv (pv_assign rfl) rfl ?_
      refine Ops.nil ?_
      refine Ends.seq ?_
      refine Wp.seq ?_
      refine Wp.region ?_
      refine Ops.pv (pv_move rfl) rfl ?_
      refine Ops.ef rfl (ef_callr (tr_sPick sb2 _ [((dm : Int), 9)] 0 9 (spL Lb idn dm x.level) hB1 hAt (spW hWb idn dm x.level) ((spLen hlb idn dm x.level).mono (by omega)) |>.eq (by rw [show domN [((dm : Int), 9)] 0 = dm from rfl])) rfl rfl) ?_
      rintro _ _ ⟨rfl, rfl⟩
      refine Ops.pv (pv_move rfl) rfl ?_
      refine Ops.pv (pv_extract rfl rfl) rfl ?_
      refine Ops.pv (pv_extract rfl rfl) rfl ?_
      refine Ops.pv (pv_assign rfl) rfl ?_
      refine Ops.pv (pv_assign rfl) rfl ?_
      refine Ops.nil ?_
      refine Ends.seq ?_
      refine Wp.seq ?_
      refine Wp.region ?_
      refine Ops.pv (pv_move rfl) rfl ?_
      refine Ops.pv (pv_move rfl) rfl ?_
      refine Ops.pv ((pv_neq rfl rfl).fls (by first | exact fun h => h rfl | decide | omega | assumption)) rfl ?_
      refine Ops.pv (pv_move rfl) rfl ?_
      refine Ops.pvg ⟨_, _, rfl, rfl, rfl⟩ (pv_move rfl) rfl ?_
      refine Ops.pvg ⟨_, _, rfl, rfl, rfl⟩ (pv_move rfl) rfl ?_
      refine Ops.pvg ⟨_, _, rfl, rfl, rfl⟩ ((pv_neq_bool rfl rfl).is (u := .bool false) (by first | rfl | (simp; done) | simp_all)) rfl ?_
      refine Ops.pv (pv_pick_false rfl rfl) rfl ?_
      refine Ops.nil ?_
      refine Ends.seq ?_
      refine Wp.cond_false rfl ?_
      refine Wp.skip ?_
      refine Ends.block_normal ?_
      refine Ends.seq ?_
      refine Wp.region ?_
      refine Ops.pv (pv_move rfl) rfl ?_
      first | refine Ops.pv (pv_add rfl rfl (w64 (by omega) (by omega))) rfl ?_ | refine Ops.pv (pv_add rfl rfl rfl) rfl ?_
      refine Ops.pv (pv_assign rfl) rfl ?_
      refine Ops.nil ?_
      refine Ends.goes ?_
      refine Goes.back (hK (i + 1, (spL La1 idn dm x.level), (spL Lb idn dm x.level), _, _) ⟨by dsimp only; omega, (spW hW1 idn dm x.level), (spLen hl1 idn dm x.level).mono (by dsimp only; omega), (spW hWb idn dm x.level), (spLen hlb idn dm x.level).mono (by dsimp only; omega), hP, hA2, hB1⟩ (by dsimp only; omega)) ⟨rfl, rfl, rfl, rfl, rfl, trivial⟩
    · refine Wp.seq ?_
      refine Wp.region ?_
      refine Ops.pv (pv_eql rfl rfl) rfl ?_
      refine Ops.pv (pv_assign rfl) rfl ?_
      refine Ops.nil ?_
      refine Ends.seq ?_
      first | refine Wp.cond_dect rfl (fun h3 => ?_) (fun h3 => ?_) | refine Wp.cond_t rfl (fun h3 => ?_) (fun h3 => ?_)
      · refine Wp.seq ?_
        refine Wp.seq ?_
        refine Wp.region ?_
        refine Ops.pv (pv_move rfl) rfl ?_
        refine Ops.pv (pv_move rfl) rfl ?_
        refine Ops.ef rfl (ef_call (tr_sDrop sb1 _ [((dm : Int), 9)] 0 9 La1 hA1 hAt hW1 (hl1.mono (by omega)) idn) rfl rfl) ?_
        rintro _ _ ⟨_, _, ⟨rfl, hA3⟩, rfl, rfl⟩
        refine Ops.app ?_
        rw [e2]
        refine Ops.pv (pv_move rfl) rfl ?_
        refine Ops.pv (pv_move rfl) rfl ?_
        refine Ops.ef rfl (ef_call (tr_sDrop sb2 _ [((dm : Int), 9)] 0 9 Lb hB hAt hWb (hlb.mono (by omega)) idn) rfl rfl) ?_
        rintro _ _ ⟨_, _, ⟨rfl, hB2⟩, rfl, rfl⟩
        refine Ops.app ?_
        refine Ops.pv ((pv_neq_bool rfl rfl).is (u := .bool false) (by first | rfl | (simp; done) | simp_all)) rfl ?_
        refine Ops.nil ?_
        refine Ends.seq ?_
        refine Wp.cond_false rfl ?_
        refine Wp.skip ?_
        refine Ends.seq ?_
        refine Wp.region ?_
        refine Ops.pv (pv_move rfl) rfl ?_
        refine Ops.pv (pv_move rfl) rfl ?_
        refine Ops.pv (pv_add rfl rfl (w64n (k := 32 + idn) (by omega) (by omega))) rfl ?_
        refine Ops.ef rfl (ef_call (tr_sDrop sb1 _ [((dm : Int), 9)] 0 9 (sdL La1 idn) hA3 hAt (sdW hW1 idn) ((sdLen hl1 idn).mono (by omega)) ((32 + idn : Nat) : Int)) rfl rfl) ?_
        rintro _ _ ⟨_, _, ⟨rfl, hA4⟩, rfl, rfl⟩
        refine Ops.app ?_
        refine Ops.nil ?_
        refine Ends.block_normal ?_
        refine Ends.seq ?_
        refine Wp.seq ?_
        refine Wp.region ?_
        refine Ops.pv (pv_move rfl) rfl ?_
        refine Ops.ef rfl (ef_callr (tr_sPick sb1 _ [((dm : Int), 9)] 0 9 (sdL (sdL La1 idn) ((32 + idn : Nat) : Int)) hA4 hAt (sdW (sdW hW1 idn) ((32 + idn : Nat) : Int)) ((sdLen (sdLen hl1 idn) ((32 + idn : Nat) : Int)).mono (by omega)) |>.eq (by rw [show domN [((dm : Int), 9)] 0 = dm from rfl, ((hD.away (x := ((32 + idn : Nat) : Int)) (by omega))).same])) rfl rfl) ?_
        rintro _ _ ⟨rfl, rfl⟩
        refine Ops.pv (pv_move rfl) rfl ?_
        refine Ops.pv (pv_extract rfl rfl) rfl ?_
        refine Ops.pv (pv_extract rfl rfl) rfl ?_
        refine Ops.pv (pv_assign rfl) rfl ?_
        refine Ops.pv (pv_assign rfl) rfl ?_
        refine Ops.nil ?_
        refine Ends.seq ?_
        refine Wp.seq ?_
        refine Wp.region ?_
        refine Ops.pv (pv_move rfl) rfl ?_
        refine Ops.ef rfl (ef_callr (tr_sPick sb2 _ [((dm : Int), 9)] 0 9 (sdL Lb idn) hB2 hAt (sdW hWb idn) ((sdLen hlb idn).mono (by omega)) |>.eq (by rw [show domN [((dm : Int), 9)] 0 = dm from rfl])) rfl rfl) ?_
        rintro _ _ ⟨rfl, rfl⟩
        refine Ops.pv (pv_move rfl) rfl ?_
        refine Ops.pv (pv_extract rfl rfl) rfl ?_
        refine Ops.pv (pv_extract rfl rfl) rfl ?_
        refine Ops.pv (pv_assign rfl) rfl ?_
        refine Ops.pv (pv_assign rfl) rfl ?_
        refine Ops.nil ?_
        refine Ends.seq ?_
        refine Wp.seq ?_
        refine Wp.region ?_
        refine Ops.pv (pv_move rfl) rfl ?_
        refine Ops.pv (pv_move rfl) rfl ?_
        refine Ops.pv ((pv_neq rfl rfl).fls (by first | exact fun h => h rfl | decide | omega | assumption)) rfl ?_
        refine Ops.pv (pv_move rfl) rfl ?_
        refine Ops.pvg ⟨_, _, rfl, rfl, rfl⟩ (pv_move rfl) rfl ?_
        refine Ops.pvg ⟨_, _, rfl, rfl, rfl⟩ (pv_move rfl) rfl ?_
        refine Ops.pvg ⟨_, _, rfl, rfl, rfl⟩ ((pv_neq_bool rfl rfl).is (u := .bool false) (by first | rfl | (simp; done) | simp_all)) rfl ?_
        refine Ops.pv (pv_pick_false rfl rfl) rfl ?_
        refine Ops.nil ?_
        refine Ends.seq ?_
        refine Wp.cond_false rfl ?_
        refine Wp.skip ?_
        refine Ends.block_normal ?_
        refine Ends.seq ?_
        refine Wp.region ?_
        refine Ops.pv (pv_move rfl) rfl ?_
        first | refine Ops.pv (pv_add rfl rfl (w64 (by omega) (by omega))) rfl ?_ | refine Ops.pv (pv_add rfl rfl rfl) rfl ?_
        refine Ops.pv (pv_assign rfl) rfl ?_
        refine Ops.nil ?_
        refine Ends.goes ?_
        refine Goes.back (hK (i + 1, (sdL (sdL La1 idn) ((32 + idn : Nat) : Int)), (sdL Lb idn), _, _) ⟨by dsimp only; omega, (sdW (sdW hW1 idn) ((32 + idn : Nat) : Int)), (sdLen (sdLen hl1 idn) ((32 + idn : Nat) : Int)).mono (by dsimp only; omega), (sdW hWb idn), (sdLen hlb idn).mono (by dsimp only; omega), (hD.away (x := ((32 + idn : Nat) : Int)) (by omega)), hA4, hB2⟩ (by dsimp only; omega)) ⟨rfl, rfl, rfl, rfl, rfl, trivial⟩
      · refine Wp.seq ?_
        refine Wp.region ?_
        refine Ops.pv (pv_eql rfl rfl) rfl ?_
        refine Ops.pv (pv_assign rfl) rfl ?_
        refine Ops.nil ?_
        refine Ends.seq ?_
        first | refine Wp.cond_dect rfl (fun h4 => ?_) (fun h4 => ?_) | refine Wp.cond_t rfl (fun h4 => ?_) (fun h4 => ?_)
        · refine Wp.seq ?_
          refine Wp.region ?_
          refine Ops.pv (pv_move rfl) rfl ?_
          refine Ops.pv (pv_move rfl) rfl ?_
          refine Ops.ef rfl (ef_call (tr_sYield sb1 _ [((dm : Int), 9)] 0 9 La1 hA1 hAt hW1 (hl1.mono (by omega)) idn) rfl rfl) ?_
          rintro _ _ ⟨_, _, ⟨rfl, hA5⟩, rfl, rfl⟩
          refine Ops.app ?_
          rw [e3]
          refine Ops.pv (pv_move rfl) rfl ?_
          refine Ops.pv (pv_move rfl) rfl ?_
          refine Ops.ef rfl (ef_call (tr_sYield sb2 _ [((dm : Int), 9)] 0 9 Lb hB hAt hWb (hlb.mono (by omega)) idn) rfl rfl) ?_
          rintro _ _ ⟨_, _, ⟨rfl, hB3⟩, rfl, rfl⟩
          refine Ops.app ?_
          refine Ops.pv ((pv_neq_bool rfl rfl).is (u := .bool false) (by first | rfl | (simp; done) | simp_all)) rfl ?_
          refine Ops.nil ?_
          refine Ends.seq ?_
          refine Wp.cond_false rfl ?_
          refine Wp.skip ?_
          refine Ends.block_normal ?_
          refine Ends.seq ?_
          refine Wp.seq ?_
          refine Wp.region ?_
          refine Ops.pv (pv_move rfl) rfl ?_
          refine Ops.ef rfl (ef_callr (tr_sPick sb1 _ [((dm : Int), 9)] 0 9 (syL La1 idn) hA5 hAt (syW hW1 idn) ((syLen hl1 idn).mono (by omega)) |>.eq (by rw [show domN [((dm : Int), 9)] 0 = dm from rfl, (hY).same])) rfl rfl) ?_
          rintro _ _ ⟨rfl, rfl⟩
          refine Ops.pv (pv_move rfl) rfl ?_
          refine Ops.pv (pv_extract rfl rfl) rfl ?_
          refine Ops.pv (pv_extract rfl rfl) rfl ?_
          refine Ops.pv (pv_assign rfl) rfl ?_
          refine Ops.pv (pv_assign rfl) rfl ?_
          refine Ops.nil ?_
          refine Ends.seq ?_
          refine Wp.seq ?_
          refine Wp.region ?_
          refine Ops.pv (pv_move rfl) rfl ?_
          refine Ops.ef rfl (ef_callr (tr_sPick sb2 _ [((dm : Int), 9)] 0 9 (syL Lb idn) hB3 hAt (syW hWb idn) ((syLen hlb idn).mono (by omega)) |>.eq (by rw [show domN [((dm : Int), 9)] 0 = dm from rfl])) rfl rfl) ?_
          rintro _ _ ⟨rfl, rfl⟩
          refine Ops.pv (pv_move rfl) rfl ?_
          refine Ops.pv (pv_extract rfl rfl) rfl ?_
          refine Ops.pv (pv_extract rfl rfl) rfl ?_
          refine Ops.pv (pv_assign rfl) rfl ?_
          refine Ops.pv (pv_assign rfl) rfl ?_
          refine Ops.nil ?_
          refine Ends.seq ?_
          refine Wp.seq ?_
          refine Wp.region ?_
          refine Ops.pv (pv_move rfl) rfl ?_
          refine Ops.pv (pv_move rfl) rfl ?_
          refine Ops.pv ((pv_neq rfl rfl).fls (by first | exact fun h => h rfl | decide | omega | assumption)) rfl ?_
          refine Ops.pv (pv_move rfl) rfl ?_
          refine Ops.pvg ⟨_, _, rfl, rfl, rfl⟩ (pv_move rfl) rfl ?_
          refine Ops.pvg ⟨_, _, rfl, rfl, rfl⟩ (pv_move rfl) rfl ?_
          refine Ops.pvg ⟨_, _, rfl, rfl, rfl⟩ ((pv_neq_bool rfl rfl).is (u := .bool false) (by first | rfl | (simp; done) | simp_all)) rfl ?_
          refine Ops.pv (pv_pick_false rfl rfl) rfl ?_
          refine Ops.nil ?_
          refine Ends.seq ?_
          refine Wp.cond_false rfl ?_
          refine Wp.skip ?_
          refine Ends.block_normal ?_
          refine Ends.seq ?_
          refine Wp.region ?_
          refine Ops.pv (pv_move rfl) rfl ?_
          first | refine Ops.pv (pv_add rfl rfl (w64 (by omega) (by omega))) rfl ?_ | refine Ops.pv (pv_add rfl rfl rfl) rfl ?_
          refine Ops.pv (pv_assign rfl) rfl ?_
          refine Ops.nil ?_
          refine Ends.goes ?_
          refine Goes.back (hK (i + 1, (syL La1 idn), (syL Lb idn), _, _) ⟨by dsimp only; omega, (syW hW1 idn), (syLen hl1 idn).mono (by dsimp only; omega), (syW hWb idn), (syLen hlb idn).mono (by dsimp only; omega), hY, hA5, hB3⟩ (by dsimp only; omega)) ⟨rfl, rfl, rfl, rfl, rfl, trivial⟩
        · refine Wp.skip ?_
          refine Ends.block_normal ?_
          refine Ends.seq ?_
          refine Wp.seq ?_
          refine Wp.region ?_
          refine Ops.pv (pv_move rfl) rfl ?_
          refine Ops.ef rfl (ef_callr (tr_sPick sb1 _ [((dm : Int), 9)] 0 9 La1 hA1 hAt hW1 (hl1.mono (by omega)) |>.eq (by rw [show domN [((dm : Int), 9)] 0 = dm from rfl, (hO1).same])) rfl rfl) ?_
          rintro _ _ ⟨rfl, rfl⟩
          refine Ops.pv (pv_move rfl) rfl ?_
          refine Ops.pv (pv_extract rfl rfl) rfl ?_
          refine Ops.pv (pv_extract rfl rfl) rfl ?_
          refine Ops.pv (pv_assign rfl) rfl ?_
          refine Ops.pv (pv_assign rfl) rfl ?_
          refine Ops.nil ?_
          refine Ends.seq ?_
          refine Wp.seq ?_
          refine Wp.region ?_
          refine Ops.pv (pv_move rfl) rfl ?_
          refine Ops.ef rfl (ef_callr (tr_sPick sb2 _ [((dm : Int), 9)] 0 9 Lb hB hAt hWb (hlb.mono (by omega)) |>.eq (by rw [show domN [((dm : Int), 9)] 0 = dm from rfl])) rfl rfl) ?_
          rintro _ _ ⟨rfl, rfl⟩
          refine Ops.pv (pv_move rfl) rfl ?_
          refine Ops.pv (pv_extract rfl rfl) rfl ?_
          refine Ops.pv (pv_extract rfl rfl) rfl ?_
          refine Ops.pv (pv_assign rfl) rfl ?_
          refine Ops.pv (pv_assign rfl) rfl ?_
          refine Ops.nil ?_
          refine Ends.seq ?_
          refine Wp.seq ?_
          refine Wp.region ?_
          refine Ops.pv (pv_move rfl) rfl ?_
          refine Ops.pv (pv_move rfl) rfl ?_
          refine Ops.pv ((pv_neq rfl rfl).fls (by first | exact fun h => h rfl | decide | omega | assumption)) rfl ?_
          refine Ops.pv (pv_move rfl) rfl ?_
          refine Ops.pvg ⟨_, _, rfl, rfl, rfl⟩ (pv_move rfl) rfl ?_
          refine Ops.pvg ⟨_, _, rfl, rfl, rfl⟩ (pv_move rfl) rfl ?_
          refine Ops.pvg ⟨_, _, rfl, rfl, rfl⟩ ((pv_neq_bool rfl rfl).is (u := .bool false) (by first | rfl | (simp; done) | simp_all)) rfl ?_
          refine Ops.pv (pv_pick_false rfl rfl) rfl ?_
          refine Ops.nil ?_
          refine Ends.seq ?_
          refine Wp.cond_false rfl ?_
          refine Wp.skip ?_
          refine Ends.block_normal ?_
          refine Ends.seq ?_
          refine Wp.region ?_
          refine Ops.pv (pv_move rfl) rfl ?_
          first | refine Ops.pv (pv_add rfl rfl (w64 (by omega) (by omega))) rfl ?_ | refine Ops.pv (pv_add rfl rfl rfl) rfl ?_
          refine Ops.pv (pv_assign rfl) rfl ?_
          refine Ops.nil ?_
          refine Ends.goes ?_
          refine Goes.back (hK (i + 1, La1, Lb, _, _) ⟨by dsimp only; omega, hW1, hl1.mono (by dsimp only; omega), hWb, hlb.mono (by dsimp only; omega), hO1, hA1, hB⟩ (by dsimp only; omega)) ⟨rfl, rfl, rfl, rfl, rfl, trivial⟩
  · refine Wp.exit ?_
    refine Ends.then_exit ?_
    refine Ends.then_exit ?_
    refine Ends.block_hit ?_
    refine Ends.seq ?_
    refine Wp.seq ?_
    refine Wp.region ?_
    refine Ops.pv (pv_assign rfl) rfl ?_
    refine Ops.nil ?_
    refine Ends.seq ?_
    refine Wp.ret ?_
    exact Ends.ret (res1 rfl rfl) ⟨rfl, rfl⟩

end Go.Proofs.Ytpjodkcghiklcab
