/- BootBytes. Laid together by pack.py out of the texts in wip. -/
import Derived.Test.YtkldjadpoknejaaPBootBytes4
set_option linter.unusedVariables false
set_option linter.unusedSimpArgs false
set_option linter.unusedSectionVars false
section
set_option linter.unusedVariables false
set_option linter.unusedSimpArgs false
set_option linter.unusedSectionVars false
namespace Go.Proofs.Ytkldjadpoknejaa
open Go.SL
theorem tr_rtwoS (rb : Nat) (st : St) (hl : st.2.length ≤ 2 ^ 40) : Tr Try.prog 19 [.pointer (some ⟨rb, 0, none⟩)] [rdB rb st] (fun u L' => u = .int .i64 (lwV 2 st : Nat) ∧ L' = [rdB rb (lwS 2 st)]) := tr_rtwo rb st.1 st.2 hl
theorem tr_rwordS (rb w : Nat) (st : St) (h1 : 1 ≤ w) (h8 : w ≤ 8) (hl : st.2.length ≤ 2 ^ 40) : Tr Try.prog 20 [.pointer (some ⟨rb, 0, none⟩), .int .i64 w] [rdB rb st] (fun u L' => u = .int .u64 (lwV w st : Nat) ∧ L' = [rdB rb (lwS w st)]) := tr_rword rb w st.1 st.2 h1 h8 hl
theorem DecR.bad {s : List UInt8} (h : ¬ (s.take 2 = [67, 68] ∧ (lnD (false, s.drop 2)).2 = (false, []) ∧ okD (lnD (false, s.drop 2)).1)) : DecR s noD 10 := .inr ⟨h, rfl, rfl⟩
theorem flg_cell {n : Nat} : Fld.flg.cell (if n = 1 then 1 else 0) = .bool (decide ((n : Int) = 1)) := by
 by_cases h : n = 1
 ·
  subst h; rfl
 rw [if_neg h]
 have : ¬ ((n : Int) = 1) := by omega
 simp [Fld.cell, this]
theorem noD_DSR : DSR noD (.slice none 0 0) (.slice none 0 0) (.slice none 0 0) (.slice none 0 0) (.slice none 0 0) (.slice none 0 0) (.slice none 0 0) [] [] [] [] [] [] [] := ⟨Slc.nil _ _, Slc.nil _ _, Slc.nil _ _, Slc.nil _ _, Slc.nil _ _, Slc.nil _ _, Slc.nil _ _⟩
theorem lwV2i (st : St) : lwV 2 st ≤ 65535 := by have := lwV_lt 2 st; omega
set_option maxHeartbeats 32000000 in
theorem tr_rdecode (sx : List UInt8) (hs : sx.length ≤ 2 ^ 30) : Tr Try.prog 9 [sV sx] ([]) (fun u L' => ∃ (D : Dd) (e : Int) (v1 v2 v3 v4 v5 v6 v7 : Value) (H1 H2 H3 H4 H5 H6 H7 : Hp), DecR sx D e ∧ DSR D v1 v2 v3 v4 v5 v6 v7 H1 H2 H3 H4 H5 H6 H7 ∧ u = .tuple #[.agg #[v1, v2, v3, v4, v5, v6, v7], .int .i64 e] ∧ L' = H1 ++ (H2 ++ (H3 ++ (H4 ++ (H5 ++ (H6 ++ H7)))))) := by
 refine Tr.enter Try.func9 rfl Try.ntmps9 rfl (fun W F => ?_)
 refine Wp.app ?_
 refine Wr ?_
 refine Ops.ef rfl (ef_allocK tyZ30 rfl) ?_
 rintro _ _ ⟨b1, rfl, rfl⟩
 refine Oa1 rfl rfl ?_
 refine On ?_
 refine Wp.seq ?_
 refine Wr ?_
 refine Om1 rfl rfl ?_
 refine Ops.pv (pv_str_len (T := 9) rfl rfl) rfl ?_
 refine Ops.pv (pv_lss rfl rfl) rfl ?_
 refine Om1 rfl rfl ?_
 refine Ops.pvcn rfl rfl (fun hg => pv_move rfl) rfl ?_
 refine Ops.pvcn rfl rfl (fun hg => Pv.setE (t := 20) rfl (cv_pos hg) (pv_str_upto (i := 2) rfl rfl (by omega))) rfl ?_
 refine Ops.pvcn rfl rfl (fun hg => Pv.setE (t := 20) rfl (cv_pos hg) (Pv.setE (t := 21) rfl (cv_pos hg) (pv_str_neq rfl rfl))) rfl ?_
 refine Ops.pv (pv_pick_or rfl rfl) rfl ?_
 refine On ?_
 refine Wp.cond_dect rfl (fun h1 => ?_) (fun h1 => ?_)
 ·
  have hnp : ¬ sx.take 2 = [67, 68] := by
   intro h
   have hl2 : (sx.take 2).length = 2 := by rw [h]; rfl
   rw [List.length_take] at hl2
   rcases (by assumption : (sx.length : Int) < 2 ∨ sx.take 2 ≠ [67, 68]) with h3 | h3
   ·
    omega
   ·
    exact h3 h
  refine Wr ?_
  refine Ops.pv (pv_build rfl) rfl ?_
  refine Ops.ef rfl (ef_storeK rfl rfl rfl rfl) ?_
  rintro _ _ ⟨rfl, rfl⟩
  refine Oa1 rfl rfl ?_
  refine On ?_
  refine Wp.ret ?_
  refine Ends.then_ret ?_
  exact Ends.ret (L' := []) (res_list (rs := [.cell 2 30, .tmp 3]) rfl ⟨_, _, rfl, rv_cellK [_, _, _, _, _, _, _] rfl rfl rfl ⟨rfl, rfl, rfl, rfl, rfl, rfl, rfl, trivial⟩, ⟨_, _, rfl, rv_tmp rfl, rfl⟩⟩ rfl) ⟨noD, 10, _, _, _, _, _, _, _, _, _, _, _, _, _, _, DecR.bad (fun h => hnp h.1), noD_DSR, rfl, rfl⟩
 have hnn : ¬ ((sx.length : Int) < 2 ∨ sx.take 2 ≠ [67, 68]) := by assumption
 have hp : sx.take 2 = [67, 68] := by apply Classical.byContradiction; intro h; exact hnn (.inr h)
 have hl2 : 2 ≤ sx.length := by omega
 have hs0 : (sx.drop 2).length ≤ 2 ^ 40 := by rw [List.length_drop]; omega
 refine Wp.skip ?_
 refine Ends.seq ?_
 refine Wr ?_
 refine Om1 rfl rfl ?_
 refine Ops.pv (pv_str_from (i := 2) rfl rfl (by omega)) rfl ?_
 refine Ops.pv (pv_build rfl) rfl ?_
 refine Ops.ef rfl (ef_boxK rfl rfl) ?_
 rintro _ _ ⟨b2, rfl, rfl⟩
 refine Oa1 rfl rfl ?_
 refine On ?_
 refine Wr ?_
 refine Ops.pv (pv_build rfl) rfl ?_
 refine Ops.ef rfl (ef_allocK tyZ30 rfl) ?_
 rintro _ _ ⟨b3, rfl, rfl⟩
 refine Ops.ef rfl (ef_storeK rfl rfl rfl rfl) ?_
 rintro _ _ ⟨rfl, rfl⟩
 refine On ?_
 refine Wp.seq ?_
 refine Wr ?_
 refine Om1 rfl rfl ?_
 refine Ops.ef rfl (ef_call (tr_rtwoS b2 (false, sx.drop 2) hs0) rfl rfl) ?_
 rintro _ _ ⟨_, _, ⟨rfl, rfl⟩, rfl, rfl⟩
 refine Ops.app ?_
 refine Oa1 rfl rfl ?_
 refine On ?_
 refine Wp.block ?_
 refine Wp.loopK (σ := Nat × St × List (El fsO) × Value × Hp) [(2, _), (4, _), (5, _)] (fun s => [(6, .int .i64 s.1)]) (fun s => rdB b2 s.2.1 :: ((b3, .cells [s.2.2.2.1, .slice none 0 0, .slice none 0 0, .slice none 0 0, .slice none 0 0, .slice none 0 0, .slice none 0 0].toArray 30) :: ((b1, .cells [.slice none 0 0, .slice none 0 0, .slice none 0 0, .slice none 0 0, .slice none 0 0, .slice none 0 0, .slice none 0 0].toArray 30) :: (s.2.2.2.2 ++ F)))) (fun s => s.2.2.1.length + s.1 ≤ 65535 ∧ s.2.1.2.length ≤ 2 ^ 40 ∧ lnI fsO s.1 s.2.1 s.2.2.1 = lnL fsO (false, sx.drop 2) ∧ Slc 53 3 s.2.2.2.1 s.2.2.1.length (cel (cE fsO) s.2.2.1) s.2.2.2.2) (fun s => s.1) (lwV 2 (false, sx.drop 2), lwS 2 (false, sx.drop 2), [], .slice none 0 0, []) ⟨by have := lwV2i (false, sx.drop 2); dsimp only [List.length_nil]; omega, lwS_le hs0, rfl, Slc.nil _ _⟩ ⟨rfl, rfl, rfl, trivial⟩ ⟨rfl, trivial⟩ (by intro w ho; (try dsimp only [List.nil_append, List.cons_append]); exact Drop.own ho) ?_
 rintro ⟨i, u1, k1, vv, G1⟩ KK ⟨hc1, hu1, hln, hsv⟩ hK
 dsimp only [List.cons_append, List.nil_append] at hK ⊢
 dsimp only at hc1 hu1 hln hsv ⊢
 refine Wp.seq ?_
 refine Wr ?_
 refine Om1 rfl rfl ?_
 refine Ops.pv (pv_gtr rfl rfl) rfl ?_
 refine Om1 rfl rfl ?_
 refine Ops.pvc rfl rfl (fun hg => pv_move rfl) rfl ?_
 refine Ops.pvc rfl rfl (fun hg => Pv.setE (t := 35) rfl (cv_pos hg) (pv_nilCheck rfl)) rfl ?_
 refine Ops.pvc rfl rfl (fun hg => Pv.setE (t := 35) rfl (cv_pos hg) (Pv.setE (t := 36) rfl (cv_pos hg) (pv_fieldAddr0 rfl rfl))) rfl ?_
 refine Ops.pvc rfl rfl (fun hg => Pv.setE (t := 35) rfl (cv_pos hg) (Pv.setE (t := 36) rfl (cv_pos hg) (Pv.setE (t := 37) rfl (cv_pos hg) (pv_load (v := .bool (decide (u1.1 = true))) rfl rfl (nth_dec rfl))))) rfl ?_
 refine Ops.pvc rfl rfl (fun hg => Pv.setE (t := 35) rfl (cv_pos hg) (Pv.setE (t := 36) rfl (cv_pos hg) (Pv.setE (t := 37) rfl (cv_pos hg) (Pv.setE (t := 38) rfl (cv_pos hg) (pv_not_dec rfl))))) rfl ?_
 refine Ops.pv (pv_pick_and rfl rfl) rfl ?_
 refine On ?_
 refine Wp.cond_dect rfl (fun h2 => ?_) (fun h2 => ?_)
 ·
  obtain ⟨hi0, hnb⟩ : (i : Int) > 0 ∧ ¬ u1.1 = true := by assumption
  obtain ⟨i, rfl⟩ : ∃ q, i = q + 1 := ⟨i - 1, by omega⟩
  refine Wp.skip ?_
  refine Ends.seq ?_
  refine Wp.seq ?_
  refine Wp.block ?_
  refine AnyH.start ([] : Hp) 13 rfl ?_
  refine Tk 0 rfl rfl (pv_fieldAddr0 rfl rfl) rfl ?_
  refine Tk 2 rfl rfl (pv_move rfl) rfl ?_
  refine Tk 4 rfl rfl (pv_move rfl) rfl ?_
  refine Tk 6 rfl rfl (pv_move rfl) rfl ?_
  refine AnyH.two 1 3 (by kernel_rfl) ?_ ?_
  ·
   refine Turn.ef rfl rfl (ef_pv (pv_load rfl rfl rfl) rfl) ?_ ?_
   ·
    rintro _ _ ⟨rfl, rfl⟩; infer_instance
   rintro _ _ ⟨rfl, rfl⟩
   refine AnyH.one 3 (by kernel_rfl) ?_
   refine Turn.ef rfl rfl (ef_call (tr_rtwoS b2 u1 hu1) rfl rfl) ?_ ?_
   ·
    rintro _ _ ⟨_, _, ⟨rfl, rfl⟩, rfl, rfl⟩; infer_instance
   rintro _ _ ⟨_, _, ⟨rfl, rfl⟩, rfl, rfl⟩
   refine AnyH.app ?_
   refine AnyH.one 5 (by kernel_rfl) ?_
   refine Turn.ef rfl rfl (ef_call (tr_rtwoS b2 (lwS 2 u1) (lwS_le hu1)) rfl rfl) ?_ ?_
   ·
    rintro _ _ ⟨_, _, ⟨rfl, rfl⟩, rfl, rfl⟩; infer_instance
   rintro _ _ ⟨_, _, ⟨rfl, rfl⟩, rfl, rfl⟩
   refine AnyH.app ?_
   refine AnyH.one 7 (by kernel_rfl) ?_
   refine Turn.ef rfl rfl (ef_call (tr_rtwoS b2 (lwS 2 (lwS 2 u1)) (lwS_le (lwS_le hu1))) rfl rfl) ?_ ?_
   ·
    rintro _ _ ⟨_, _, ⟨rfl, rfl⟩, rfl, rfl⟩; infer_instance
   rintro _ _ ⟨_, _, ⟨rfl, rfl⟩, rfl, rfl⟩
   refine AnyH.app ?_
   refine Tk 8 rfl rfl (pv_build rfl) rfl ?_
   refine AnyH.one 9 (by kernel_rfl) ?_
   refine Turn.ef rfl rfl (ef_buildSlice1 (k := 3) rfl rfl rfl rfl rfl) ?_ ?_
   ·
    rintro _ _ ⟨b4, rfl, rfl⟩; infer_instance
   rintro _ _ ⟨b4, rfl, rfl⟩
   refine AnyH.one 10 (by kernel_rfl) ?_
   refine Turn.ef rfl rfl (ef_append (H := G1) (xs := [.int .i64 ((lwV 2 u1 : Nat) : Int), .int .i64 ((lwV 2 (lwS 2 u1) : Nat) : Int), .int .i64 ((lwV 2 (lwS 2 (lwS 2 u1)) : Nat) : Int)]) rfl hsv rfl ⟨rfl, rfl, rfl, trivial⟩ rfl rfl rfl (by omega) (by omega) rfl rfl) ?_ ?_
   ·
    rintro _ _ ⟨vn1, Hn, hn1, rfl, rfl⟩; infer_instance
   rintro _ _ ⟨vn1, Hn, hn1, rfl, rfl⟩
   refine AnyH.app ?_
   have hsn : Slc 53 3 vn1 (k1.length + 1) (cel (cE fsO) (k1 ++ [lnEl fsO u1])) Hn := by rw [cel_app, cel_one1]; exact hn1
   obtain ⟨x9, y9, rfl⟩ := hsn.form
   refine Tk 11 rfl rfl (pv_fieldAddr0 rfl rfl) rfl ?_
   refine AnyH.one 12 (by kernel_rfl) ?_
   refine Turn.ef rfl rfl (ef_store1 rfl rfl (by first | rfl | assumption) (by first | rfl | assumption)) ?_ ?_
   ·
    rintro _ _ ⟨rfl, rfl⟩; infer_instance
   rintro _ _ ⟨rfl, rfl⟩
   refine AnyH.done (by kernel_rfl) ?_
   refine Ends.block_normal ?_
   refine Ends.seq ?_
   refine Wp.region ?_
   refine Om1 rfl rfl ?_
   refine Ops.pv (pv_sub rfl rfl (w64n (k := i) (by omega) (by omega))) rfl ?_
   refine Oa1 rfl rfl ?_
   refine Ops.nil ?_
   refine Ends.goes ?_
   refine Goes.back (hK (i, (lwS 2 (lwS 2 (lwS 2 u1))), k1 ++ [lnEl fsO u1], .slice x9 (k1.length + 1) y9, Hn) ⟨by dsimp only; rw [List.length_append, List.length_singleton]; omega, (lwS_le (lwS_le (lwS_le hu1))), (lnI_step hnb).symm.trans hln, by rw [List.length_append]; exact hsn⟩ (by dsimp only; omega)) ⟨rfl, rfl, rfl, rfl, trivial⟩
  refine Turn.ef rfl rfl (ef_call (tr_rtwoS b2 u1 hu1) rfl rfl) ?_ ?_
  ·
   rintro _ _ ⟨_, _, ⟨rfl, rfl⟩, rfl, rfl⟩; infer_instance
  rintro _ _ ⟨_, _, ⟨rfl, rfl⟩, rfl, rfl⟩
  refine AnyH.app ?_
  refine AnyH.two 1 5 (by kernel_rfl) ?_ ?_
  ·
   refine Turn.ef rfl rfl (ef_pv (pv_load rfl rfl rfl) rfl) ?_ ?_
   ·
    rintro _ _ ⟨rfl, rfl⟩; infer_instance
   rintro _ _ ⟨rfl, rfl⟩
   refine AnyH.one 5 (by kernel_rfl) ?_
   refine Turn.ef rfl rfl (ef_call (tr_rtwoS b2 (lwS 2 u1) (lwS_le hu1)) rfl rfl) ?_ ?_
   ·
    rintro _ _ ⟨_, _, ⟨rfl, rfl⟩, rfl, rfl⟩; infer_instance
   rintro _ _ ⟨_, _, ⟨rfl, rfl⟩, rfl, rfl⟩
   refine AnyH.app ?_
   refine AnyH.one 7 (by kernel_rfl) ?_
   refine Turn.ef rfl rfl (ef_call (tr_rtwoS b2 (lwS 2 (lwS 2 u1)) (lwS_le (lwS_le hu1))) rfl rfl) ?_ ?_
   ·
    rintro _ _ ⟨_, _, ⟨rfl, rfl⟩, rfl, rfl⟩; infer_instance
   rintro _ _ ⟨_, _, ⟨rfl, rfl⟩, rfl, rfl⟩
   refine AnyH.app ?_
   refine Tk 8 rfl rfl (pv_build rfl) rfl ?_
   refine AnyH.one 9 (by kernel_rfl) ?_
   refine Turn.ef rfl rfl (ef_buildSlice1 (k := 3) rfl rfl rfl rfl rfl) ?_ ?_
   ·
    rintro _ _ ⟨b5, rfl, rfl⟩; infer_instance
   rintro _ _ ⟨b5, rfl, rfl⟩
   refine AnyH.one 10 (by kernel_rfl) ?_
   refine Turn.ef rfl rfl (ef_append (H := G1) (xs := [.int .i64 ((lwV 2 u1 : Nat) : Int), .int .i64 ((lwV 2 (lwS 2 u1) : Nat) : Int), .int .i64 ((lwV 2 (lwS 2 (lwS 2 u1)) : Nat) : Int)]) rfl hsv rfl ⟨rfl, rfl, rfl, trivial⟩ rfl rfl rfl (by omega) (by omega) rfl rfl) ?_ ?_
   ·
    rintro _ _ ⟨vn2, Hn, hn2, rfl, rfl⟩; infer_instance
   rintro _ _ ⟨vn2, Hn, hn2, rfl, rfl⟩
   refine AnyH.app ?_
   have hsn : Slc 53 3 vn2 (k1.length + 1) (cel (cE fsO) (k1 ++ [lnEl fsO u1])) Hn := by rw [cel_app, cel_one1]; exact hn2
   obtain ⟨x9, y9, rfl⟩ := hsn.form
   refine Tk 11 rfl rfl (pv_fieldAddr0 rfl rfl) rfl ?_
   refine AnyH.one 12 (by kernel_rfl) ?_
   refine Turn.ef rfl rfl (ef_store1 rfl rfl (by first | rfl | assumption) (by first | rfl | assumption)) ?_ ?_
   ·
    rintro _ _ ⟨rfl, rfl⟩; infer_instance
   rintro _ _ ⟨rfl, rfl⟩
   refine AnyH.done (by kernel_rfl) ?_
   refine Ends.block_normal ?_
   refine Ends.seq ?_
   refine Wp.region ?_
   refine Om1 rfl rfl ?_
   refine Ops.pv (pv_sub rfl rfl (w64n (k := i) (by omega) (by omega))) rfl ?_
   refine Oa1 rfl rfl ?_
   refine Ops.nil ?_
   refine Ends.goes ?_
   refine Goes.back (hK (i, (lwS 2 (lwS 2 (lwS 2 u1))), k1 ++ [lnEl fsO u1], .slice x9 (k1.length + 1) y9, Hn) ⟨by dsimp only; rw [List.length_append, List.length_singleton]; omega, (lwS_le (lwS_le (lwS_le hu1))), (lnI_step hnb).symm.trans hln, by rw [List.length_append]; exact hsn⟩ (by dsimp only; omega)) ⟨rfl, rfl, rfl, rfl, trivial⟩
  refine Turn.ef rfl rfl (ef_call (tr_rtwoS b2 (lwS 2 u1) (lwS_le hu1)) rfl rfl) ?_ ?_
  ·
   rintro _ _ ⟨_, _, ⟨rfl, rfl⟩, rfl, rfl⟩; infer_instance
  rintro _ _ ⟨_, _, ⟨rfl, rfl⟩, rfl, rfl⟩
  refine AnyH.app ?_
  refine AnyH.two 1 7 (by kernel_rfl) ?_ ?_
  ·
   refine Turn.ef rfl rfl (ef_pv (pv_load rfl rfl rfl) rfl) ?_ ?_
   ·
    rintro _ _ ⟨rfl, rfl⟩; infer_instance
   rintro _ _ ⟨rfl, rfl⟩
   refine AnyH.one 7 (by kernel_rfl) ?_
   refine Turn.ef rfl rfl (ef_call (tr_rtwoS b2 (lwS 2 (lwS 2 u1)) (lwS_le (lwS_le hu1))) rfl rfl) ?_ ?_
   ·
    rintro _ _ ⟨_, _, ⟨rfl, rfl⟩, rfl, rfl⟩; infer_instance
   rintro _ _ ⟨_, _, ⟨rfl, rfl⟩, rfl, rfl⟩
   refine AnyH.app ?_
   refine Tk 8 rfl rfl (pv_build rfl) rfl ?_
   refine AnyH.one 9 (by kernel_rfl) ?_
   refine Turn.ef rfl rfl (ef_buildSlice1 (k := 3) rfl rfl rfl rfl rfl) ?_ ?_
   ·
    rintro _ _ ⟨b6, rfl, rfl⟩; infer_instance
   rintro _ _ ⟨b6, rfl, rfl⟩
   refine AnyH.one 10 (by kernel_rfl) ?_
   refine Turn.ef rfl rfl (ef_append (H := G1) (xs := [.int .i64 ((lwV 2 u1 : Nat) : Int), .int .i64 ((lwV 2 (lwS 2 u1) : Nat) : Int), .int .i64 ((lwV 2 (lwS 2 (lwS 2 u1)) : Nat) : Int)]) rfl hsv rfl ⟨rfl, rfl, rfl, trivial⟩ rfl rfl rfl (by omega) (by omega) rfl rfl) ?_ ?_
   ·
    rintro _ _ ⟨vn3, Hn, hn3, rfl, rfl⟩; infer_instance
   rintro _ _ ⟨vn3, Hn, hn3, rfl, rfl⟩
   refine AnyH.app ?_
   have hsn : Slc 53 3 vn3 (k1.length + 1) (cel (cE fsO) (k1 ++ [lnEl fsO u1])) Hn := by rw [cel_app, cel_one1]; exact hn3
   obtain ⟨x9, y9, rfl⟩ := hsn.form
   refine Tk 11 rfl rfl (pv_fieldAddr0 rfl rfl) rfl ?_
   refine AnyH.one 12 (by kernel_rfl) ?_
   refine Turn.ef rfl rfl (ef_store1 rfl rfl (by first | rfl | assumption) (by first | rfl | assumption)) ?_ ?_
   ·
    rintro _ _ ⟨rfl, rfl⟩; infer_instance
   rintro _ _ ⟨rfl, rfl⟩
   refine AnyH.done (by kernel_rfl) ?_
   refine Ends.block_normal ?_
   refine Ends.seq ?_
   refine Wp.region ?_
   refine Om1 rfl rfl ?_
   refine Ops.pv (pv_sub rfl rfl (w64n (k := i) (by omega) (by omega))) rfl ?_
   refine Oa1 rfl rfl ?_
   refine Ops.nil ?_
   refine Ends.goes ?_
   refine Goes.back (hK (i, (lwS 2 (lwS 2 (lwS 2 u1))), k1 ++ [lnEl fsO u1], .slice x9 (k1.length + 1) y9, Hn) ⟨by dsimp only; rw [List.length_append, List.length_singleton]; omega, (lwS_le (lwS_le (lwS_le hu1))), (lnI_step hnb).symm.trans hln, by rw [List.length_append]; exact hsn⟩ (by dsimp only; omega)) ⟨rfl, rfl, rfl, rfl, trivial⟩
  refine Turn.ef rfl rfl (ef_call (tr_rtwoS b2 (lwS 2 (lwS 2 u1)) (lwS_le (lwS_le hu1))) rfl rfl) ?_ ?_
  ·
   rintro _ _ ⟨_, _, ⟨rfl, rfl⟩, rfl, rfl⟩; infer_instance
  rintro _ _ ⟨_, _, ⟨rfl, rfl⟩, rfl, rfl⟩
  refine AnyH.app ?_
  refine Tk 8 rfl rfl (pv_build rfl) rfl ?_
  refine AnyH.two 1 9 (by kernel_rfl) ?_ ?_
  ·
   refine Turn.ef rfl rfl (ef_pv (pv_load rfl rfl rfl) rfl) ?_ ?_
   ·
    rintro _ _ ⟨rfl, rfl⟩; infer_instance
   rintro _ _ ⟨rfl, rfl⟩
   refine AnyH.one 9 (by kernel_rfl) ?_
   refine Turn.ef rfl rfl (ef_buildSlice1 (k := 3) rfl rfl rfl rfl rfl) ?_ ?_
   ·
    rintro _ _ ⟨b7, rfl, rfl⟩; infer_instance
   rintro _ _ ⟨b7, rfl, rfl⟩
   refine AnyH.one 10 (by kernel_rfl) ?_
   refine Turn.ef rfl rfl (ef_append (H := G1) (xs := [.int .i64 ((lwV 2 u1 : Nat) : Int), .int .i64 ((lwV 2 (lwS 2 u1) : Nat) : Int), .int .i64 ((lwV 2 (lwS 2 (lwS 2 u1)) : Nat) : Int)]) rfl hsv rfl ⟨rfl, rfl, rfl, trivial⟩ rfl rfl rfl (by omega) (by omega) rfl rfl) ?_ ?_
   ·
    rintro _ _ ⟨vn4, Hn, hn4, rfl, rfl⟩; infer_instance
   rintro _ _ ⟨vn4, Hn, hn4, rfl, rfl⟩
   refine AnyH.app ?_
   have hsn : Slc 53 3 vn4 (k1.length + 1) (cel (cE fsO) (k1 ++ [lnEl fsO u1])) Hn := by rw [cel_app, cel_one1]; exact hn4
   obtain ⟨x9, y9, rfl⟩ := hsn.form
   refine Tk 11 rfl rfl (pv_fieldAddr0 rfl rfl) rfl ?_
   refine AnyH.one 12 (by kernel_rfl) ?_
   refine Turn.ef rfl rfl (ef_store1 rfl rfl (by first | rfl | assumption) (by first | rfl | assumption)) ?_ ?_
   ·
    rintro _ _ ⟨rfl, rfl⟩; infer_instance
   rintro _ _ ⟨rfl, rfl⟩
   refine AnyH.done (by kernel_rfl) ?_
   refine Ends.block_normal ?_
   refine Ends.seq ?_
   refine Wp.region ?_
   refine Om1 rfl rfl ?_
   refine Ops.pv (pv_sub rfl rfl (w64n (k := i) (by omega) (by omega))) rfl ?_
   refine Oa1 rfl rfl ?_
   refine Ops.nil ?_
   refine Ends.goes ?_
   refine Goes.back (hK (i, (lwS 2 (lwS 2 (lwS 2 u1))), k1 ++ [lnEl fsO u1], .slice x9 (k1.length + 1) y9, Hn) ⟨by dsimp only; rw [List.length_append, List.length_singleton]; omega, (lwS_le (lwS_le (lwS_le hu1))), (lnI_step hnb).symm.trans hln, by rw [List.length_append]; exact hsn⟩ (by dsimp only; omega)) ⟨rfl, rfl, rfl, rfl, trivial⟩
  refine Turn.ef rfl rfl (ef_buildSlice1 (k := 3) rfl rfl rfl rfl rfl) ?_ ?_
  ·
   rintro _ _ ⟨b8, rfl, rfl⟩; infer_instance
  rintro _ _ ⟨b8, rfl, rfl⟩
  refine AnyH.one 1 (by kernel_rfl) ?_
  refine Turn.ef rfl rfl (ef_pv (pv_load rfl rfl rfl) rfl) ?_ ?_
  ·
   rintro _ _ ⟨rfl, rfl⟩; infer_instance
  rintro _ _ ⟨rfl, rfl⟩
  refine AnyH.one 10 (by kernel_rfl) ?_
  refine Turn.ef rfl rfl (ef_append (H := G1) (xs := [.int .i64 ((lwV 2 u1 : Nat) : Int), .int .i64 ((lwV 2 (lwS 2 u1) : Nat) : Int), .int .i64 ((lwV 2 (lwS 2 (lwS 2 u1)) : Nat) : Int)]) rfl hsv rfl ⟨rfl, rfl, rfl, trivial⟩ rfl rfl rfl (by omega) (by omega) rfl rfl) ?_ ?_
  ·
   rintro _ _ ⟨vn5, Hn, hn5, rfl, rfl⟩; infer_instance
  rintro _ _ ⟨vn5, Hn, hn5, rfl, rfl⟩
  refine AnyH.app ?_
  have hsn : Slc 53 3 vn5 (k1.length + 1) (cel (cE fsO) (k1 ++ [lnEl fsO u1])) Hn := by rw [cel_app, cel_one1]; exact hn5
  obtain ⟨x9, y9, rfl⟩ := hsn.form
  refine Tk 11 rfl rfl (pv_fieldAddr0 rfl rfl) rfl ?_
  refine AnyH.one 12 (by kernel_rfl) ?_
  refine Turn.ef rfl rfl (ef_store1 rfl rfl (by first | rfl | assumption) (by first | rfl | assumption)) ?_ ?_
  ·
   rintro _ _ ⟨rfl, rfl⟩; infer_instance
  rintro _ _ ⟨rfl, rfl⟩
  refine AnyH.done (by kernel_rfl) ?_
  refine Ends.block_normal ?_
  refine Ends.seq ?_
  refine Wp.region ?_
  refine Om1 rfl rfl ?_
  refine Ops.pv (pv_sub rfl rfl (w64n (k := i) (by omega) (by omega))) rfl ?_
  refine Oa1 rfl rfl ?_
  refine Ops.nil ?_
  refine Ends.goes ?_
  refine Goes.back (hK (i, (lwS 2 (lwS 2 (lwS 2 u1))), k1 ++ [lnEl fsO u1], .slice x9 (k1.length + 1) y9, Hn) ⟨by dsimp only; rw [List.length_append, List.length_singleton]; omega, (lwS_le (lwS_le (lwS_le hu1))), (lnI_step hnb).symm.trans hln, by rw [List.length_append]; exact hsn⟩ (by dsimp only; omega)) ⟨rfl, rfl, rfl, rfl, trivial⟩
 have hz : i = 0 ∨ u1.1 = true := by
  rcases Nat.eq_zero_or_pos i with h | h
  ·
   exact .inl h
  ·
   right; apply Classical.byContradiction; intro hb; exact absurd (⟨by omega, hb⟩ : (i : Int) > 0 ∧ ¬ u1.1 = true) (by assumption)
 have hL1 : lnL fsO (false, sx.drop 2) = (k1, u1) := hln.symm.trans (lnI_stop hz)
 obtain ⟨p1, q1, rfl⟩ := hsv.form
 have hg1 := hsv
 refine Wp.exit ?_
 refine Ends.then_exit ?_
 refine Ends.then_exit ?_
 refine Ends.block_hit ?_
 refine Ends.seq ?_
 refine Wp.seq ?_
 refine Wr ?_
 refine Om1 rfl rfl ?_
 refine Ops.ef rfl (ef_call (tr_rtwoS b2 u1 hu1) rfl rfl) ?_
 rintro _ _ ⟨_, _, ⟨rfl, rfl⟩, rfl, rfl⟩
 refine Ops.app ?_
 refine Oa1 rfl rfl ?_
 refine On ?_
 refine Wp.block ?_
 refine Wp.loopK (σ := Nat × St × List (El fsP) × Value × Hp) [(2, _), (4, _), (5, _)] (fun s => [(7, .int .i64 s.1)]) (fun s => rdB b2 s.2.1 :: ((b3, .cells [.slice p1 k1.length q1, s.2.2.2.1, .slice none 0 0, .slice none 0 0, .slice none 0 0, .slice none 0 0, .slice none 0 0].toArray 30) :: ((b1, .cells [.slice none 0 0, .slice none 0 0, .slice none 0 0, .slice none 0 0, .slice none 0 0, .slice none 0 0, .slice none 0 0].toArray 30) :: (G1 ++ (s.2.2.2.2 ++ F))))) (fun s => s.2.2.1.length + s.1 ≤ 65535 ∧ s.2.1.2.length ≤ 2 ^ 40 ∧ lnI fsP s.1 s.2.1 s.2.2.1 = lnL fsP u1 ∧ Slc 61 8 s.2.2.2.1 s.2.2.1.length (cel (cE fsP) s.2.2.1) s.2.2.2.2) (fun s => s.1) (lwV 2 u1, lwS 2 u1, [], .slice none 0 0, []) ⟨by have := lwV2i u1; dsimp only [List.length_nil]; omega, lwS_le hu1, rfl, Slc.nil _ _⟩ ⟨rfl, rfl, rfl, trivial⟩ ⟨rfl, trivial⟩ (by intro w ho; (try dsimp only [List.nil_append, List.cons_append]); exact Drop.own ho) ?_
 rintro ⟨i, u2, k2, vv, G2⟩ KK ⟨hc2, hu2, hln, hsv⟩ hK
 dsimp only [List.cons_append, List.nil_append] at hK ⊢
 dsimp only at hc2 hu2 hln hsv ⊢
 refine Wp.seq ?_
 refine Wr ?_
 refine Om1 rfl rfl ?_
 refine Ops.pv (pv_gtr rfl rfl) rfl ?_
 refine Om1 rfl rfl ?_
 refine Ops.pvc rfl rfl (fun hg => pv_move rfl) rfl ?_
 refine Ops.pvc rfl rfl (fun hg => Pv.setE (t := 60) rfl (cv_pos hg) (pv_nilCheck rfl)) rfl ?_
 refine Ops.pvc rfl rfl (fun hg => Pv.setE (t := 60) rfl (cv_pos hg) (Pv.setE (t := 61) rfl (cv_pos hg) (pv_fieldAddr0 rfl rfl))) rfl ?_
 refine Ops.pvc rfl rfl (fun hg => Pv.setE (t := 60) rfl (cv_pos hg) (Pv.setE (t := 61) rfl (cv_pos hg) (Pv.setE (t := 62) rfl (cv_pos hg) (pv_load (v := .bool (decide (u2.1 = true))) rfl rfl (nth_dec rfl))))) rfl ?_
 refine Ops.pvc rfl rfl (fun hg => Pv.setE (t := 60) rfl (cv_pos hg) (Pv.setE (t := 61) rfl (cv_pos hg) (Pv.setE (t := 62) rfl (cv_pos hg) (Pv.setE (t := 63) rfl (cv_pos hg) (pv_not_dec rfl))))) rfl ?_
 refine Ops.pv (pv_pick_and rfl rfl) rfl ?_
 refine On ?_
 refine Wp.cond_dect rfl (fun h3 => ?_) (fun h3 => ?_)
 ·
  obtain ⟨hi0, hnb⟩ : (i : Int) > 0 ∧ ¬ u2.1 = true := by assumption
  obtain ⟨i, rfl⟩ : ∃ q, i = q + 1 := ⟨i - 1, by omega⟩
  refine Wp.skip ?_
  refine Ends.seq ?_
  refine Wp.seq ?_
  refine Wp.block ?_
  refine Wr ?_
  refine Om1 rfl rfl ?_
  refine Ops.ef rfl (ef_call (tr_rtwoS b2 u2 hu2) rfl rfl) ?_
  rintro _ _ ⟨_, _, ⟨rfl, rfl⟩, rfl, rfl⟩
  refine Ops.app ?_
  refine Om1 rfl rfl ?_
  refine Ops.ef rfl (ef_call (tr_rtwoS b2 (lwS 2 u2) (lwS_le hu2)) rfl rfl) ?_
  rintro _ _ ⟨_, _, ⟨rfl, rfl⟩, rfl, rfl⟩
  refine Ops.app ?_
  refine Ops.pv (pv_build rfl) rfl ?_
  refine Ops.ef rfl (ef_allocK tyZ56 rfl) ?_
  rintro _ _ ⟨b9, rfl, rfl⟩
  refine Ops.ef rfl (ef_storeK rfl rfl rfl rfl) ?_
  rintro _ _ ⟨rfl, rfl⟩
  refine On ?_
  refine AnyH.start ([(b9, .cells [.int .i64 ((lwV 2 u2 : Nat) : Int), .int .i64 ((lwV 2 (lwS 2 u2) : Nat) : Int)].toArray 56)] : Hp) 21 rfl ?_
  refine Tk 0 rfl rfl (pv_fieldAddr0 rfl rfl) rfl ?_
  refine Tk 2 rfl rfl (pv_loadK [_, _] rfl rfl rfl ⟨rfl, rfl, trivial⟩) rfl ?_
  refine Tk 3 rfl rfl (pv_move rfl) rfl ?_
  refine Tk 5 rfl rfl (pv_move rfl) rfl ?_
  refine Tk 7 rfl rfl (pv_move rfl) rfl ?_
  refine Tk 9 rfl rfl (pv_move rfl) rfl ?_
  refine Tk 11 rfl rfl (pv_move rfl) rfl ?_
  refine Tk 13 rfl rfl (pv_move rfl) rfl ?_
  refine AnyH.two 1 4 (by kernel_rfl) ?_ ?_
  ·
   refine Turn.ef rfl rfl (ef_pv (pv_load rfl rfl rfl) rfl) ?_ ?_
   ·
    rintro _ _ ⟨rfl, rfl⟩; infer_instance
   rintro _ _ ⟨rfl, rfl⟩
   refine AnyH.one 4 (by kernel_rfl) ?_
   refine Turn.ef rfl rfl (ef_call (tr_rtwoS b2 (lwS 2 (lwS 2 u2)) (lwS_le (lwS_le hu2))) rfl rfl) ?_ ?_
   ·
    rintro _ _ ⟨_, _, ⟨rfl, rfl⟩, rfl, rfl⟩; infer_instance
   rintro _ _ ⟨_, _, ⟨rfl, rfl⟩, rfl, rfl⟩
   refine AnyH.app ?_
   refine AnyH.one 6 (by kernel_rfl) ?_
   refine Turn.ef rfl rfl (ef_call (tr_rtwoS b2 (lwS 2 (lwS 2 (lwS 2 u2))) (lwS_le (lwS_le (lwS_le hu2)))) rfl rfl) ?_ ?_
   ·
    rintro _ _ ⟨_, _, ⟨rfl, rfl⟩, rfl, rfl⟩; infer_instance
   rintro _ _ ⟨_, _, ⟨rfl, rfl⟩, rfl, rfl⟩
   refine AnyH.app ?_
   refine AnyH.one 8 (by kernel_rfl) ?_
   refine Turn.ef rfl rfl (ef_call (tr_rtwoS b2 (lwS 2 (lwS 2 (lwS 2 (lwS 2 u2)))) (lwS_le (lwS_le (lwS_le (lwS_le hu2))))) rfl rfl) ?_ ?_
   ·
    rintro _ _ ⟨_, _, ⟨rfl, rfl⟩, rfl, rfl⟩; infer_instance
   rintro _ _ ⟨_, _, ⟨rfl, rfl⟩, rfl, rfl⟩
   refine AnyH.app ?_
   refine AnyH.one 10 (by kernel_rfl) ?_
   refine Turn.ef rfl rfl (ef_call (tr_rwordS b2 4 (lwS 2 (lwS 2 (lwS 2 (lwS 2 (lwS 2 u2))))) (by decide) (by decide) (lwS_le (lwS_le (lwS_le (lwS_le (lwS_le hu2)))))) rfl rfl) ?_ ?_
   ·
    rintro _ _ ⟨_, _, ⟨rfl, rfl⟩, rfl, rfl⟩; infer_instance
   rintro _ _ ⟨_, _, ⟨rfl, rfl⟩, rfl, rfl⟩
   refine AnyH.app ?_
   refine AnyH.one 12 (by kernel_rfl) ?_
   refine Turn.ef rfl rfl (ef_call (tr_rwordS b2 4 (lwS 4 (lwS 2 (lwS 2 (lwS 2 (lwS 2 (lwS 2 u2)))))) (by decide) (by decide) (lwS_le (lwS_le (lwS_le (lwS_le (lwS_le (lwS_le hu2))))))) rfl rfl) ?_ ?_
   ·
    rintro _ _ ⟨_, _, ⟨rfl, rfl⟩, rfl, rfl⟩; infer_instance
   rintro _ _ ⟨_, _, ⟨rfl, rfl⟩, rfl, rfl⟩
   refine AnyH.app ?_
   refine AnyH.one 14 (by kernel_rfl) ?_
   refine Turn.ef rfl rfl (ef_call (tr_rtwoS b2 (lwS 4 (lwS 4 (lwS 2 (lwS 2 (lwS 2 (lwS 2 (lwS 2 u2))))))) (lwS_le (lwS_le (lwS_le (lwS_le (lwS_le (lwS_le (lwS_le hu2)))))))) rfl rfl) ?_ ?_
   ·
    rintro _ _ ⟨_, _, ⟨rfl, rfl⟩, rfl, rfl⟩; infer_instance
   rintro _ _ ⟨_, _, ⟨rfl, rfl⟩, rfl, rfl⟩
   refine AnyH.app ?_
   refine Tk 15 rfl rfl (pv_build rfl) rfl ?_
   refine Tk 16 rfl rfl (pv_build rfl) rfl ?_
   refine AnyH.one 17 (by kernel_rfl) ?_
   refine Turn.ef rfl rfl (ef_buildSlice1 (k := 8) rfl rfl rfl rfl rfl) ?_ ?_
   ·
    rintro _ _ ⟨b10, rfl, rfl⟩; infer_instance
   rintro _ _ ⟨b10, rfl, rfl⟩
   refine AnyH.one 18 (by kernel_rfl) ?_
   refine Turn.ef rfl rfl (ef_append (H := G2) (xs := [.int .i64 ((lwV 2 u2 : Nat) : Int), .int .i64 ((lwV 2 (lwS 2 u2) : Nat) : Int), .int .i64 ((lwV 2 (lwS 2 (lwS 2 u2)) : Nat) : Int), .int .i64 ((lwV 2 (lwS 2 (lwS 2 (lwS 2 u2))) : Nat) : Int), .int .i64 ((lwV 2 (lwS 2 (lwS 2 (lwS 2 (lwS 2 u2)))) : Nat) : Int), .int .u64 ((lwV 4 (lwS 2 (lwS 2 (lwS 2 (lwS 2 (lwS 2 u2))))) : Nat) : Int), .int .u64 ((lwV 4 (lwS 4 (lwS 2 (lwS 2 (lwS 2 (lwS 2 (lwS 2 u2)))))) : Nat) : Int), .int .i64 ((lwV 2 (lwS 4 (lwS 4 (lwS 2 (lwS 2 (lwS 2 (lwS 2 (lwS 2 u2))))))) : Nat) : Int)]) rfl hsv rfl ⟨rfl, rfl, rfl, rfl, rfl, rfl, rfl, rfl, trivial⟩ rfl rfl rfl (by omega) (by omega) rfl rfl) ?_ ?_
   ·
    rintro _ _ ⟨vn6, Hn, hn6, rfl, rfl⟩; infer_instance
   rintro _ _ ⟨vn6, Hn, hn6, rfl, rfl⟩
   refine AnyH.app ?_
   have hsn : Slc 61 8 vn6 (k2.length + 1) (cel (cE fsP) (k2 ++ [lnEl fsP u2])) Hn := by rw [cel_app, cel_one1]; exact hn6
   obtain ⟨x9, y9, rfl⟩ := hsn.form
   refine Tk 19 rfl rfl (pv_fieldAddr0 rfl rfl) rfl ?_
   refine AnyH.one 20 (by kernel_rfl) ?_
   refine Turn.ef rfl rfl (ef_store1 rfl rfl (by first | rfl | assumption) (by first | rfl | assumption)) ?_ ?_
   ·
    rintro _ _ ⟨rfl, rfl⟩; infer_instance
   rintro _ _ ⟨rfl, rfl⟩
   refine AnyH.done (by kernel_rfl) ?_
   refine Ends.block_normal ?_
   refine Ends.seq ?_
   refine Wp.region ?_
   refine Om1 rfl rfl ?_
   refine Ops.pv (pv_sub rfl rfl (w64n (k := i) (by omega) (by omega))) rfl ?_
   refine Oa1 rfl rfl ?_
   refine Ops.nil ?_
   refine Ends.goes ?_
   refine Goes.back (hK (i, (lwS 2 (lwS 4 (lwS 4 (lwS 2 (lwS 2 (lwS 2 (lwS 2 (lwS 2 u2)))))))), k2 ++ [lnEl fsP u2], .slice x9 (k2.length + 1) y9, Hn) ⟨by dsimp only; rw [List.length_append, List.length_singleton]; omega, (lwS_le (lwS_le (lwS_le (lwS_le (lwS_le (lwS_le (lwS_le (lwS_le hu2)))))))), (lnI_step hnb).symm.trans hln, by rw [List.length_append]; exact hsn⟩ (by dsimp only; omega)) ⟨rfl, rfl, rfl, rfl, trivial⟩
  refine Turn.ef rfl rfl (ef_call (tr_rtwoS b2 (lwS 2 (lwS 2 u2)) (lwS_le (lwS_le hu2))) rfl rfl) ?_ ?_
  ·
   rintro _ _ ⟨_, _, ⟨rfl, rfl⟩, rfl, rfl⟩; infer_instance
  rintro _ _ ⟨_, _, ⟨rfl, rfl⟩, rfl, rfl⟩
  refine AnyH.app ?_
  refine AnyH.two 1 6 (by kernel_rfl) ?_ ?_
  ·
   refine Turn.ef rfl rfl (ef_pv (pv_load rfl rfl rfl) rfl) ?_ ?_
   ·
    rintro _ _ ⟨rfl, rfl⟩; infer_instance
   rintro _ _ ⟨rfl, rfl⟩
   refine AnyH.one 6 (by kernel_rfl) ?_
   refine Turn.ef rfl rfl (ef_call (tr_rtwoS b2 (lwS 2 (lwS 2 (lwS 2 u2))) (lwS_le (lwS_le (lwS_le hu2)))) rfl rfl) ?_ ?_
   ·
    rintro _ _ ⟨_, _, ⟨rfl, rfl⟩, rfl, rfl⟩; infer_instance
   rintro _ _ ⟨_, _, ⟨rfl, rfl⟩, rfl, rfl⟩
   refine AnyH.app ?_
   refine AnyH.one 8 (by kernel_rfl) ?_
   refine Turn.ef rfl rfl (ef_call (tr_rtwoS b2 (lwS 2 (lwS 2 (lwS 2 (lwS 2 u2)))) (lwS_le (lwS_le (lwS_le (lwS_le hu2))))) rfl rfl) ?_ ?_
   ·
    rintro _ _ ⟨_, _, ⟨rfl, rfl⟩, rfl, rfl⟩; infer_instance
   rintro _ _ ⟨_, _, ⟨rfl, rfl⟩, rfl, rfl⟩
   refine AnyH.app ?_
   refine AnyH.one 10 (by kernel_rfl) ?_
   refine Turn.ef rfl rfl (ef_call (tr_rwordS b2 4 (lwS 2 (lwS 2 (lwS 2 (lwS 2 (lwS 2 u2))))) (by decide) (by decide) (lwS_le (lwS_le (lwS_le (lwS_le (lwS_le hu2)))))) rfl rfl) ?_ ?_
   ·
    rintro _ _ ⟨_, _, ⟨rfl, rfl⟩, rfl, rfl⟩; infer_instance
   rintro _ _ ⟨_, _, ⟨rfl, rfl⟩, rfl, rfl⟩
   refine AnyH.app ?_
   refine AnyH.one 12 (by kernel_rfl) ?_
   refine Turn.ef rfl rfl (ef_call (tr_rwordS b2 4 (lwS 4 (lwS 2 (lwS 2 (lwS 2 (lwS 2 (lwS 2 u2)))))) (by decide) (by decide) (lwS_le (lwS_le (lwS_le (lwS_le (lwS_le (lwS_le hu2))))))) rfl rfl) ?_ ?_
   ·
    rintro _ _ ⟨_, _, ⟨rfl, rfl⟩, rfl, rfl⟩; infer_instance
   rintro _ _ ⟨_, _, ⟨rfl, rfl⟩, rfl, rfl⟩
   refine AnyH.app ?_
   refine AnyH.one 14 (by kernel_rfl) ?_
   refine Turn.ef rfl rfl (ef_call (tr_rtwoS b2 (lwS 4 (lwS 4 (lwS 2 (lwS 2 (lwS 2 (lwS 2 (lwS 2 u2))))))) (lwS_le (lwS_le (lwS_le (lwS_le (lwS_le (lwS_le (lwS_le hu2)))))))) rfl rfl) ?_ ?_
   ·
    rintro _ _ ⟨_, _, ⟨rfl, rfl⟩, rfl, rfl⟩; infer_instance
   rintro _ _ ⟨_, _, ⟨rfl, rfl⟩, rfl, rfl⟩
   refine AnyH.app ?_
   refine Tk 15 rfl rfl (pv_build rfl) rfl ?_
   refine Tk 16 rfl rfl (pv_build rfl) rfl ?_
   refine AnyH.one 17 (by kernel_rfl) ?_
   refine Turn.ef rfl rfl (ef_buildSlice1 (k := 8) rfl rfl rfl rfl rfl) ?_ ?_
   ·
    rintro _ _ ⟨b11, rfl, rfl⟩; infer_instance
   rintro _ _ ⟨b11, rfl, rfl⟩
   refine AnyH.one 18 (by kernel_rfl) ?_
   refine Turn.ef rfl rfl (ef_append (H := G2) (xs := [.int .i64 ((lwV 2 u2 : Nat) : Int), .int .i64 ((lwV 2 (lwS 2 u2) : Nat) : Int), .int .i64 ((lwV 2 (lwS 2 (lwS 2 u2)) : Nat) : Int), .int .i64 ((lwV 2 (lwS 2 (lwS 2 (lwS 2 u2))) : Nat) : Int), .int .i64 ((lwV 2 (lwS 2 (lwS 2 (lwS 2 (lwS 2 u2)))) : Nat) : Int), .int .u64 ((lwV 4 (lwS 2 (lwS 2 (lwS 2 (lwS 2 (lwS 2 u2))))) : Nat) : Int), .int .u64 ((lwV 4 (lwS 4 (lwS 2 (lwS 2 (lwS 2 (lwS 2 (lwS 2 u2)))))) : Nat) : Int), .int .i64 ((lwV 2 (lwS 4 (lwS 4 (lwS 2 (lwS 2 (lwS 2 (lwS 2 (lwS 2 u2))))))) : Nat) : Int)]) rfl hsv rfl ⟨rfl, rfl, rfl, rfl, rfl, rfl, rfl, rfl, trivial⟩ rfl rfl rfl (by omega) (by omega) rfl rfl) ?_ ?_
   ·
    rintro _ _ ⟨vn7, Hn, hn7, rfl, rfl⟩; infer_instance
   rintro _ _ ⟨vn7, Hn, hn7, rfl, rfl⟩
   refine AnyH.app ?_
   have hsn : Slc 61 8 vn7 (k2.length + 1) (cel (cE fsP) (k2 ++ [lnEl fsP u2])) Hn := by rw [cel_app, cel_one1]; exact hn7
   obtain ⟨x9, y9, rfl⟩ := hsn.form
   refine Tk 19 rfl rfl (pv_fieldAddr0 rfl rfl) rfl ?_
   refine AnyH.one 20 (by kernel_rfl) ?_
   refine Turn.ef rfl rfl (ef_store1 rfl rfl (by first | rfl | assumption) (by first | rfl | assumption)) ?_ ?_
   ·
    rintro _ _ ⟨rfl, rfl⟩; infer_instance
   rintro _ _ ⟨rfl, rfl⟩
   refine AnyH.done (by kernel_rfl) ?_
   refine Ends.block_normal ?_
   refine Ends.seq ?_
   refine Wp.region ?_
   refine Om1 rfl rfl ?_
   refine Ops.pv (pv_sub rfl rfl (w64n (k := i) (by omega) (by omega))) rfl ?_
   refine Oa1 rfl rfl ?_
   refine Ops.nil ?_
   refine Ends.goes ?_
   refine Goes.back (hK (i, (lwS 2 (lwS 4 (lwS 4 (lwS 2 (lwS 2 (lwS 2 (lwS 2 (lwS 2 u2)))))))), k2 ++ [lnEl fsP u2], .slice x9 (k2.length + 1) y9, Hn) ⟨by dsimp only; rw [List.length_append, List.length_singleton]; omega, (lwS_le (lwS_le (lwS_le (lwS_le (lwS_le (lwS_le (lwS_le (lwS_le hu2)))))))), (lnI_step hnb).symm.trans hln, by rw [List.length_append]; exact hsn⟩ (by dsimp only; omega)) ⟨rfl, rfl, rfl, rfl, trivial⟩
  refine Turn.ef rfl rfl (ef_call (tr_rtwoS b2 (lwS 2 (lwS 2 (lwS 2 u2))) (lwS_le (lwS_le (lwS_le hu2)))) rfl rfl) ?_ ?_
  ·
   rintro _ _ ⟨_, _, ⟨rfl, rfl⟩, rfl, rfl⟩; infer_instance
  rintro _ _ ⟨_, _, ⟨rfl, rfl⟩, rfl, rfl⟩
  refine AnyH.app ?_
  refine AnyH.two 1 8 (by kernel_rfl) ?_ ?_
  ·
   refine Turn.ef rfl rfl (ef_pv (pv_load rfl rfl rfl) rfl) ?_ ?_
   ·
    rintro _ _ ⟨rfl, rfl⟩; infer_instance
   rintro _ _ ⟨rfl, rfl⟩
   refine AnyH.one 8 (by kernel_rfl) ?_
   refine Turn.ef rfl rfl (ef_call (tr_rtwoS b2 (lwS 2 (lwS 2 (lwS 2 (lwS 2 u2)))) (lwS_le (lwS_le (lwS_le (lwS_le hu2))))) rfl rfl) ?_ ?_
   ·
    rintro _ _ ⟨_, _, ⟨rfl, rfl⟩, rfl, rfl⟩; infer_instance
   rintro _ _ ⟨_, _, ⟨rfl, rfl⟩, rfl, rfl⟩
   refine AnyH.app ?_
   refine AnyH.one 10 (by kernel_rfl) ?_
   refine Turn.ef rfl rfl (ef_call (tr_rwordS b2 4 (lwS 2 (lwS 2 (lwS 2 (lwS 2 (lwS 2 u2))))) (by decide) (by decide) (lwS_le (lwS_le (lwS_le (lwS_le (lwS_le hu2)))))) rfl rfl) ?_ ?_
   ·
    rintro _ _ ⟨_, _, ⟨rfl, rfl⟩, rfl, rfl⟩; infer_instance
   rintro _ _ ⟨_, _, ⟨rfl, rfl⟩, rfl, rfl⟩
   refine AnyH.app ?_
   refine AnyH.one 12 (by kernel_rfl) ?_
   refine Turn.ef rfl rfl (ef_call (tr_rwordS b2 4 (lwS 4 (lwS 2 (lwS 2 (lwS 2 (lwS 2 (lwS 2 u2)))))) (by decide) (by decide) (lwS_le (lwS_le (lwS_le (lwS_le (lwS_le (lwS_le hu2))))))) rfl rfl) ?_ ?_
   ·
    rintro _ _ ⟨_, _, ⟨rfl, rfl⟩, rfl, rfl⟩; infer_instance
   rintro _ _ ⟨_, _, ⟨rfl, rfl⟩, rfl, rfl⟩
   refine AnyH.app ?_
   refine AnyH.one 14 (by kernel_rfl) ?_
   refine Turn.ef rfl rfl (ef_call (tr_rtwoS b2 (lwS 4 (lwS 4 (lwS 2 (lwS 2 (lwS 2 (lwS 2 (lwS 2 u2))))))) (lwS_le (lwS_le (lwS_le (lwS_le (lwS_le (lwS_le (lwS_le hu2)))))))) rfl rfl) ?_ ?_
   ·
    rintro _ _ ⟨_, _, ⟨rfl, rfl⟩, rfl, rfl⟩; infer_instance
   rintro _ _ ⟨_, _, ⟨rfl, rfl⟩, rfl, rfl⟩
   refine AnyH.app ?_
   refine Tk 15 rfl rfl (pv_build rfl) rfl ?_
   refine Tk 16 rfl rfl (pv_build rfl) rfl ?_
   refine AnyH.one 17 (by kernel_rfl) ?_
   refine Turn.ef rfl rfl (ef_buildSlice1 (k := 8) rfl rfl rfl rfl rfl) ?_ ?_
   ·
    rintro _ _ ⟨b12, rfl, rfl⟩; infer_instance
   rintro _ _ ⟨b12, rfl, rfl⟩
   refine AnyH.one 18 (by kernel_rfl) ?_
   refine Turn.ef rfl rfl (ef_append (H := G2) (xs := [.int .i64 ((lwV 2 u2 : Nat) : Int), .int .i64 ((lwV 2 (lwS 2 u2) : Nat) : Int), .int .i64 ((lwV 2 (lwS 2 (lwS 2 u2)) : Nat) : Int), .int .i64 ((lwV 2 (lwS 2 (lwS 2 (lwS 2 u2))) : Nat) : Int), .int .i64 ((lwV 2 (lwS 2 (lwS 2 (lwS 2 (lwS 2 u2)))) : Nat) : Int), .int .u64 ((lwV 4 (lwS 2 (lwS 2 (lwS 2 (lwS 2 (lwS 2 u2))))) : Nat) : Int), .int .u64 ((lwV 4 (lwS 4 (lwS 2 (lwS 2 (lwS 2 (lwS 2 (lwS 2 u2)))))) : Nat) : Int), .int .i64 ((lwV 2 (lwS 4 (lwS 4 (lwS 2 (lwS 2 (lwS 2 (lwS 2 (lwS 2 u2))))))) : Nat) : Int)]) rfl hsv rfl ⟨rfl, rfl, rfl, rfl, rfl, rfl, rfl, rfl, trivial⟩ rfl rfl rfl (by omega) (by omega) rfl rfl) ?_ ?_
   ·
    rintro _ _ ⟨vn8, Hn, hn8, rfl, rfl⟩; infer_instance
   rintro _ _ ⟨vn8, Hn, hn8, rfl, rfl⟩
   refine AnyH.app ?_
   have hsn : Slc 61 8 vn8 (k2.length + 1) (cel (cE fsP) (k2 ++ [lnEl fsP u2])) Hn := by rw [cel_app, cel_one1]; exact hn8
   obtain ⟨x9, y9, rfl⟩ := hsn.form
   refine Tk 19 rfl rfl (pv_fieldAddr0 rfl rfl) rfl ?_
   refine AnyH.one 20 (by kernel_rfl) ?_
   refine Turn.ef rfl rfl (ef_store1 rfl rfl (by first | rfl | assumption) (by first | rfl | assumption)) ?_ ?_
   ·
    rintro _ _ ⟨rfl, rfl⟩; infer_instance
   rintro _ _ ⟨rfl, rfl⟩
   refine AnyH.done (by kernel_rfl) ?_
   refine Ends.block_normal ?_
   refine Ends.seq ?_
   refine Wp.region ?_
   refine Om1 rfl rfl ?_
   refine Ops.pv (pv_sub rfl rfl (w64n (k := i) (by omega) (by omega))) rfl ?_
   refine Oa1 rfl rfl ?_
   refine Ops.nil ?_
   refine Ends.goes ?_
   refine Goes.back (hK (i, (lwS 2 (lwS 4 (lwS 4 (lwS 2 (lwS 2 (lwS 2 (lwS 2 (lwS 2 u2)))))))), k2 ++ [lnEl fsP u2], .slice x9 (k2.length + 1) y9, Hn) ⟨by dsimp only; rw [List.length_append, List.length_singleton]; omega, (lwS_le (lwS_le (lwS_le (lwS_le (lwS_le (lwS_le (lwS_le (lwS_le hu2)))))))), (lnI_step hnb).symm.trans hln, by rw [List.length_append]; exact hsn⟩ (by dsimp only; omega)) ⟨rfl, rfl, rfl, rfl, trivial⟩
  refine Turn.ef rfl rfl (ef_call (tr_rtwoS b2 (lwS 2 (lwS 2 (lwS 2 (lwS 2 u2)))) (lwS_le (lwS_le (lwS_le (lwS_le hu2))))) rfl rfl) ?_ ?_
  ·
   rintro _ _ ⟨_, _, ⟨rfl, rfl⟩, rfl, rfl⟩; infer_instance
  rintro _ _ ⟨_, _, ⟨rfl, rfl⟩, rfl, rfl⟩
  refine AnyH.app ?_
  refine AnyH.two 1 10 (by kernel_rfl) ?_ ?_
  ·
   refine Turn.ef rfl rfl (ef_pv (pv_load rfl rfl rfl) rfl) ?_ ?_
   ·
    rintro _ _ ⟨rfl, rfl⟩; infer_instance
   rintro _ _ ⟨rfl, rfl⟩
   refine AnyH.one 10 (by kernel_rfl) ?_
   refine Turn.ef rfl rfl (ef_call (tr_rwordS b2 4 (lwS 2 (lwS 2 (lwS 2 (lwS 2 (lwS 2 u2))))) (by decide) (by decide) (lwS_le (lwS_le (lwS_le (lwS_le (lwS_le hu2)))))) rfl rfl) ?_ ?_
   ·
    rintro _ _ ⟨_, _, ⟨rfl, rfl⟩, rfl, rfl⟩; infer_instance
   rintro _ _ ⟨_, _, ⟨rfl, rfl⟩, rfl, rfl⟩
   refine AnyH.app ?_
   refine AnyH.one 12 (by kernel_rfl) ?_
   refine Turn.ef rfl rfl (ef_call (tr_rwordS b2 4 (lwS 4 (lwS 2 (lwS 2 (lwS 2 (lwS 2 (lwS 2 u2)))))) (by decide) (by decide) (lwS_le (lwS_le (lwS_le (lwS_le (lwS_le (lwS_le hu2))))))) rfl rfl) ?_ ?_
   ·
    rintro _ _ ⟨_, _, ⟨rfl, rfl⟩, rfl, rfl⟩; infer_instance
   rintro _ _ ⟨_, _, ⟨rfl, rfl⟩, rfl, rfl⟩
   refine AnyH.app ?_
   refine AnyH.one 14 (by kernel_rfl) ?_
   refine Turn.ef rfl rfl (ef_call (tr_rtwoS b2 (lwS 4 (lwS 4 (lwS 2 (lwS 2 (lwS 2 (lwS 2 (lwS 2 u2))))))) (lwS_le (lwS_le (lwS_le (lwS_le (lwS_le (lwS_le (lwS_le hu2)))))))) rfl rfl) ?_ ?_
   ·
    rintro _ _ ⟨_, _, ⟨rfl, rfl⟩, rfl, rfl⟩; infer_instance
   rintro _ _ ⟨_, _, ⟨rfl, rfl⟩, rfl, rfl⟩
   refine AnyH.app ?_
   refine Tk 15 rfl rfl (pv_build rfl) rfl ?_
   refine Tk 16 rfl rfl (pv_build rfl) rfl ?_
   refine AnyH.one 17 (by kernel_rfl) ?_
   refine Turn.ef rfl rfl (ef_buildSlice1 (k := 8) rfl rfl rfl rfl rfl) ?_ ?_
   ·
    rintro _ _ ⟨b13, rfl, rfl⟩; infer_instance
   rintro _ _ ⟨b13, rfl, rfl⟩
   refine AnyH.one 18 (by kernel_rfl) ?_
   refine Turn.ef rfl rfl (ef_append (H := G2) (xs := [.int .i64 ((lwV 2 u2 : Nat) : Int), .int .i64 ((lwV 2 (lwS 2 u2) : Nat) : Int), .int .i64 ((lwV 2 (lwS 2 (lwS 2 u2)) : Nat) : Int), .int .i64 ((lwV 2 (lwS 2 (lwS 2 (lwS 2 u2))) : Nat) : Int), .int .i64 ((lwV 2 (lwS 2 (lwS 2 (lwS 2 (lwS 2 u2)))) : Nat) : Int), .int .u64 ((lwV 4 (lwS 2 (lwS 2 (lwS 2 (lwS 2 (lwS 2 u2))))) : Nat) : Int), .int .u64 ((lwV 4 (lwS 4 (lwS 2 (lwS 2 (lwS 2 (lwS 2 (lwS 2 u2)))))) : Nat) : Int), .int .i64 ((lwV 2 (lwS 4 (lwS 4 (lwS 2 (lwS 2 (lwS 2 (lwS 2 (lwS 2 u2))))))) : Nat) : Int)]) rfl hsv rfl ⟨rfl, rfl, rfl, rfl, rfl, rfl, rfl, rfl, trivial⟩ rfl rfl rfl (by omega) (by omega) rfl rfl) ?_ ?_
   ·
    rintro _ _ ⟨vn9, Hn, hn9, rfl, rfl⟩; infer_instance
   rintro _ _ ⟨vn9, Hn, hn9, rfl, rfl⟩
   refine AnyH.app ?_
   have hsn : Slc 61 8 vn9 (k2.length + 1) (cel (cE fsP) (k2 ++ [lnEl fsP u2])) Hn := by rw [cel_app, cel_one1]; exact hn9
   obtain ⟨x9, y9, rfl⟩ := hsn.form
   refine Tk 19 rfl rfl (pv_fieldAddr0 rfl rfl) rfl ?_
   refine AnyH.one 20 (by kernel_rfl) ?_
   refine Turn.ef rfl rfl (ef_store1 rfl rfl (by first | rfl | assumption) (by first | rfl | assumption)) ?_ ?_
   ·
    rintro _ _ ⟨rfl, rfl⟩; infer_instance
   rintro _ _ ⟨rfl, rfl⟩
   refine AnyH.done (by kernel_rfl) ?_
   refine Ends.block_normal ?_
   refine Ends.seq ?_
   refine Wp.region ?_
   refine Om1 rfl rfl ?_
   refine Ops.pv (pv_sub rfl rfl (w64n (k := i) (by omega) (by omega))) rfl ?_
   refine Oa1 rfl rfl ?_
   refine Ops.nil ?_
   refine Ends.goes ?_
   refine Goes.back (hK (i, (lwS 2 (lwS 4 (lwS 4 (lwS 2 (lwS 2 (lwS 2 (lwS 2 (lwS 2 u2)))))))), k2 ++ [lnEl fsP u2], .slice x9 (k2.length + 1) y9, Hn) ⟨by dsimp only; rw [List.length_append, List.length_singleton]; omega, (lwS_le (lwS_le (lwS_le (lwS_le (lwS_le (lwS_le (lwS_le (lwS_le hu2)))))))), (lnI_step hnb).symm.trans hln, by rw [List.length_append]; exact hsn⟩ (by dsimp only; omega)) ⟨rfl, rfl, rfl, rfl, trivial⟩
  refine Turn.ef rfl rfl (ef_call (tr_rwordS b2 4 (lwS 2 (lwS 2 (lwS 2 (lwS 2 (lwS 2 u2))))) (by decide) (by decide) (lwS_le (lwS_le (lwS_le (lwS_le (lwS_le hu2)))))) rfl rfl) ?_ ?_
  ·
   rintro _ _ ⟨_, _, ⟨rfl, rfl⟩, rfl, rfl⟩; infer_instance
  rintro _ _ ⟨_, _, ⟨rfl, rfl⟩, rfl, rfl⟩
  refine AnyH.app ?_
  refine AnyH.two 1 12 (by kernel_rfl) ?_ ?_
  ·
   refine Turn.ef rfl rfl (ef_pv (pv_load rfl rfl rfl) rfl) ?_ ?_
   ·
    rintro _ _ ⟨rfl, rfl⟩; infer_instance
   rintro _ _ ⟨rfl, rfl⟩
   refine AnyH.one 12 (by kernel_rfl) ?_
   refine Turn.ef rfl rfl (ef_call (tr_rwordS b2 4 (lwS 4 (lwS 2 (lwS 2 (lwS 2 (lwS 2 (lwS 2 u2)))))) (by decide) (by decide) (lwS_le (lwS_le (lwS_le (lwS_le (lwS_le (lwS_le hu2))))))) rfl rfl) ?_ ?_
   ·
    rintro _ _ ⟨_, _, ⟨rfl, rfl⟩, rfl, rfl⟩; infer_instance
   rintro _ _ ⟨_, _, ⟨rfl, rfl⟩, rfl, rfl⟩
   refine AnyH.app ?_
   refine AnyH.one 14 (by kernel_rfl) ?_
   refine Turn.ef rfl rfl (ef_call (tr_rtwoS b2 (lwS 4 (lwS 4 (lwS 2 (lwS 2 (lwS 2 (lwS 2 (lwS 2 u2))))))) (lwS_le (lwS_le (lwS_le (lwS_le (lwS_le (lwS_le (lwS_le hu2)))))))) rfl rfl) ?_ ?_
   ·
    rintro _ _ ⟨_, _, ⟨rfl, rfl⟩, rfl, rfl⟩; infer_instance
   rintro _ _ ⟨_, _, ⟨rfl, rfl⟩, rfl, rfl⟩
   refine AnyH.app ?_
   refine Tk 15 rfl rfl (pv_build rfl) rfl ?_
   refine Tk 16 rfl rfl (pv_build rfl) rfl ?_
   refine AnyH.one 17 (by kernel_rfl) ?_
   refine Turn.ef rfl rfl (ef_buildSlice1 (k := 8) rfl rfl rfl rfl rfl) ?_ ?_
   ·
    rintro _ _ ⟨b14, rfl, rfl⟩; infer_instance
   rintro _ _ ⟨b14, rfl, rfl⟩
   refine AnyH.one 18 (by kernel_rfl) ?_
   refine Turn.ef rfl rfl (ef_append (H := G2) (xs := [.int .i64 ((lwV 2 u2 : Nat) : Int), .int .i64 ((lwV 2 (lwS 2 u2) : Nat) : Int), .int .i64 ((lwV 2 (lwS 2 (lwS 2 u2)) : Nat) : Int), .int .i64 ((lwV 2 (lwS 2 (lwS 2 (lwS 2 u2))) : Nat) : Int), .int .i64 ((lwV 2 (lwS 2 (lwS 2 (lwS 2 (lwS 2 u2)))) : Nat) : Int), .int .u64 ((lwV 4 (lwS 2 (lwS 2 (lwS 2 (lwS 2 (lwS 2 u2))))) : Nat) : Int), .int .u64 ((lwV 4 (lwS 4 (lwS 2 (lwS 2 (lwS 2 (lwS 2 (lwS 2 u2)))))) : Nat) : Int), .int .i64 ((lwV 2 (lwS 4 (lwS 4 (lwS 2 (lwS 2 (lwS 2 (lwS 2 (lwS 2 u2))))))) : Nat) : Int)]) rfl hsv rfl ⟨rfl, rfl, rfl, rfl, rfl, rfl, rfl, rfl, trivial⟩ rfl rfl rfl (by omega) (by omega) rfl rfl) ?_ ?_
   ·
    rintro _ _ ⟨vn10, Hn, hn10, rfl, rfl⟩; infer_instance
   rintro _ _ ⟨vn10, Hn, hn10, rfl, rfl⟩
   refine AnyH.app ?_
   have hsn : Slc 61 8 vn10 (k2.length + 1) (cel (cE fsP) (k2 ++ [lnEl fsP u2])) Hn := by rw [cel_app, cel_one1]; exact hn10
   obtain ⟨x9, y9, rfl⟩ := hsn.form
   refine Tk 19 rfl rfl (pv_fieldAddr0 rfl rfl) rfl ?_
   refine AnyH.one 20 (by kernel_rfl) ?_
   refine Turn.ef rfl rfl (ef_store1 rfl rfl (by first | rfl | assumption) (by first | rfl | assumption)) ?_ ?_
   ·
    rintro _ _ ⟨rfl, rfl⟩; infer_instance
   rintro _ _ ⟨rfl, rfl⟩
   refine AnyH.done (by kernel_rfl) ?_
   refine Ends.block_normal ?_
   refine Ends.seq ?_
   refine Wp.region ?_
   refine Om1 rfl rfl ?_
   refine Ops.pv (pv_sub rfl rfl (w64n (k := i) (by omega) (by omega))) rfl ?_
   refine Oa1 rfl rfl ?_
   refine Ops.nil ?_
   refine Ends.goes ?_
   refine Goes.back (hK (i, (lwS 2 (lwS 4 (lwS 4 (lwS 2 (lwS 2 (lwS 2 (lwS 2 (lwS 2 u2)))))))), k2 ++ [lnEl fsP u2], .slice x9 (k2.length + 1) y9, Hn) ⟨by dsimp only; rw [List.length_append, List.length_singleton]; omega, (lwS_le (lwS_le (lwS_le (lwS_le (lwS_le (lwS_le (lwS_le (lwS_le hu2)))))))), (lnI_step hnb).symm.trans hln, by rw [List.length_append]; exact hsn⟩ (by dsimp only; omega)) ⟨rfl, rfl, rfl, rfl, trivial⟩
  refine Turn.ef rfl rfl (ef_call (tr_rwordS b2 4 (lwS 4 (lwS 2 (lwS 2 (lwS 2 (lwS 2 (lwS 2 u2)))))) (by decide) (by decide) (lwS_le (lwS_le (lwS_le (lwS_le (lwS_le (lwS_le hu2))))))) rfl rfl) ?_ ?_
  ·
   rintro _ _ ⟨_, _, ⟨rfl, rfl⟩, rfl, rfl⟩; infer_instance
  rintro _ _ ⟨_, _, ⟨rfl, rfl⟩, rfl, rfl⟩
  refine AnyH.app ?_
  refine AnyH.two 1 14 (by kernel_rfl) ?_ ?_
  ·
   refine Turn.ef rfl rfl (ef_pv (pv_load rfl rfl rfl) rfl) ?_ ?_
   ·
    rintro _ _ ⟨rfl, rfl⟩; infer_instance
   rintro _ _ ⟨rfl, rfl⟩
   refine AnyH.one 14 (by kernel_rfl) ?_
   refine Turn.ef rfl rfl (ef_call (tr_rtwoS b2 (lwS 4 (lwS 4 (lwS 2 (lwS 2 (lwS 2 (lwS 2 (lwS 2 u2))))))) (lwS_le (lwS_le (lwS_le (lwS_le (lwS_le (lwS_le (lwS_le hu2)))))))) rfl rfl) ?_ ?_
   ·
    rintro _ _ ⟨_, _, ⟨rfl, rfl⟩, rfl, rfl⟩; infer_instance
   rintro _ _ ⟨_, _, ⟨rfl, rfl⟩, rfl, rfl⟩
   refine AnyH.app ?_
   refine Tk 15 rfl rfl (pv_build rfl) rfl ?_
   refine Tk 16 rfl rfl (pv_build rfl) rfl ?_
   refine AnyH.one 17 (by kernel_rfl) ?_
   refine Turn.ef rfl rfl (ef_buildSlice1 (k := 8) rfl rfl rfl rfl rfl) ?_ ?_
   ·
    rintro _ _ ⟨b15, rfl, rfl⟩; infer_instance
   rintro _ _ ⟨b15, rfl, rfl⟩
   refine AnyH.one 18 (by kernel_rfl) ?_
   refine Turn.ef rfl rfl (ef_append (H := G2) (xs := [.int .i64 ((lwV 2 u2 : Nat) : Int), .int .i64 ((lwV 2 (lwS 2 u2) : Nat) : Int), .int .i64 ((lwV 2 (lwS 2 (lwS 2 u2)) : Nat) : Int), .int .i64 ((lwV 2 (lwS 2 (lwS 2 (lwS 2 u2))) : Nat) : Int), .int .i64 ((lwV 2 (lwS 2 (lwS 2 (lwS 2 (lwS 2 u2)))) : Nat) : Int), .int .u64 ((lwV 4 (lwS 2 (lwS 2 (lwS 2 (lwS 2 (lwS 2 u2))))) : Nat) : Int), .int .u64 ((lwV 4 (lwS 4 (lwS 2 (lwS 2 (lwS 2 (lwS 2 (lwS 2 u2)))))) : Nat) : Int), .int .i64 ((lwV 2 (lwS 4 (lwS 4 (lwS 2 (lwS 2 (lwS 2 (lwS 2 (lwS 2 u2))))))) : Nat) : Int)]) rfl hsv rfl ⟨rfl, rfl, rfl, rfl, rfl, rfl, rfl, rfl, trivial⟩ rfl rfl rfl (by omega) (by omega) rfl rfl) ?_ ?_
   ·
    rintro _ _ ⟨vn11, Hn, hn11, rfl, rfl⟩; infer_instance
   rintro _ _ ⟨vn11, Hn, hn11, rfl, rfl⟩
   refine AnyH.app ?_
   have hsn : Slc 61 8 vn11 (k2.length + 1) (cel (cE fsP) (k2 ++ [lnEl fsP u2])) Hn := by rw [cel_app, cel_one1]; exact hn11
   obtain ⟨x9, y9, rfl⟩ := hsn.form
   refine Tk 19 rfl rfl (pv_fieldAddr0 rfl rfl) rfl ?_
   refine AnyH.one 20 (by kernel_rfl) ?_
   refine Turn.ef rfl rfl (ef_store1 rfl rfl (by first | rfl | assumption) (by first | rfl | assumption)) ?_ ?_
   ·
    rintro _ _ ⟨rfl, rfl⟩; infer_instance
   rintro _ _ ⟨rfl, rfl⟩
   refine AnyH.done (by kernel_rfl) ?_
   refine Ends.block_normal ?_
   refine Ends.seq ?_
   refine Wp.region ?_
   refine Om1 rfl rfl ?_
   refine Ops.pv (pv_sub rfl rfl (w64n (k := i) (by omega) (by omega))) rfl ?_
   refine Oa1 rfl rfl ?_
   refine Ops.nil ?_
   refine Ends.goes ?_
   refine Goes.back (hK (i, (lwS 2 (lwS 4 (lwS 4 (lwS 2 (lwS 2 (lwS 2 (lwS 2 (lwS 2 u2)))))))), k2 ++ [lnEl fsP u2], .slice x9 (k2.length + 1) y9, Hn) ⟨by dsimp only; rw [List.length_append, List.length_singleton]; omega, (lwS_le (lwS_le (lwS_le (lwS_le (lwS_le (lwS_le (lwS_le (lwS_le hu2)))))))), (lnI_step hnb).symm.trans hln, by rw [List.length_append]; exact hsn⟩ (by dsimp only; omega)) ⟨rfl, rfl, rfl, rfl, trivial⟩
  refine Turn.ef rfl rfl (ef_call (tr_rtwoS b2 (lwS 4 (lwS 4 (lwS 2 (lwS 2 (lwS 2 (lwS 2 (lwS 2 u2))))))) (lwS_le (lwS_le (lwS_le (lwS_le (lwS_le (lwS_le (lwS_le hu2)))))))) rfl rfl) ?_ ?_
  ·
   rintro _ _ ⟨_, _, ⟨rfl, rfl⟩, rfl, rfl⟩; infer_instance
  rintro _ _ ⟨_, _, ⟨rfl, rfl⟩, rfl, rfl⟩
  refine AnyH.app ?_
  refine Tk 15 rfl rfl (pv_build rfl) rfl ?_
  refine Tk 16 rfl rfl (pv_build rfl) rfl ?_
  refine AnyH.two 1 17 (by kernel_rfl) ?_ ?_
  ·
   refine Turn.ef rfl rfl (ef_pv (pv_load rfl rfl rfl) rfl) ?_ ?_
   ·
    rintro _ _ ⟨rfl, rfl⟩; infer_instance
   rintro _ _ ⟨rfl, rfl⟩
   refine AnyH.one 17 (by kernel_rfl) ?_
   refine Turn.ef rfl rfl (ef_buildSlice1 (k := 8) rfl rfl rfl rfl rfl) ?_ ?_
   ·
    rintro _ _ ⟨b16, rfl, rfl⟩; infer_instance
   rintro _ _ ⟨b16, rfl, rfl⟩
   refine AnyH.one 18 (by kernel_rfl) ?_
   refine Turn.ef rfl rfl (ef_append (H := G2) (xs := [.int .i64 ((lwV 2 u2 : Nat) : Int), .int .i64 ((lwV 2 (lwS 2 u2) : Nat) : Int), .int .i64 ((lwV 2 (lwS 2 (lwS 2 u2)) : Nat) : Int), .int .i64 ((lwV 2 (lwS 2 (lwS 2 (lwS 2 u2))) : Nat) : Int), .int .i64 ((lwV 2 (lwS 2 (lwS 2 (lwS 2 (lwS 2 u2)))) : Nat) : Int), .int .u64 ((lwV 4 (lwS 2 (lwS 2 (lwS 2 (lwS 2 (lwS 2 u2))))) : Nat) : Int), .int .u64 ((lwV 4 (lwS 4 (lwS 2 (lwS 2 (lwS 2 (lwS 2 (lwS 2 u2)))))) : Nat) : Int), .int .i64 ((lwV 2 (lwS 4 (lwS 4 (lwS 2 (lwS 2 (lwS 2 (lwS 2 (lwS 2 u2))))))) : Nat) : Int)]) rfl hsv rfl ⟨rfl, rfl, rfl, rfl, rfl, rfl, rfl, rfl, trivial⟩ rfl rfl rfl (by omega) (by omega) rfl rfl) ?_ ?_
   ·
    rintro _ _ ⟨vn12, Hn, hn12, rfl, rfl⟩; infer_instance
   rintro _ _ ⟨vn12, Hn, hn12, rfl, rfl⟩
   refine AnyH.app ?_
   have hsn : Slc 61 8 vn12 (k2.length + 1) (cel (cE fsP) (k2 ++ [lnEl fsP u2])) Hn := by rw [cel_app, cel_one1]; exact hn12
   obtain ⟨x9, y9, rfl⟩ := hsn.form
   refine Tk 19 rfl rfl (pv_fieldAddr0 rfl rfl) rfl ?_
   refine AnyH.one 20 (by kernel_rfl) ?_
   refine Turn.ef rfl rfl (ef_store1 rfl rfl (by first | rfl | assumption) (by first | rfl | assumption)) ?_ ?_
   ·
    rintro _ _ ⟨rfl, rfl⟩; infer_instance
   rintro _ _ ⟨rfl, rfl⟩
   refine AnyH.done (by kernel_rfl) ?_
   refine Ends.block_normal ?_
   refine Ends.seq ?_
   refine Wp.region ?_
   refine Om1 rfl rfl ?_
   refine Ops.pv (pv_sub rfl rfl (w64n (k := i) (by omega) (by omega))) rfl ?_
   refine Oa1 rfl rfl ?_
   refine Ops.nil ?_
   refine Ends.goes ?_
   refine Goes.back (hK (i, (lwS 2 (lwS 4 (lwS 4 (lwS 2 (lwS 2 (lwS 2 (lwS 2 (lwS 2 u2)))))))), k2 ++ [lnEl fsP u2], .slice x9 (k2.length + 1) y9, Hn) ⟨by dsimp only; rw [List.length_append, List.length_singleton]; omega, (lwS_le (lwS_le (lwS_le (lwS_le (lwS_le (lwS_le (lwS_le (lwS_le hu2)))))))), (lnI_step hnb).symm.trans hln, by rw [List.length_append]; exact hsn⟩ (by dsimp only; omega)) ⟨rfl, rfl, rfl, rfl, trivial⟩
  refine Turn.ef rfl rfl (ef_buildSlice1 (k := 8) rfl rfl rfl rfl rfl) ?_ ?_
  ·
   rintro _ _ ⟨b17, rfl, rfl⟩; infer_instance
  rintro _ _ ⟨b17, rfl, rfl⟩
  refine AnyH.one 1 (by kernel_rfl) ?_
  refine Turn.ef rfl rfl (ef_pv (pv_load rfl rfl rfl) rfl) ?_ ?_
  ·
   rintro _ _ ⟨rfl, rfl⟩; infer_instance
  rintro _ _ ⟨rfl, rfl⟩
  refine AnyH.one 18 (by kernel_rfl) ?_
  refine Turn.ef rfl rfl (ef_append (H := G2) (xs := [.int .i64 ((lwV 2 u2 : Nat) : Int), .int .i64 ((lwV 2 (lwS 2 u2) : Nat) : Int), .int .i64 ((lwV 2 (lwS 2 (lwS 2 u2)) : Nat) : Int), .int .i64 ((lwV 2 (lwS 2 (lwS 2 (lwS 2 u2))) : Nat) : Int), .int .i64 ((lwV 2 (lwS 2 (lwS 2 (lwS 2 (lwS 2 u2)))) : Nat) : Int), .int .u64 ((lwV 4 (lwS 2 (lwS 2 (lwS 2 (lwS 2 (lwS 2 u2))))) : Nat) : Int), .int .u64 ((lwV 4 (lwS 4 (lwS 2 (lwS 2 (lwS 2 (lwS 2 (lwS 2 u2)))))) : Nat) : Int), .int .i64 ((lwV 2 (lwS 4 (lwS 4 (lwS 2 (lwS 2 (lwS 2 (lwS 2 (lwS 2 u2))))))) : Nat) : Int)]) rfl hsv rfl ⟨rfl, rfl, rfl, rfl, rfl, rfl, rfl, rfl, trivial⟩ rfl rfl rfl (by omega) (by omega) rfl rfl) ?_ ?_
  ·
   rintro _ _ ⟨vn13, Hn, hn13, rfl, rfl⟩; infer_instance
  rintro _ _ ⟨vn13, Hn, hn13, rfl, rfl⟩
  refine AnyH.app ?_
  have hsn : Slc 61 8 vn13 (k2.length + 1) (cel (cE fsP) (k2 ++ [lnEl fsP u2])) Hn := by rw [cel_app, cel_one1]; exact hn13
  obtain ⟨x9, y9, rfl⟩ := hsn.form
  refine Tk 19 rfl rfl (pv_fieldAddr0 rfl rfl) rfl ?_
  refine AnyH.one 20 (by kernel_rfl) ?_
  refine Turn.ef rfl rfl (ef_store1 rfl rfl (by first | rfl | assumption) (by first | rfl | assumption)) ?_ ?_
  ·
   rintro _ _ ⟨rfl, rfl⟩; infer_instance
  rintro _ _ ⟨rfl, rfl⟩
  refine AnyH.done (by kernel_rfl) ?_
  refine Ends.block_normal ?_
  refine Ends.seq ?_
  refine Wp.region ?_
  refine Om1 rfl rfl ?_
  refine Ops.pv (pv_sub rfl rfl (w64n (k := i) (by omega) (by omega))) rfl ?_
  refine Oa1 rfl rfl ?_
  refine Ops.nil ?_
  refine Ends.goes ?_
  refine Goes.back (hK (i, (lwS 2 (lwS 4 (lwS 4 (lwS 2 (lwS 2 (lwS 2 (lwS 2 (lwS 2 u2)))))))), k2 ++ [lnEl fsP u2], .slice x9 (k2.length + 1) y9, Hn) ⟨by dsimp only; rw [List.length_append, List.length_singleton]; omega, (lwS_le (lwS_le (lwS_le (lwS_le (lwS_le (lwS_le (lwS_le (lwS_le hu2)))))))), (lnI_step hnb).symm.trans hln, by rw [List.length_append]; exact hsn⟩ (by dsimp only; omega)) ⟨rfl, rfl, rfl, rfl, trivial⟩
 have hz : i = 0 ∨ u2.1 = true := by
  rcases Nat.eq_zero_or_pos i with h | h
  ·
   exact .inl h
  ·
   right; apply Classical.byContradiction; intro hb; exact absurd (⟨by omega, hb⟩ : (i : Int) > 0 ∧ ¬ u2.1 = true) (by assumption)
 have hL2 : lnL fsP u1 = (k2, u2) := hln.symm.trans (lnI_stop hz)
 obtain ⟨p2, q2, rfl⟩ := hsv.form
 have hg2 := hsv
 refine Wp.exit ?_
 refine Ends.then_exit ?_
 refine Ends.then_exit ?_
 refine Ends.block_hit ?_
 refine Ends.seq ?_
 refine Wp.seq ?_
 refine Wr ?_
 refine Om1 rfl rfl ?_
 refine Ops.ef rfl (ef_call (tr_rtwoS b2 u2 hu2) rfl rfl) ?_
 rintro _ _ ⟨_, _, ⟨rfl, rfl⟩, rfl, rfl⟩
 refine Ops.app ?_
 refine Oa1 rfl rfl ?_
 refine On ?_
 refine Wp.block ?_
 refine Wp.loopK (σ := Nat × St × List (El fsM) × Value × Hp) [(2, _), (4, _), (5, _)] (fun s => [(9, .int .i64 s.1)]) (fun s => rdB b2 s.2.1 :: ((b3, .cells [.slice p1 k1.length q1, .slice p2 k2.length q2, s.2.2.2.1, .slice none 0 0, .slice none 0 0, .slice none 0 0, .slice none 0 0].toArray 30) :: ((b1, .cells [.slice none 0 0, .slice none 0 0, .slice none 0 0, .slice none 0 0, .slice none 0 0, .slice none 0 0, .slice none 0 0].toArray 30) :: (G1 ++ (G2 ++ (s.2.2.2.2 ++ F)))))) (fun s => s.2.2.1.length + s.1 ≤ 65535 ∧ s.2.1.2.length ≤ 2 ^ 40 ∧ lnI fsM s.1 s.2.1 s.2.2.1 = lnL fsM u2 ∧ Slc 64 4 s.2.2.2.1 s.2.2.1.length (cel (cE fsM) s.2.2.1) s.2.2.2.2) (fun s => s.1) (lwV 2 u2, lwS 2 u2, [], .slice none 0 0, []) ⟨by have := lwV2i u2; dsimp only [List.length_nil]; omega, lwS_le hu2, rfl, Slc.nil _ _⟩ ⟨rfl, rfl, rfl, trivial⟩ ⟨rfl, trivial⟩ (by intro w ho; (try dsimp only [List.nil_append, List.cons_append]); exact Drop.own ho) ?_
 rintro ⟨i, u3, k3, vv, G3⟩ KK ⟨hc3, hu3, hln, hsv⟩ hK
 dsimp only [List.cons_append, List.nil_append] at hK ⊢
 dsimp only at hc3 hu3 hln hsv ⊢
 refine Wp.seq ?_
 refine Wr ?_
 refine Om1 rfl rfl ?_
 refine Ops.pv (pv_gtr rfl rfl) rfl ?_
 refine Om1 rfl rfl ?_
 refine Ops.pvc rfl rfl (fun hg => pv_move rfl) rfl ?_
 refine Ops.pvc rfl rfl (fun hg => Pv.setE (t := 98) rfl (cv_pos hg) (pv_nilCheck rfl)) rfl ?_
 refine Ops.pvc rfl rfl (fun hg => Pv.setE (t := 98) rfl (cv_pos hg) (Pv.setE (t := 99) rfl (cv_pos hg) (pv_fieldAddr0 rfl rfl))) rfl ?_
 refine Ops.pvc rfl rfl (fun hg => Pv.setE (t := 98) rfl (cv_pos hg) (Pv.setE (t := 99) rfl (cv_pos hg) (Pv.setE (t := 100) rfl (cv_pos hg) (pv_load (v := .bool (decide (u3.1 = true))) rfl rfl (nth_dec rfl))))) rfl ?_
 refine Ops.pvc rfl rfl (fun hg => Pv.setE (t := 98) rfl (cv_pos hg) (Pv.setE (t := 99) rfl (cv_pos hg) (Pv.setE (t := 100) rfl (cv_pos hg) (Pv.setE (t := 101) rfl (cv_pos hg) (pv_not_dec rfl))))) rfl ?_
 refine Ops.pv (pv_pick_and rfl rfl) rfl ?_
 refine On ?_
 refine Wp.cond_dect rfl (fun h4 => ?_) (fun h4 => ?_)
 ·
  obtain ⟨hi0, hnb⟩ : (i : Int) > 0 ∧ ¬ u3.1 = true := by assumption
  obtain ⟨i, rfl⟩ : ∃ q, i = q + 1 := ⟨i - 1, by omega⟩
  refine Wp.skip ?_
  refine Ends.seq ?_
  refine Wp.seq ?_
  refine Wp.block ?_
  refine Wr ?_
  refine Om1 rfl rfl ?_
  refine Ops.ef rfl (ef_call (tr_rtwoS b2 u3 hu3) rfl rfl) ?_
  rintro _ _ ⟨_, _, ⟨rfl, rfl⟩, rfl, rfl⟩
  refine Ops.app ?_
  refine Om1 rfl rfl ?_
  refine Ops.ef rfl (ef_call (tr_rtwoS b2 (lwS 2 u3) (lwS_le hu3)) rfl rfl) ?_
  rintro _ _ ⟨_, _, ⟨rfl, rfl⟩, rfl, rfl⟩
  refine Ops.app ?_
  refine Om1 rfl rfl ?_
  refine Ops.ef rfl (ef_call (tr_rtwoS b2 (lwS 2 (lwS 2 u3)) (lwS_le (lwS_le hu3))) rfl rfl) ?_
  rintro _ _ ⟨_, _, ⟨rfl, rfl⟩, rfl, rfl⟩
  refine Ops.app ?_
  refine Ops.pv (pv_build rfl) rfl ?_
  refine Ops.ef rfl (ef_allocK tyZ64 rfl) ?_
  rintro _ _ ⟨b18, rfl, rfl⟩
  refine Ops.ef rfl (ef_storeK rfl rfl rfl rfl) ?_
  rintro _ _ ⟨rfl, rfl⟩
  refine On ?_
  refine Wr ?_
  refine Om1 rfl rfl ?_
  refine Ops.ef rfl (ef_call (tr_rwordS b2 1 (lwS 2 (lwS 2 (lwS 2 u3))) (by decide) (by decide) (lwS_le (lwS_le (lwS_le hu3)))) rfl rfl) ?_
  rintro _ _ ⟨_, _, ⟨rfl, rfl⟩, rfl, rfl⟩
  refine Ops.app ?_
  refine Oa1 rfl rfl ?_
  refine On ?_
  refine Wr ?_
  refine Om1 rfl rfl ?_
  refine Ops.pv (pv_eql rfl rfl) rfl ?_
  refine Of1 rfl rfl rfl ?_
  refine Ops.ef rfl (ef_store1 rfl rfl (by first | rfl | assumption) (by first | rfl | assumption)) ?_
  rintro _ _ ⟨rfl, rfl⟩
  refine On ?_
  refine Wr ?_
  refine Om1 rfl rfl ?_
  refine Om1 rfl rfl ?_
  refine Ops.pv (pv_nilCheck rfl) rfl ?_
  refine Of1 rfl rfl rfl ?_
  refine Ops.pv (pv_load (v := .bool (decide ((lwS 1 (lwS 2 (lwS 2 (lwS 2 u3)))).1 = true))) rfl rfl (nth_dec rfl)) rfl ?_
  refine Om1 rfl rfl ?_
  refine Ops.pvcn rfl rfl (fun hg => pv_move rfl) rfl ?_
  refine Ops.pvcn rfl rfl (fun hg => Pv.setE (t := 124) rfl (cv_pos hg) (pv_gtr rfl rfl)) rfl ?_
  refine Ops.pv (pv_pick_or rfl rfl) rfl ?_
  refine Ops.pv (pv_nilCheck rfl) rfl ?_
  refine Of1 rfl rfl rfl ?_
  refine Ops.ef rfl (ef_store1 rfl rfl (by first | rfl | assumption) (by first | rfl | assumption)) ?_
  rintro _ _ ⟨rfl, rfl⟩
  refine On ?_
  refine Wp.region ?_
  refine Of1 rfl rfl rfl ?_
  refine Ol1 rfl rfl rfl rfl ?_
  refine Ops.pv (pv_loadK [_, _, _, _] rfl rfl rfl ⟨rfl, rfl, rfl, rfl, trivial⟩) rfl ?_
  refine Ops.ef rfl (ef_buildSlice1 (k := 4) rfl rfl rfl rfl rfl) ?_
  rintro _ _ ⟨b19, rfl, rfl⟩
  refine Ops.ef rfl (ef_append (H := G3) (xs := [.int .i64 ((lwV 2 u3 : Nat) : Int), .int .i64 ((lwV 2 (lwS 2 u3) : Nat) : Int), .int .i64 ((lwV 2 (lwS 2 (lwS 2 u3)) : Nat) : Int), .bool (decide (((lwV 1 (lwS 2 (lwS 2 (lwS 2 u3))) : Nat) : Int) = 1))]) rfl hsv rfl ⟨rfl, rfl, rfl, rfl, trivial⟩ rfl rfl rfl (by omega) (by omega) rfl rfl) ?_
  rintro _ _ ⟨vn14, Hn, hn14, rfl, rfl⟩
  refine Ops.app ?_
  have hsn : Slc 64 4 vn14 (k3.length + 1) (cel (cE fsM) (k3 ++ [lnEl fsM u3])) Hn := by rw [cel_app, cel_one1, show cE fsM (lnEl fsM u3) = [.int .i64 ((lwV 2 u3 : Nat) : Int), .int .i64 ((lwV 2 (lwS 2 u3) : Nat) : Int), .int .i64 ((lwV 2 (lwS 2 (lwS 2 u3)) : Nat) : Int), .bool (decide (((lwV 1 (lwS 2 (lwS 2 (lwS 2 u3))) : Nat) : Int) = 1))] from by rw [← flg_cell]; rfl]; exact hn14
  obtain ⟨x9, y9, rfl⟩ := hsn.form
  refine Of1 rfl rfl rfl ?_
  refine Ops.ef rfl (ef_store1 rfl rfl (by first | rfl | assumption) (by first | rfl | assumption)) ?_
  rintro _ _ ⟨rfl, rfl⟩
  refine Ops.nil ?_
  refine Ends.block_normal ?_
  refine Ends.seq ?_
  refine Wp.region ?_
  refine Om1 rfl rfl ?_
  refine Ops.pv (pv_sub rfl rfl (w64n (k := i) (by omega) (by omega))) rfl ?_
  refine Oa1 rfl rfl ?_
  refine Ops.nil ?_
  refine Ends.goes ?_
  refine Goes.back (hK (i, (decide ((lwS 1 (lwS 2 (lwS 2 (lwS 2 u3)))).1 = true ∨ ((lwV 1 (lwS 2 (lwS 2 (lwS 2 u3))) : Nat) : Int) > 1), (lwS 1 (lwS 2 (lwS 2 (lwS 2 u3)))).2), k3 ++ [lnEl fsM u3], .slice x9 (k3.length + 1) y9, Hn) ⟨by dsimp only; rw [List.length_append, List.length_singleton]; omega, (lwS_le (lwS_le (lwS_le (lwS_le hu3)))), (lnI_step hnb).symm.trans hln, by rw [List.length_append]; exact hsn⟩ (by dsimp only; omega)) ⟨rfl, rfl, rfl, rfl, trivial⟩
 have hz : i = 0 ∨ u3.1 = true := by
  rcases Nat.eq_zero_or_pos i with h | h
  ·
   exact .inl h
  ·
   right; apply Classical.byContradiction; intro hb; exact absurd (⟨by omega, hb⟩ : (i : Int) > 0 ∧ ¬ u3.1 = true) (by assumption)
 have hL3 : lnL fsM u2 = (k3, u3) := hln.symm.trans (lnI_stop hz)
 obtain ⟨p3, q3, rfl⟩ := hsv.form
 have hg3 := hsv
 refine Wp.exit ?_
 refine Ends.then_exit ?_
 refine Ends.then_exit ?_
 refine Ends.block_hit ?_
 refine Ends.seq ?_
 refine Wp.seq ?_
 refine Wr ?_
 refine Om1 rfl rfl ?_
 refine Ops.ef rfl (ef_call (tr_rtwoS b2 u3 hu3) rfl rfl) ?_
 rintro _ _ ⟨_, _, ⟨rfl, rfl⟩, rfl, rfl⟩
 refine Ops.app ?_
 refine Oa1 rfl rfl ?_
 refine On ?_
 refine Wp.block ?_
 refine Wp.loopK (σ := Nat × St × List (El fsF) × Value × Hp) [(2, _), (4, _), (5, _)] (fun s => [(12, .int .i64 s.1)]) (fun s => rdB b2 s.2.1 :: ((b3, .cells [.slice p1 k1.length q1, .slice p2 k2.length q2, .slice p3 k3.length q3, s.2.2.2.1, .slice none 0 0, .slice none 0 0, .slice none 0 0].toArray 30) :: ((b1, .cells [.slice none 0 0, .slice none 0 0, .slice none 0 0, .slice none 0 0, .slice none 0 0, .slice none 0 0, .slice none 0 0].toArray 30) :: (G1 ++ (G2 ++ (G3 ++ (s.2.2.2.2 ++ F))))))) (fun s => s.2.2.1.length + s.1 ≤ 65535 ∧ s.2.1.2.length ≤ 2 ^ 40 ∧ lnI fsF s.1 s.2.1 s.2.2.1 = lnL fsF u3 ∧ Slc 67 3 s.2.2.2.1 s.2.2.1.length (cel (cE fsF) s.2.2.1) s.2.2.2.2) (fun s => s.1) (lwV 2 u3, lwS 2 u3, [], .slice none 0 0, []) ⟨by have := lwV2i u3; dsimp only [List.length_nil]; omega, lwS_le hu3, rfl, Slc.nil _ _⟩ ⟨rfl, rfl, rfl, trivial⟩ ⟨rfl, trivial⟩ (by intro w ho; (try dsimp only [List.nil_append, List.cons_append]); exact Drop.own ho) ?_
 rintro ⟨i, u4, k4, vv, G4⟩ KK ⟨hc4, hu4, hln, hsv⟩ hK
 dsimp only [List.cons_append, List.nil_append] at hK ⊢
 dsimp only at hc4 hu4 hln hsv ⊢
 refine Wp.seq ?_
 refine Wr ?_
 refine Om1 rfl rfl ?_
 refine Ops.pv (pv_gtr rfl rfl) rfl ?_
 refine Om1 rfl rfl ?_
 refine Ops.pvc rfl rfl (fun hg => pv_move rfl) rfl ?_
 refine Ops.pvc rfl rfl (fun hg => Pv.setE (t := 140) rfl (cv_pos hg) (pv_nilCheck rfl)) rfl ?_
 refine Ops.pvc rfl rfl (fun hg => Pv.setE (t := 140) rfl (cv_pos hg) (Pv.setE (t := 141) rfl (cv_pos hg) (pv_fieldAddr0 rfl rfl))) rfl ?_
 refine Ops.pvc rfl rfl (fun hg => Pv.setE (t := 140) rfl (cv_pos hg) (Pv.setE (t := 141) rfl (cv_pos hg) (Pv.setE (t := 142) rfl (cv_pos hg) (pv_load (v := .bool (decide (u4.1 = true))) rfl rfl (nth_dec rfl))))) rfl ?_
 refine Ops.pvc rfl rfl (fun hg => Pv.setE (t := 140) rfl (cv_pos hg) (Pv.setE (t := 141) rfl (cv_pos hg) (Pv.setE (t := 142) rfl (cv_pos hg) (Pv.setE (t := 143) rfl (cv_pos hg) (pv_not_dec rfl))))) rfl ?_
 refine Ops.pv (pv_pick_and rfl rfl) rfl ?_
 refine On ?_
 refine Wp.cond_dect rfl (fun h5 => ?_) (fun h5 => ?_)
 ·
  obtain ⟨hi0, hnb⟩ : (i : Int) > 0 ∧ ¬ u4.1 = true := by assumption
  obtain ⟨i, rfl⟩ : ∃ q, i = q + 1 := ⟨i - 1, by omega⟩
  refine Wp.skip ?_
  refine Ends.seq ?_
  refine Wp.seq ?_
  refine Wp.block ?_
  refine AnyH.start ([] : Hp) 13 rfl ?_
  refine Tk 0 rfl rfl (pv_fieldAddr0 rfl rfl) rfl ?_
  refine Tk 2 rfl rfl (pv_move rfl) rfl ?_
  refine Tk 4 rfl rfl (pv_move rfl) rfl ?_
  refine Tk 6 rfl rfl (pv_move rfl) rfl ?_
  refine AnyH.two 1 3 (by kernel_rfl) ?_ ?_
  ·
   refine Turn.ef rfl rfl (ef_pv (pv_load rfl rfl rfl) rfl) ?_ ?_
   ·
    rintro _ _ ⟨rfl, rfl⟩; infer_instance
   rintro _ _ ⟨rfl, rfl⟩
   refine AnyH.one 3 (by kernel_rfl) ?_
   refine Turn.ef rfl rfl (ef_call (tr_rtwoS b2 u4 hu4) rfl rfl) ?_ ?_
   ·
    rintro _ _ ⟨_, _, ⟨rfl, rfl⟩, rfl, rfl⟩; infer_instance
   rintro _ _ ⟨_, _, ⟨rfl, rfl⟩, rfl, rfl⟩
   refine AnyH.app ?_
   refine AnyH.one 5 (by kernel_rfl) ?_
   refine Turn.ef rfl rfl (ef_call (tr_rtwoS b2 (lwS 2 u4) (lwS_le hu4)) rfl rfl) ?_ ?_
   ·
    rintro _ _ ⟨_, _, ⟨rfl, rfl⟩, rfl, rfl⟩; infer_instance
   rintro _ _ ⟨_, _, ⟨rfl, rfl⟩, rfl, rfl⟩
   refine AnyH.app ?_
   refine AnyH.one 7 (by kernel_rfl) ?_
   refine Turn.ef rfl rfl (ef_call (tr_rwordS b2 8 (lwS 2 (lwS 2 u4)) (by decide) (by decide) (lwS_le (lwS_le hu4))) rfl rfl) ?_ ?_
   ·
    rintro _ _ ⟨_, _, ⟨rfl, rfl⟩, rfl, rfl⟩; infer_instance
   rintro _ _ ⟨_, _, ⟨rfl, rfl⟩, rfl, rfl⟩
   refine AnyH.app ?_
   refine Tk 8 rfl rfl (pv_build rfl) rfl ?_
   refine AnyH.one 9 (by kernel_rfl) ?_
   refine Turn.ef rfl rfl (ef_buildSlice1 (k := 3) rfl rfl rfl rfl rfl) ?_ ?_
   ·
    rintro _ _ ⟨b20, rfl, rfl⟩; infer_instance
   rintro _ _ ⟨b20, rfl, rfl⟩
   refine AnyH.one 10 (by kernel_rfl) ?_
   refine Turn.ef rfl rfl (ef_append (H := G4) (xs := [.int .i64 ((lwV 2 u4 : Nat) : Int), .int .i64 ((lwV 2 (lwS 2 u4) : Nat) : Int), .int .u64 ((lwV 8 (lwS 2 (lwS 2 u4)) : Nat) : Int)]) rfl hsv rfl ⟨rfl, rfl, rfl, trivial⟩ rfl rfl rfl (by omega) (by omega) rfl rfl) ?_ ?_
   ·
    rintro _ _ ⟨vn15, Hn, hn15, rfl, rfl⟩; infer_instance
   rintro _ _ ⟨vn15, Hn, hn15, rfl, rfl⟩
   refine AnyH.app ?_
   have hsn : Slc 67 3 vn15 (k4.length + 1) (cel (cE fsF) (k4 ++ [lnEl fsF u4])) Hn := by rw [cel_app, cel_one1]; exact hn15
   obtain ⟨x9, y9, rfl⟩ := hsn.form
   refine Tk 11 rfl rfl (pv_fieldAddr0 rfl rfl) rfl ?_
   refine AnyH.one 12 (by kernel_rfl) ?_
   refine Turn.ef rfl rfl (ef_store1 rfl rfl (by first | rfl | assumption) (by first | rfl | assumption)) ?_ ?_
   ·
    rintro _ _ ⟨rfl, rfl⟩; infer_instance
   rintro _ _ ⟨rfl, rfl⟩
   refine AnyH.done (by kernel_rfl) ?_
   refine Ends.block_normal ?_
   refine Ends.seq ?_
   refine Wp.region ?_
   refine Om1 rfl rfl ?_
   refine Ops.pv (pv_sub rfl rfl (w64n (k := i) (by omega) (by omega))) rfl ?_
   refine Oa1 rfl rfl ?_
   refine Ops.nil ?_
   refine Ends.goes ?_
   refine Goes.back (hK (i, (lwS 8 (lwS 2 (lwS 2 u4))), k4 ++ [lnEl fsF u4], .slice x9 (k4.length + 1) y9, Hn) ⟨by dsimp only; rw [List.length_append, List.length_singleton]; omega, (lwS_le (lwS_le (lwS_le hu4))), (lnI_step hnb).symm.trans hln, by rw [List.length_append]; exact hsn⟩ (by dsimp only; omega)) ⟨rfl, rfl, rfl, rfl, trivial⟩
  refine Turn.ef rfl rfl (ef_call (tr_rtwoS b2 u4 hu4) rfl rfl) ?_ ?_
  ·
   rintro _ _ ⟨_, _, ⟨rfl, rfl⟩, rfl, rfl⟩; infer_instance
  rintro _ _ ⟨_, _, ⟨rfl, rfl⟩, rfl, rfl⟩
  refine AnyH.app ?_
  refine AnyH.two 1 5 (by kernel_rfl) ?_ ?_
  ·
   refine Turn.ef rfl rfl (ef_pv (pv_load rfl rfl rfl) rfl) ?_ ?_
   ·
    rintro _ _ ⟨rfl, rfl⟩; infer_instance
   rintro _ _ ⟨rfl, rfl⟩
   refine AnyH.one 5 (by kernel_rfl) ?_
   refine Turn.ef rfl rfl (ef_call (tr_rtwoS b2 (lwS 2 u4) (lwS_le hu4)) rfl rfl) ?_ ?_
   ·
    rintro _ _ ⟨_, _, ⟨rfl, rfl⟩, rfl, rfl⟩; infer_instance
   rintro _ _ ⟨_, _, ⟨rfl, rfl⟩, rfl, rfl⟩
   refine AnyH.app ?_
   refine AnyH.one 7 (by kernel_rfl) ?_
   refine Turn.ef rfl rfl (ef_call (tr_rwordS b2 8 (lwS 2 (lwS 2 u4)) (by decide) (by decide) (lwS_le (lwS_le hu4))) rfl rfl) ?_ ?_
   ·
    rintro _ _ ⟨_, _, ⟨rfl, rfl⟩, rfl, rfl⟩; infer_instance
   rintro _ _ ⟨_, _, ⟨rfl, rfl⟩, rfl, rfl⟩
   refine AnyH.app ?_
   refine Tk 8 rfl rfl (pv_build rfl) rfl ?_
   refine AnyH.one 9 (by kernel_rfl) ?_
   refine Turn.ef rfl rfl (ef_buildSlice1 (k := 3) rfl rfl rfl rfl rfl) ?_ ?_
   ·
    rintro _ _ ⟨b21, rfl, rfl⟩; infer_instance
   rintro _ _ ⟨b21, rfl, rfl⟩
   refine AnyH.one 10 (by kernel_rfl) ?_
   refine Turn.ef rfl rfl (ef_append (H := G4) (xs := [.int .i64 ((lwV 2 u4 : Nat) : Int), .int .i64 ((lwV 2 (lwS 2 u4) : Nat) : Int), .int .u64 ((lwV 8 (lwS 2 (lwS 2 u4)) : Nat) : Int)]) rfl hsv rfl ⟨rfl, rfl, rfl, trivial⟩ rfl rfl rfl (by omega) (by omega) rfl rfl) ?_ ?_
   ·
    rintro _ _ ⟨vn16, Hn, hn16, rfl, rfl⟩; infer_instance
   rintro _ _ ⟨vn16, Hn, hn16, rfl, rfl⟩
   refine AnyH.app ?_
   have hsn : Slc 67 3 vn16 (k4.length + 1) (cel (cE fsF) (k4 ++ [lnEl fsF u4])) Hn := by rw [cel_app, cel_one1]; exact hn16
   obtain ⟨x9, y9, rfl⟩ := hsn.form
   refine Tk 11 rfl rfl (pv_fieldAddr0 rfl rfl) rfl ?_
   refine AnyH.one 12 (by kernel_rfl) ?_
   refine Turn.ef rfl rfl (ef_store1 rfl rfl (by first | rfl | assumption) (by first | rfl | assumption)) ?_ ?_
   ·
    rintro _ _ ⟨rfl, rfl⟩; infer_instance
   rintro _ _ ⟨rfl, rfl⟩
   refine AnyH.done (by kernel_rfl) ?_
   refine Ends.block_normal ?_
   refine Ends.seq ?_
   refine Wp.region ?_
   refine Om1 rfl rfl ?_
   refine Ops.pv (pv_sub rfl rfl (w64n (k := i) (by omega) (by omega))) rfl ?_
   refine Oa1 rfl rfl ?_
   refine Ops.nil ?_
   refine Ends.goes ?_
   refine Goes.back (hK (i, (lwS 8 (lwS 2 (lwS 2 u4))), k4 ++ [lnEl fsF u4], .slice x9 (k4.length + 1) y9, Hn) ⟨by dsimp only; rw [List.length_append, List.length_singleton]; omega, (lwS_le (lwS_le (lwS_le hu4))), (lnI_step hnb).symm.trans hln, by rw [List.length_append]; exact hsn⟩ (by dsimp only; omega)) ⟨rfl, rfl, rfl, rfl, trivial⟩
  refine Turn.ef rfl rfl (ef_call (tr_rtwoS b2 (lwS 2 u4) (lwS_le hu4)) rfl rfl) ?_ ?_
  ·
   rintro _ _ ⟨_, _, ⟨rfl, rfl⟩, rfl, rfl⟩; infer_instance
  rintro _ _ ⟨_, _, ⟨rfl, rfl⟩, rfl, rfl⟩
  refine AnyH.app ?_
  refine AnyH.two 1 7 (by kernel_rfl) ?_ ?_
  ·
   refine Turn.ef rfl rfl (ef_pv (pv_load rfl rfl rfl) rfl) ?_ ?_
   ·
    rintro _ _ ⟨rfl, rfl⟩; infer_instance
   rintro _ _ ⟨rfl, rfl⟩
   refine AnyH.one 7 (by kernel_rfl) ?_
   refine Turn.ef rfl rfl (ef_call (tr_rwordS b2 8 (lwS 2 (lwS 2 u4)) (by decide) (by decide) (lwS_le (lwS_le hu4))) rfl rfl) ?_ ?_
   ·
    rintro _ _ ⟨_, _, ⟨rfl, rfl⟩, rfl, rfl⟩; infer_instance
   rintro _ _ ⟨_, _, ⟨rfl, rfl⟩, rfl, rfl⟩
   refine AnyH.app ?_
   refine Tk 8 rfl rfl (pv_build rfl) rfl ?_
   refine AnyH.one 9 (by kernel_rfl) ?_
   refine Turn.ef rfl rfl (ef_buildSlice1 (k := 3) rfl rfl rfl rfl rfl) ?_ ?_
   ·
    rintro _ _ ⟨b22, rfl, rfl⟩; infer_instance
   rintro _ _ ⟨b22, rfl, rfl⟩
   refine AnyH.one 10 (by kernel_rfl) ?_
   refine Turn.ef rfl rfl (ef_append (H := G4) (xs := [.int .i64 ((lwV 2 u4 : Nat) : Int), .int .i64 ((lwV 2 (lwS 2 u4) : Nat) : Int), .int .u64 ((lwV 8 (lwS 2 (lwS 2 u4)) : Nat) : Int)]) rfl hsv rfl ⟨rfl, rfl, rfl, trivial⟩ rfl rfl rfl (by omega) (by omega) rfl rfl) ?_ ?_
   ·
    rintro _ _ ⟨vn17, Hn, hn17, rfl, rfl⟩; infer_instance
   rintro _ _ ⟨vn17, Hn, hn17, rfl, rfl⟩
   refine AnyH.app ?_
   have hsn : Slc 67 3 vn17 (k4.length + 1) (cel (cE fsF) (k4 ++ [lnEl fsF u4])) Hn := by rw [cel_app, cel_one1]; exact hn17
   obtain ⟨x9, y9, rfl⟩ := hsn.form
   refine Tk 11 rfl rfl (pv_fieldAddr0 rfl rfl) rfl ?_
   refine AnyH.one 12 (by kernel_rfl) ?_
   refine Turn.ef rfl rfl (ef_store1 rfl rfl (by first | rfl | assumption) (by first | rfl | assumption)) ?_ ?_
   ·
    rintro _ _ ⟨rfl, rfl⟩; infer_instance
   rintro _ _ ⟨rfl, rfl⟩
   refine AnyH.done (by kernel_rfl) ?_
   refine Ends.block_normal ?_
   refine Ends.seq ?_
   refine Wp.region ?_
   refine Om1 rfl rfl ?_
   refine Ops.pv (pv_sub rfl rfl (w64n (k := i) (by omega) (by omega))) rfl ?_
   refine Oa1 rfl rfl ?_
   refine Ops.nil ?_
   refine Ends.goes ?_
   refine Goes.back (hK (i, (lwS 8 (lwS 2 (lwS 2 u4))), k4 ++ [lnEl fsF u4], .slice x9 (k4.length + 1) y9, Hn) ⟨by dsimp only; rw [List.length_append, List.length_singleton]; omega, (lwS_le (lwS_le (lwS_le hu4))), (lnI_step hnb).symm.trans hln, by rw [List.length_append]; exact hsn⟩ (by dsimp only; omega)) ⟨rfl, rfl, rfl, rfl, trivial⟩
  refine Turn.ef rfl rfl (ef_call (tr_rwordS b2 8 (lwS 2 (lwS 2 u4)) (by decide) (by decide) (lwS_le (lwS_le hu4))) rfl rfl) ?_ ?_
  ·
   rintro _ _ ⟨_, _, ⟨rfl, rfl⟩, rfl, rfl⟩; infer_instance
  rintro _ _ ⟨_, _, ⟨rfl, rfl⟩, rfl, rfl⟩
  refine AnyH.app ?_
  refine Tk 8 rfl rfl (pv_build rfl) rfl ?_
  refine AnyH.two 1 9 (by kernel_rfl) ?_ ?_
  ·
   refine Turn.ef rfl rfl (ef_pv (pv_load rfl rfl rfl) rfl) ?_ ?_
   ·
    rintro _ _ ⟨rfl, rfl⟩; infer_instance
   rintro _ _ ⟨rfl, rfl⟩
   refine AnyH.one 9 (by kernel_rfl) ?_
   refine Turn.ef rfl rfl (ef_buildSlice1 (k := 3) rfl rfl rfl rfl rfl) ?_ ?_
   ·
    rintro _ _ ⟨b23, rfl, rfl⟩; infer_instance
   rintro _ _ ⟨b23, rfl, rfl⟩
   refine AnyH.one 10 (by kernel_rfl) ?_
   refine Turn.ef rfl rfl (ef_append (H := G4) (xs := [.int .i64 ((lwV 2 u4 : Nat) : Int), .int .i64 ((lwV 2 (lwS 2 u4) : Nat) : Int), .int .u64 ((lwV 8 (lwS 2 (lwS 2 u4)) : Nat) : Int)]) rfl hsv rfl ⟨rfl, rfl, rfl, trivial⟩ rfl rfl rfl (by omega) (by omega) rfl rfl) ?_ ?_
   ·
    rintro _ _ ⟨vn18, Hn, hn18, rfl, rfl⟩; infer_instance
   rintro _ _ ⟨vn18, Hn, hn18, rfl, rfl⟩
   refine AnyH.app ?_
   have hsn : Slc 67 3 vn18 (k4.length + 1) (cel (cE fsF) (k4 ++ [lnEl fsF u4])) Hn := by rw [cel_app, cel_one1]; exact hn18
   obtain ⟨x9, y9, rfl⟩ := hsn.form
   refine Tk 11 rfl rfl (pv_fieldAddr0 rfl rfl) rfl ?_
   refine AnyH.one 12 (by kernel_rfl) ?_
   refine Turn.ef rfl rfl (ef_store1 rfl rfl (by first | rfl | assumption) (by first | rfl | assumption)) ?_ ?_
   ·
    rintro _ _ ⟨rfl, rfl⟩; infer_instance
   rintro _ _ ⟨rfl, rfl⟩
   refine AnyH.done (by kernel_rfl) ?_
   refine Ends.block_normal ?_
   refine Ends.seq ?_
   refine Wp.region ?_
   refine Om1 rfl rfl ?_
   refine Ops.pv (pv_sub rfl rfl (w64n (k := i) (by omega) (by omega))) rfl ?_
   refine Oa1 rfl rfl ?_
   refine Ops.nil ?_
   refine Ends.goes ?_
   refine Goes.back (hK (i, (lwS 8 (lwS 2 (lwS 2 u4))), k4 ++ [lnEl fsF u4], .slice x9 (k4.length + 1) y9, Hn) ⟨by dsimp only; rw [List.length_append, List.length_singleton]; omega, (lwS_le (lwS_le (lwS_le hu4))), (lnI_step hnb).symm.trans hln, by rw [List.length_append]; exact hsn⟩ (by dsimp only; omega)) ⟨rfl, rfl, rfl, rfl, trivial⟩
  refine Turn.ef rfl rfl (ef_buildSlice1 (k := 3) rfl rfl rfl rfl rfl) ?_ ?_
  ·
   rintro _ _ ⟨b24, rfl, rfl⟩; infer_instance
  rintro _ _ ⟨b24, rfl, rfl⟩
  refine AnyH.one 1 (by kernel_rfl) ?_
  refine Turn.ef rfl rfl (ef_pv (pv_load rfl rfl rfl) rfl) ?_ ?_
  ·
   rintro _ _ ⟨rfl, rfl⟩; infer_instance
  rintro _ _ ⟨rfl, rfl⟩
  refine AnyH.one 10 (by kernel_rfl) ?_
  refine Turn.ef rfl rfl (ef_append (H := G4) (xs := [.int .i64 ((lwV 2 u4 : Nat) : Int), .int .i64 ((lwV 2 (lwS 2 u4) : Nat) : Int), .int .u64 ((lwV 8 (lwS 2 (lwS 2 u4)) : Nat) : Int)]) rfl hsv rfl ⟨rfl, rfl, rfl, trivial⟩ rfl rfl rfl (by omega) (by omega) rfl rfl) ?_ ?_
  ·
   rintro _ _ ⟨vn19, Hn, hn19, rfl, rfl⟩; infer_instance
  rintro _ _ ⟨vn19, Hn, hn19, rfl, rfl⟩
  refine AnyH.app ?_
  have hsn : Slc 67 3 vn19 (k4.length + 1) (cel (cE fsF) (k4 ++ [lnEl fsF u4])) Hn := by rw [cel_app, cel_one1]; exact hn19
  obtain ⟨x9, y9, rfl⟩ := hsn.form
  refine Tk 11 rfl rfl (pv_fieldAddr0 rfl rfl) rfl ?_
  refine AnyH.one 12 (by kernel_rfl) ?_
  refine Turn.ef rfl rfl (ef_store1 rfl rfl (by first | rfl | assumption) (by first | rfl | assumption)) ?_ ?_
  ·
   rintro _ _ ⟨rfl, rfl⟩; infer_instance
  rintro _ _ ⟨rfl, rfl⟩
  refine AnyH.done (by kernel_rfl) ?_
  refine Ends.block_normal ?_
  refine Ends.seq ?_
  refine Wp.region ?_
  refine Om1 rfl rfl ?_
  refine Ops.pv (pv_sub rfl rfl (w64n (k := i) (by omega) (by omega))) rfl ?_
  refine Oa1 rfl rfl ?_
  refine Ops.nil ?_
  refine Ends.goes ?_
  refine Goes.back (hK (i, (lwS 8 (lwS 2 (lwS 2 u4))), k4 ++ [lnEl fsF u4], .slice x9 (k4.length + 1) y9, Hn) ⟨by dsimp only; rw [List.length_append, List.length_singleton]; omega, (lwS_le (lwS_le (lwS_le hu4))), (lnI_step hnb).symm.trans hln, by rw [List.length_append]; exact hsn⟩ (by dsimp only; omega)) ⟨rfl, rfl, rfl, rfl, trivial⟩
 have hz : i = 0 ∨ u4.1 = true := by
  rcases Nat.eq_zero_or_pos i with h | h
  ·
   exact .inl h
  ·
   right; apply Classical.byContradiction; intro hb; exact absurd (⟨by omega, hb⟩ : (i : Int) > 0 ∧ ¬ u4.1 = true) (by assumption)
 have hL4 : lnL fsF u3 = (k4, u4) := hln.symm.trans (lnI_stop hz)
 obtain ⟨p4, q4, rfl⟩ := hsv.form
 have hg4 := hsv
 refine Wp.exit ?_
 refine Ends.then_exit ?_
 refine Ends.then_exit ?_
 refine Ends.block_hit ?_
 refine Ends.seq ?_
 refine Wp.seq ?_
 refine Wr ?_
 refine Om1 rfl rfl ?_
 refine Ops.ef rfl (ef_call (tr_rtwoS b2 u4 hu4) rfl rfl) ?_
 rintro _ _ ⟨_, _, ⟨rfl, rfl⟩, rfl, rfl⟩
 refine Ops.app ?_
 refine Oa1 rfl rfl ?_
 refine On ?_
 refine Wp.block ?_
 refine Wp.loopK (σ := Nat × St × List (El fsT) × Value × Hp) [(2, _), (4, _), (5, _)] (fun s => [(13, .int .i64 s.1)]) (fun s => rdB b2 s.2.1 :: ((b3, .cells [.slice p1 k1.length q1, .slice p2 k2.length q2, .slice p3 k3.length q3, .slice p4 k4.length q4, s.2.2.2.1, .slice none 0 0, .slice none 0 0].toArray 30) :: ((b1, .cells [.slice none 0 0, .slice none 0 0, .slice none 0 0, .slice none 0 0, .slice none 0 0, .slice none 0 0, .slice none 0 0].toArray 30) :: (G1 ++ (G2 ++ (G3 ++ (G4 ++ (s.2.2.2.2 ++ F)))))))) (fun s => s.2.2.1.length + s.1 ≤ 65535 ∧ s.2.1.2.length ≤ 2 ^ 40 ∧ lnI fsT s.1 s.2.1 s.2.2.1 = lnL fsT u4 ∧ Slc 70 8 s.2.2.2.1 s.2.2.1.length (cel (cE fsT) s.2.2.1) s.2.2.2.2) (fun s => s.1) (lwV 2 u4, lwS 2 u4, [], .slice none 0 0, []) ⟨by have := lwV2i u4; dsimp only [List.length_nil]; omega, lwS_le hu4, rfl, Slc.nil _ _⟩ ⟨rfl, rfl, rfl, trivial⟩ ⟨rfl, trivial⟩ (by intro w ho; (try dsimp only [List.nil_append, List.cons_append]); exact Drop.own ho) ?_
 rintro ⟨i, u5, k5, vv, G5⟩ KK ⟨hc5, hu5, hln, hsv⟩ hK
 dsimp only [List.cons_append, List.nil_append] at hK ⊢
 dsimp only at hc5 hu5 hln hsv ⊢
 refine Wp.seq ?_
 refine Wr ?_
 refine Om1 rfl rfl ?_
 refine Ops.pv (pv_gtr rfl rfl) rfl ?_
 refine Om1 rfl rfl ?_
 refine Ops.pvc rfl rfl (fun hg => pv_move rfl) rfl ?_
 refine Ops.pvc rfl rfl (fun hg => Pv.setE (t := 165) rfl (cv_pos hg) (pv_nilCheck rfl)) rfl ?_
 refine Ops.pvc rfl rfl (fun hg => Pv.setE (t := 165) rfl (cv_pos hg) (Pv.setE (t := 166) rfl (cv_pos hg) (pv_fieldAddr0 rfl rfl))) rfl ?_
 refine Ops.pvc rfl rfl (fun hg => Pv.setE (t := 165) rfl (cv_pos hg) (Pv.setE (t := 166) rfl (cv_pos hg) (Pv.setE (t := 167) rfl (cv_pos hg) (pv_load (v := .bool (decide (u5.1 = true))) rfl rfl (nth_dec rfl))))) rfl ?_
 refine Ops.pvc rfl rfl (fun hg => Pv.setE (t := 165) rfl (cv_pos hg) (Pv.setE (t := 166) rfl (cv_pos hg) (Pv.setE (t := 167) rfl (cv_pos hg) (Pv.setE (t := 168) rfl (cv_pos hg) (pv_not_dec rfl))))) rfl ?_
 refine Ops.pv (pv_pick_and rfl rfl) rfl ?_
 refine On ?_
 refine Wp.cond_dect rfl (fun h6 => ?_) (fun h6 => ?_)
 ·
  obtain ⟨hi0, hnb⟩ : (i : Int) > 0 ∧ ¬ u5.1 = true := by assumption
  obtain ⟨i, rfl⟩ : ∃ q, i = q + 1 := ⟨i - 1, by omega⟩
  refine Wp.skip ?_
  refine Ends.seq ?_
  refine Wp.seq ?_
  refine Wp.block ?_
  refine AnyH.start ([] : Hp) 24 rfl ?_
  refine Tk 0 rfl rfl (pv_fieldAddr0 rfl rfl) rfl ?_
  refine Tk 2 rfl rfl (pv_move rfl) rfl ?_
  refine Tk 4 rfl rfl (pv_move rfl) rfl ?_
  refine Tk 6 rfl rfl (pv_move rfl) rfl ?_
  refine Tk 8 rfl rfl (pv_move rfl) rfl ?_
  refine Tk 10 rfl rfl (pv_move rfl) rfl ?_
  refine Tk 12 rfl rfl (pv_move rfl) rfl ?_
  refine Tk 14 rfl rfl (pv_move rfl) rfl ?_
  refine Tk 16 rfl rfl (pv_move rfl) rfl ?_
  refine AnyH.two 1 3 (by kernel_rfl) ?_ ?_
  ·
   refine Turn.ef rfl rfl (ef_pv (pv_load rfl rfl rfl) rfl) ?_ ?_
   ·
    rintro _ _ ⟨rfl, rfl⟩; infer_instance
   rintro _ _ ⟨rfl, rfl⟩
   refine AnyH.one 3 (by kernel_rfl) ?_
   refine Turn.ef rfl rfl (ef_call (tr_rtwoS b2 u5 hu5) rfl rfl) ?_ ?_
   ·
    rintro _ _ ⟨_, _, ⟨rfl, rfl⟩, rfl, rfl⟩; infer_instance
   rintro _ _ ⟨_, _, ⟨rfl, rfl⟩, rfl, rfl⟩
   refine AnyH.app ?_
   refine AnyH.one 5 (by kernel_rfl) ?_
   refine Turn.ef rfl rfl (ef_call (tr_rtwoS b2 (lwS 2 u5) (lwS_le hu5)) rfl rfl) ?_ ?_
   ·
    rintro _ _ ⟨_, _, ⟨rfl, rfl⟩, rfl, rfl⟩; infer_instance
   rintro _ _ ⟨_, _, ⟨rfl, rfl⟩, rfl, rfl⟩
   refine AnyH.app ?_
   refine AnyH.one 7 (by kernel_rfl) ?_
   refine Turn.ef rfl rfl (ef_call (tr_rtwoS b2 (lwS 2 (lwS 2 u5)) (lwS_le (lwS_le hu5))) rfl rfl) ?_ ?_
   ·
    rintro _ _ ⟨_, _, ⟨rfl, rfl⟩, rfl, rfl⟩; infer_instance
   rintro _ _ ⟨_, _, ⟨rfl, rfl⟩, rfl, rfl⟩
   refine AnyH.app ?_
   refine AnyH.one 9 (by kernel_rfl) ?_
   refine Turn.ef rfl rfl (ef_call (tr_rtwoS b2 (lwS 2 (lwS 2 (lwS 2 u5))) (lwS_le (lwS_le (lwS_le hu5)))) rfl rfl) ?_ ?_
   ·
    rintro _ _ ⟨_, _, ⟨rfl, rfl⟩, rfl, rfl⟩; infer_instance
   rintro _ _ ⟨_, _, ⟨rfl, rfl⟩, rfl, rfl⟩
   refine AnyH.app ?_
   refine AnyH.one 11 (by kernel_rfl) ?_
   refine Turn.ef rfl rfl (ef_call (tr_rtwoS b2 (lwS 2 (lwS 2 (lwS 2 (lwS 2 u5)))) (lwS_le (lwS_le (lwS_le (lwS_le hu5))))) rfl rfl) ?_ ?_
   ·
    rintro _ _ ⟨_, _, ⟨rfl, rfl⟩, rfl, rfl⟩; infer_instance
   rintro _ _ ⟨_, _, ⟨rfl, rfl⟩, rfl, rfl⟩
   refine AnyH.app ?_
   refine AnyH.one 13 (by kernel_rfl) ?_
   refine Turn.ef rfl rfl (ef_call (tr_rwordS b2 4 (lwS 2 (lwS 2 (lwS 2 (lwS 2 (lwS 2 u5))))) (by decide) (by decide) (lwS_le (lwS_le (lwS_le (lwS_le (lwS_le hu5)))))) rfl rfl) ?_ ?_
   ·
    rintro _ _ ⟨_, _, ⟨rfl, rfl⟩, rfl, rfl⟩; infer_instance
   rintro _ _ ⟨_, _, ⟨rfl, rfl⟩, rfl, rfl⟩
   refine AnyH.app ?_
   refine AnyH.one 15 (by kernel_rfl) ?_
   refine Turn.ef rfl rfl (ef_call (tr_rtwoS b2 (lwS 4 (lwS 2 (lwS 2 (lwS 2 (lwS 2 (lwS 2 u5)))))) (lwS_le (lwS_le (lwS_le (lwS_le (lwS_le (lwS_le hu5))))))) rfl rfl) ?_ ?_
   ·
    rintro _ _ ⟨_, _, ⟨rfl, rfl⟩, rfl, rfl⟩; infer_instance
   rintro _ _ ⟨_, _, ⟨rfl, rfl⟩, rfl, rfl⟩
   refine AnyH.app ?_
   refine AnyH.one 17 (by kernel_rfl) ?_
   refine Turn.ef rfl rfl (ef_call (tr_rtwoS b2 (lwS 2 (lwS 4 (lwS 2 (lwS 2 (lwS 2 (lwS 2 (lwS 2 u5))))))) (lwS_le (lwS_le (lwS_le (lwS_le (lwS_le (lwS_le (lwS_le hu5)))))))) rfl rfl) ?_ ?_
   ·
    rintro _ _ ⟨_, _, ⟨rfl, rfl⟩, rfl, rfl⟩; infer_instance
   rintro _ _ ⟨_, _, ⟨rfl, rfl⟩, rfl, rfl⟩
   refine AnyH.app ?_
   refine Tk 18 rfl rfl (pv_sub rfl rfl (r := ((lwV 2 (lwS 2 (lwS 4 (lwS 2 (lwS 2 (lwS 2 (lwS 2 (lwS 2 u5))))))) : Nat) : Int) - 1) (by have := lwV2i (lwS 2 (lwS 4 (lwS 2 (lwS 2 (lwS 2 (lwS 2 (lwS 2 u5))))))); exact w64 (by omega) (by omega))) rfl ?_
   refine Tk 19 rfl rfl (pv_build rfl) rfl ?_
   refine AnyH.one 20 (by kernel_rfl) ?_
   refine Turn.ef rfl rfl (ef_buildSlice1 (k := 8) rfl rfl rfl rfl rfl) ?_ ?_
   ·
    rintro _ _ ⟨b25, rfl, rfl⟩; infer_instance
   rintro _ _ ⟨b25, rfl, rfl⟩
   refine AnyH.one 21 (by kernel_rfl) ?_
   refine Turn.ef rfl rfl (ef_append (H := G5) (xs := [.int .i64 ((lwV 2 u5 : Nat) : Int), .int .i64 ((lwV 2 (lwS 2 u5) : Nat) : Int), .int .i64 ((lwV 2 (lwS 2 (lwS 2 u5)) : Nat) : Int), .int .i64 ((lwV 2 (lwS 2 (lwS 2 (lwS 2 u5))) : Nat) : Int), .int .i64 ((lwV 2 (lwS 2 (lwS 2 (lwS 2 (lwS 2 u5)))) : Nat) : Int), .int .u64 ((lwV 4 (lwS 2 (lwS 2 (lwS 2 (lwS 2 (lwS 2 u5))))) : Nat) : Int), .int .i64 ((lwV 2 (lwS 4 (lwS 2 (lwS 2 (lwS 2 (lwS 2 (lwS 2 u5)))))) : Nat) : Int), .int .i64 (((lwV 2 (lwS 2 (lwS 4 (lwS 2 (lwS 2 (lwS 2 (lwS 2 (lwS 2 u5))))))) : Nat) : Int) - 1)]) rfl hsv rfl ⟨rfl, rfl, rfl, rfl, rfl, rfl, rfl, rfl, trivial⟩ rfl rfl rfl (by omega) (by omega) rfl rfl) ?_ ?_
   ·
    rintro _ _ ⟨vn20, Hn, hn20, rfl, rfl⟩; infer_instance
   rintro _ _ ⟨vn20, Hn, hn20, rfl, rfl⟩
   refine AnyH.app ?_
   have hsn : Slc 70 8 vn20 (k5.length + 1) (cel (cE fsT) (k5 ++ [lnEl fsT u5])) Hn := by rw [cel_app, cel_one1]; exact hn20
   obtain ⟨x9, y9, rfl⟩ := hsn.form
   refine Tk 22 rfl rfl (pv_fieldAddr0 rfl rfl) rfl ?_
   refine AnyH.one 23 (by kernel_rfl) ?_
   refine Turn.ef rfl rfl (ef_store1 rfl rfl (by first | rfl | assumption) (by first | rfl | assumption)) ?_ ?_
   ·
    rintro _ _ ⟨rfl, rfl⟩; infer_instance
   rintro _ _ ⟨rfl, rfl⟩
   refine AnyH.done (by kernel_rfl) ?_
   refine Ends.block_normal ?_
   refine Ends.seq ?_
   refine Wp.region ?_
   refine Om1 rfl rfl ?_
   refine Ops.pv (pv_sub rfl rfl (w64n (k := i) (by omega) (by omega))) rfl ?_
   refine Oa1 rfl rfl ?_
   refine Ops.nil ?_
   refine Ends.goes ?_
   refine Goes.back (hK (i, (lwS 2 (lwS 2 (lwS 4 (lwS 2 (lwS 2 (lwS 2 (lwS 2 (lwS 2 u5)))))))), k5 ++ [lnEl fsT u5], .slice x9 (k5.length + 1) y9, Hn) ⟨by dsimp only; rw [List.length_append, List.length_singleton]; omega, (lwS_le (lwS_le (lwS_le (lwS_le (lwS_le (lwS_le (lwS_le (lwS_le hu5)))))))), (lnI_step hnb).symm.trans hln, by rw [List.length_append]; exact hsn⟩ (by dsimp only; omega)) ⟨rfl, rfl, rfl, rfl, trivial⟩
  refine Turn.ef rfl rfl (ef_call (tr_rtwoS b2 u5 hu5) rfl rfl) ?_ ?_
  ·
   rintro _ _ ⟨_, _, ⟨rfl, rfl⟩, rfl, rfl⟩; infer_instance
  rintro _ _ ⟨_, _, ⟨rfl, rfl⟩, rfl, rfl⟩
  refine AnyH.app ?_
  refine AnyH.two 1 5 (by kernel_rfl) ?_ ?_
  ·
   refine Turn.ef rfl rfl (ef_pv (pv_load rfl rfl rfl) rfl) ?_ ?_
   ·
    rintro _ _ ⟨rfl, rfl⟩; infer_instance
   rintro _ _ ⟨rfl, rfl⟩
   refine AnyH.one 5 (by kernel_rfl) ?_
   refine Turn.ef rfl rfl (ef_call (tr_rtwoS b2 (lwS 2 u5) (lwS_le hu5)) rfl rfl) ?_ ?_
   ·
    rintro _ _ ⟨_, _, ⟨rfl, rfl⟩, rfl, rfl⟩; infer_instance
   rintro _ _ ⟨_, _, ⟨rfl, rfl⟩, rfl, rfl⟩
   refine AnyH.app ?_
   refine AnyH.one 7 (by kernel_rfl) ?_
   refine Turn.ef rfl rfl (ef_call (tr_rtwoS b2 (lwS 2 (lwS 2 u5)) (lwS_le (lwS_le hu5))) rfl rfl) ?_ ?_
   ·
    rintro _ _ ⟨_, _, ⟨rfl, rfl⟩, rfl, rfl⟩; infer_instance
   rintro _ _ ⟨_, _, ⟨rfl, rfl⟩, rfl, rfl⟩
   refine AnyH.app ?_
   refine AnyH.one 9 (by kernel_rfl) ?_
   refine Turn.ef rfl rfl (ef_call (tr_rtwoS b2 (lwS 2 (lwS 2 (lwS 2 u5))) (lwS_le (lwS_le (lwS_le hu5)))) rfl rfl) ?_ ?_
   ·
    rintro _ _ ⟨_, _, ⟨rfl, rfl⟩, rfl, rfl⟩; infer_instance
   rintro _ _ ⟨_, _, ⟨rfl, rfl⟩, rfl, rfl⟩
   refine AnyH.app ?_
   refine AnyH.one 11 (by kernel_rfl) ?_
   refine Turn.ef rfl rfl (ef_call (tr_rtwoS b2 (lwS 2 (lwS 2 (lwS 2 (lwS 2 u5)))) (lwS_le (lwS_le (lwS_le (lwS_le hu5))))) rfl rfl) ?_ ?_
   ·
    rintro _ _ ⟨_, _, ⟨rfl, rfl⟩, rfl, rfl⟩; infer_instance
   rintro _ _ ⟨_, _, ⟨rfl, rfl⟩, rfl, rfl⟩
   refine AnyH.app ?_
   refine AnyH.one 13 (by kernel_rfl) ?_
   refine Turn.ef rfl rfl (ef_call (tr_rwordS b2 4 (lwS 2 (lwS 2 (lwS 2 (lwS 2 (lwS 2 u5))))) (by decide) (by decide) (lwS_le (lwS_le (lwS_le (lwS_le (lwS_le hu5)))))) rfl rfl) ?_ ?_
   ·
    rintro _ _ ⟨_, _, ⟨rfl, rfl⟩, rfl, rfl⟩; infer_instance
   rintro _ _ ⟨_, _, ⟨rfl, rfl⟩, rfl, rfl⟩
   refine AnyH.app ?_
   refine AnyH.one 15 (by kernel_rfl) ?_
   refine Turn.ef rfl rfl (ef_call (tr_rtwoS b2 (lwS 4 (lwS 2 (lwS 2 (lwS 2 (lwS 2 (lwS 2 u5)))))) (lwS_le (lwS_le (lwS_le (lwS_le (lwS_le (lwS_le hu5))))))) rfl rfl) ?_ ?_
   ·
    rintro _ _ ⟨_, _, ⟨rfl, rfl⟩, rfl, rfl⟩; infer_instance
   rintro _ _ ⟨_, _, ⟨rfl, rfl⟩, rfl, rfl⟩
   refine AnyH.app ?_
   refine AnyH.one 17 (by kernel_rfl) ?_
   refine Turn.ef rfl rfl (ef_call (tr_rtwoS b2 (lwS 2 (lwS 4 (lwS 2 (lwS 2 (lwS 2 (lwS 2 (lwS 2 u5))))))) (lwS_le (lwS_le (lwS_le (lwS_le (lwS_le (lwS_le (lwS_le hu5)))))))) rfl rfl) ?_ ?_
   ·
    rintro _ _ ⟨_, _, ⟨rfl, rfl⟩, rfl, rfl⟩; infer_instance
   rintro _ _ ⟨_, _, ⟨rfl, rfl⟩, rfl, rfl⟩
   refine AnyH.app ?_
   refine Tk 18 rfl rfl (pv_sub rfl rfl (r := ((lwV 2 (lwS 2 (lwS 4 (lwS 2 (lwS 2 (lwS 2 (lwS 2 (lwS 2 u5))))))) : Nat) : Int) - 1) (by have := lwV2i (lwS 2 (lwS 4 (lwS 2 (lwS 2 (lwS 2 (lwS 2 (lwS 2 u5))))))); exact w64 (by omega) (by omega))) rfl ?_
   refine Tk 19 rfl rfl (pv_build rfl) rfl ?_
   refine AnyH.one 20 (by kernel_rfl) ?_
   refine Turn.ef rfl rfl (ef_buildSlice1 (k := 8) rfl rfl rfl rfl rfl) ?_ ?_
   ·
    rintro _ _ ⟨b26, rfl, rfl⟩; infer_instance
   rintro _ _ ⟨b26, rfl, rfl⟩
   refine AnyH.one 21 (by kernel_rfl) ?_
   refine Turn.ef rfl rfl (ef_append (H := G5) (xs := [.int .i64 ((lwV 2 u5 : Nat) : Int), .int .i64 ((lwV 2 (lwS 2 u5) : Nat) : Int), .int .i64 ((lwV 2 (lwS 2 (lwS 2 u5)) : Nat) : Int), .int .i64 ((lwV 2 (lwS 2 (lwS 2 (lwS 2 u5))) : Nat) : Int), .int .i64 ((lwV 2 (lwS 2 (lwS 2 (lwS 2 (lwS 2 u5)))) : Nat) : Int), .int .u64 ((lwV 4 (lwS 2 (lwS 2 (lwS 2 (lwS 2 (lwS 2 u5))))) : Nat) : Int), .int .i64 ((lwV 2 (lwS 4 (lwS 2 (lwS 2 (lwS 2 (lwS 2 (lwS 2 u5)))))) : Nat) : Int), .int .i64 (((lwV 2 (lwS 2 (lwS 4 (lwS 2 (lwS 2 (lwS 2 (lwS 2 (lwS 2 u5))))))) : Nat) : Int) - 1)]) rfl hsv rfl ⟨rfl, rfl, rfl, rfl, rfl, rfl, rfl, rfl, trivial⟩ rfl rfl rfl (by omega) (by omega) rfl rfl) ?_ ?_
   ·
    rintro _ _ ⟨vn21, Hn, hn21, rfl, rfl⟩; infer_instance
   rintro _ _ ⟨vn21, Hn, hn21, rfl, rfl⟩
   refine AnyH.app ?_
   have hsn : Slc 70 8 vn21 (k5.length + 1) (cel (cE fsT) (k5 ++ [lnEl fsT u5])) Hn := by rw [cel_app, cel_one1]; exact hn21
   obtain ⟨x9, y9, rfl⟩ := hsn.form
   refine Tk 22 rfl rfl (pv_fieldAddr0 rfl rfl) rfl ?_
   refine AnyH.one 23 (by kernel_rfl) ?_
   refine Turn.ef rfl rfl (ef_store1 rfl rfl (by first | rfl | assumption) (by first | rfl | assumption)) ?_ ?_
   ·
    rintro _ _ ⟨rfl, rfl⟩; infer_instance
   rintro _ _ ⟨rfl, rfl⟩
   refine AnyH.done (by kernel_rfl) ?_
   refine Ends.block_normal ?_
   refine Ends.seq ?_
   refine Wp.region ?_
   refine Om1 rfl rfl ?_
   refine Ops.pv (pv_sub rfl rfl (w64n (k := i) (by omega) (by omega))) rfl ?_
   refine Oa1 rfl rfl ?_
   refine Ops.nil ?_
   refine Ends.goes ?_
   refine Goes.back (hK (i, (lwS 2 (lwS 2 (lwS 4 (lwS 2 (lwS 2 (lwS 2 (lwS 2 (lwS 2 u5)))))))), k5 ++ [lnEl fsT u5], .slice x9 (k5.length + 1) y9, Hn) ⟨by dsimp only; rw [List.length_append, List.length_singleton]; omega, (lwS_le (lwS_le (lwS_le (lwS_le (lwS_le (lwS_le (lwS_le (lwS_le hu5)))))))), (lnI_step hnb).symm.trans hln, by rw [List.length_append]; exact hsn⟩ (by dsimp only; omega)) ⟨rfl, rfl, rfl, rfl, trivial⟩
  refine Turn.ef rfl rfl (ef_call (tr_rtwoS b2 (lwS 2 u5) (lwS_le hu5)) rfl rfl) ?_ ?_
  ·
   rintro _ _ ⟨_, _, ⟨rfl, rfl⟩, rfl, rfl⟩; infer_instance
  rintro _ _ ⟨_, _, ⟨rfl, rfl⟩, rfl, rfl⟩
  refine AnyH.app ?_
  refine AnyH.two 1 7 (by kernel_rfl) ?_ ?_
  ·
   refine Turn.ef rfl rfl (ef_pv (pv_load rfl rfl rfl) rfl) ?_ ?_
   ·
    rintro _ _ ⟨rfl, rfl⟩; infer_instance
   rintro _ _ ⟨rfl, rfl⟩
   refine AnyH.one 7 (by kernel_rfl) ?_
   refine Turn.ef rfl rfl (ef_call (tr_rtwoS b2 (lwS 2 (lwS 2 u5)) (lwS_le (lwS_le hu5))) rfl rfl) ?_ ?_
   ·
    rintro _ _ ⟨_, _, ⟨rfl, rfl⟩, rfl, rfl⟩; infer_instance
   rintro _ _ ⟨_, _, ⟨rfl, rfl⟩, rfl, rfl⟩
   refine AnyH.app ?_
   refine AnyH.one 9 (by kernel_rfl) ?_
   refine Turn.ef rfl rfl (ef_call (tr_rtwoS b2 (lwS 2 (lwS 2 (lwS 2 u5))) (lwS_le (lwS_le (lwS_le hu5)))) rfl rfl) ?_ ?_
   ·
    rintro _ _ ⟨_, _, ⟨rfl, rfl⟩, rfl, rfl⟩; infer_instance
   rintro _ _ ⟨_, _, ⟨rfl, rfl⟩, rfl, rfl⟩
   refine AnyH.app ?_
   refine AnyH.one 11 (by kernel_rfl) ?_
   refine Turn.ef rfl rfl (ef_call (tr_rtwoS b2 (lwS 2 (lwS 2 (lwS 2 (lwS 2 u5)))) (lwS_le (lwS_le (lwS_le (lwS_le hu5))))) rfl rfl) ?_ ?_
   ·
    rintro _ _ ⟨_, _, ⟨rfl, rfl⟩, rfl, rfl⟩; infer_instance
   rintro _ _ ⟨_, _, ⟨rfl, rfl⟩, rfl, rfl⟩
   refine AnyH.app ?_
   refine AnyH.one 13 (by kernel_rfl) ?_
   refine Turn.ef rfl rfl (ef_call (tr_rwordS b2 4 (lwS 2 (lwS 2 (lwS 2 (lwS 2 (lwS 2 u5))))) (by decide) (by decide) (lwS_le (lwS_le (lwS_le (lwS_le (lwS_le hu5)))))) rfl rfl) ?_ ?_
   ·
    rintro _ _ ⟨_, _, ⟨rfl, rfl⟩, rfl, rfl⟩; infer_instance
   rintro _ _ ⟨_, _, ⟨rfl, rfl⟩, rfl, rfl⟩
   refine AnyH.app ?_
   refine AnyH.one 15 (by kernel_rfl) ?_
   refine Turn.ef rfl rfl (ef_call (tr_rtwoS b2 (lwS 4 (lwS 2 (lwS 2 (lwS 2 (lwS 2 (lwS 2 u5)))))) (lwS_le (lwS_le (lwS_le (lwS_le (lwS_le (lwS_le hu5))))))) rfl rfl) ?_ ?_
   ·
    rintro _ _ ⟨_, _, ⟨rfl, rfl⟩, rfl, rfl⟩; infer_instance
   rintro _ _ ⟨_, _, ⟨rfl, rfl⟩, rfl, rfl⟩
   refine AnyH.app ?_
   refine AnyH.one 17 (by kernel_rfl) ?_
   refine Turn.ef rfl rfl (ef_call (tr_rtwoS b2 (lwS 2 (lwS 4 (lwS 2 (lwS 2 (lwS 2 (lwS 2 (lwS 2 u5))))))) (lwS_le (lwS_le (lwS_le (lwS_le (lwS_le (lwS_le (lwS_le hu5)))))))) rfl rfl) ?_ ?_
   ·
    rintro _ _ ⟨_, _, ⟨rfl, rfl⟩, rfl, rfl⟩; infer_instance
   rintro _ _ ⟨_, _, ⟨rfl, rfl⟩, rfl, rfl⟩
   refine AnyH.app ?_
   refine Tk 18 rfl rfl (pv_sub rfl rfl (r := ((lwV 2 (lwS 2 (lwS 4 (lwS 2 (lwS 2 (lwS 2 (lwS 2 (lwS 2 u5))))))) : Nat) : Int) - 1) (by have := lwV2i (lwS 2 (lwS 4 (lwS 2 (lwS 2 (lwS 2 (lwS 2 (lwS 2 u5))))))); exact w64 (by omega) (by omega))) rfl ?_
   refine Tk 19 rfl rfl (pv_build rfl) rfl ?_
   refine AnyH.one 20 (by kernel_rfl) ?_
   refine Turn.ef rfl rfl (ef_buildSlice1 (k := 8) rfl rfl rfl rfl rfl) ?_ ?_
   ·
    rintro _ _ ⟨b27, rfl, rfl⟩; infer_instance
   rintro _ _ ⟨b27, rfl, rfl⟩
   refine AnyH.one 21 (by kernel_rfl) ?_
   refine Turn.ef rfl rfl (ef_append (H := G5) (xs := [.int .i64 ((lwV 2 u5 : Nat) : Int), .int .i64 ((lwV 2 (lwS 2 u5) : Nat) : Int), .int .i64 ((lwV 2 (lwS 2 (lwS 2 u5)) : Nat) : Int), .int .i64 ((lwV 2 (lwS 2 (lwS 2 (lwS 2 u5))) : Nat) : Int), .int .i64 ((lwV 2 (lwS 2 (lwS 2 (lwS 2 (lwS 2 u5)))) : Nat) : Int), .int .u64 ((lwV 4 (lwS 2 (lwS 2 (lwS 2 (lwS 2 (lwS 2 u5))))) : Nat) : Int), .int .i64 ((lwV 2 (lwS 4 (lwS 2 (lwS 2 (lwS 2 (lwS 2 (lwS 2 u5)))))) : Nat) : Int), .int .i64 (((lwV 2 (lwS 2 (lwS 4 (lwS 2 (lwS 2 (lwS 2 (lwS 2 (lwS 2 u5))))))) : Nat) : Int) - 1)]) rfl hsv rfl ⟨rfl, rfl, rfl, rfl, rfl, rfl, rfl, rfl, trivial⟩ rfl rfl rfl (by omega) (by omega) rfl rfl) ?_ ?_
   ·
    rintro _ _ ⟨vn22, Hn, hn22, rfl, rfl⟩; infer_instance
   rintro _ _ ⟨vn22, Hn, hn22, rfl, rfl⟩
   refine AnyH.app ?_
   have hsn : Slc 70 8 vn22 (k5.length + 1) (cel (cE fsT) (k5 ++ [lnEl fsT u5])) Hn := by rw [cel_app, cel_one1]; exact hn22
   obtain ⟨x9, y9, rfl⟩ := hsn.form
   refine Tk 22 rfl rfl (pv_fieldAddr0 rfl rfl) rfl ?_
   refine AnyH.one 23 (by kernel_rfl) ?_
   refine Turn.ef rfl rfl (ef_store1 rfl rfl (by first | rfl | assumption) (by first | rfl | assumption)) ?_ ?_
   ·
    rintro _ _ ⟨rfl, rfl⟩; infer_instance
   rintro _ _ ⟨rfl, rfl⟩
   refine AnyH.done (by kernel_rfl) ?_
   refine Ends.block_normal ?_
   refine Ends.seq ?_
   refine Wp.region ?_
   refine Om1 rfl rfl ?_
   refine Ops.pv (pv_sub rfl rfl (w64n (k := i) (by omega) (by omega))) rfl ?_
   refine Oa1 rfl rfl ?_
   refine Ops.nil ?_
   refine Ends.goes ?_
   refine Goes.back (hK (i, (lwS 2 (lwS 2 (lwS 4 (lwS 2 (lwS 2 (lwS 2 (lwS 2 (lwS 2 u5)))))))), k5 ++ [lnEl fsT u5], .slice x9 (k5.length + 1) y9, Hn) ⟨by dsimp only; rw [List.length_append, List.length_singleton]; omega, (lwS_le (lwS_le (lwS_le (lwS_le (lwS_le (lwS_le (lwS_le (lwS_le hu5)))))))), (lnI_step hnb).symm.trans hln, by rw [List.length_append]; exact hsn⟩ (by dsimp only; omega)) ⟨rfl, rfl, rfl, rfl, trivial⟩
  refine Turn.ef rfl rfl (ef_call (tr_rtwoS b2 (lwS 2 (lwS 2 u5)) (lwS_le (lwS_le hu5))) rfl rfl) ?_ ?_
  ·
   rintro _ _ ⟨_, _, ⟨rfl, rfl⟩, rfl, rfl⟩; infer_instance
  rintro _ _ ⟨_, _, ⟨rfl, rfl⟩, rfl, rfl⟩
  refine AnyH.app ?_
  refine AnyH.two 1 9 (by kernel_rfl) ?_ ?_
  ·
   refine Turn.ef rfl rfl (ef_pv (pv_load rfl rfl rfl) rfl) ?_ ?_
   ·
    rintro _ _ ⟨rfl, rfl⟩; infer_instance
   rintro _ _ ⟨rfl, rfl⟩
   refine AnyH.one 9 (by kernel_rfl) ?_
   refine Turn.ef rfl rfl (ef_call (tr_rtwoS b2 (lwS 2 (lwS 2 (lwS 2 u5))) (lwS_le (lwS_le (lwS_le hu5)))) rfl rfl) ?_ ?_
   ·
    rintro _ _ ⟨_, _, ⟨rfl, rfl⟩, rfl, rfl⟩; infer_instance
   rintro _ _ ⟨_, _, ⟨rfl, rfl⟩, rfl, rfl⟩
   refine AnyH.app ?_
   refine AnyH.one 11 (by kernel_rfl) ?_
   refine Turn.ef rfl rfl (ef_call (tr_rtwoS b2 (lwS 2 (lwS 2 (lwS 2 (lwS 2 u5)))) (lwS_le (lwS_le (lwS_le (lwS_le hu5))))) rfl rfl) ?_ ?_
   ·
    rintro _ _ ⟨_, _, ⟨rfl, rfl⟩, rfl, rfl⟩; infer_instance
   rintro _ _ ⟨_, _, ⟨rfl, rfl⟩, rfl, rfl⟩
   refine AnyH.app ?_
   refine AnyH.one 13 (by kernel_rfl) ?_
   refine Turn.ef rfl rfl (ef_call (tr_rwordS b2 4 (lwS 2 (lwS 2 (lwS 2 (lwS 2 (lwS 2 u5))))) (by decide) (by decide) (lwS_le (lwS_le (lwS_le (lwS_le (lwS_le hu5)))))) rfl rfl) ?_ ?_
   ·
    rintro _ _ ⟨_, _, ⟨rfl, rfl⟩, rfl, rfl⟩; infer_instance
   rintro _ _ ⟨_, _, ⟨rfl, rfl⟩, rfl, rfl⟩
   refine AnyH.app ?_
   refine AnyH.one 15 (by kernel_rfl) ?_
   refine Turn.ef rfl rfl (ef_call (tr_rtwoS b2 (lwS 4 (lwS 2 (lwS 2 (lwS 2 (lwS 2 (lwS 2 u5)))))) (lwS_le (lwS_le (lwS_le (lwS_le (lwS_le (lwS_le hu5))))))) rfl rfl) ?_ ?_
   ·
    rintro _ _ ⟨_, _, ⟨rfl, rfl⟩, rfl, rfl⟩; infer_instance
   rintro _ _ ⟨_, _, ⟨rfl, rfl⟩, rfl, rfl⟩
   refine AnyH.app ?_
   refine AnyH.one 17 (by kernel_rfl) ?_
   refine Turn.ef rfl rfl (ef_call (tr_rtwoS b2 (lwS 2 (lwS 4 (lwS 2 (lwS 2 (lwS 2 (lwS 2 (lwS 2 u5))))))) (lwS_le (lwS_le (lwS_le (lwS_le (lwS_le (lwS_le (lwS_le hu5)))))))) rfl rfl) ?_ ?_
   ·
    rintro _ _ ⟨_, _, ⟨rfl, rfl⟩, rfl, rfl⟩; infer_instance
   rintro _ _ ⟨_, _, ⟨rfl, rfl⟩, rfl, rfl⟩
   refine AnyH.app ?_
   refine Tk 18 rfl rfl (pv_sub rfl rfl (r := ((lwV 2 (lwS 2 (lwS 4 (lwS 2 (lwS 2 (lwS 2 (lwS 2 (lwS 2 u5))))))) : Nat) : Int) - 1) (by have := lwV2i (lwS 2 (lwS 4 (lwS 2 (lwS 2 (lwS 2 (lwS 2 (lwS 2 u5))))))); exact w64 (by omega) (by omega))) rfl ?_
   refine Tk 19 rfl rfl (pv_build rfl) rfl ?_
   refine AnyH.one 20 (by kernel_rfl) ?_
   refine Turn.ef rfl rfl (ef_buildSlice1 (k := 8) rfl rfl rfl rfl rfl) ?_ ?_
   ·
    rintro _ _ ⟨b28, rfl, rfl⟩; infer_instance
   rintro _ _ ⟨b28, rfl, rfl⟩
   refine AnyH.one 21 (by kernel_rfl) ?_
   refine Turn.ef rfl rfl (ef_append (H := G5) (xs := [.int .i64 ((lwV 2 u5 : Nat) : Int), .int .i64 ((lwV 2 (lwS 2 u5) : Nat) : Int), .int .i64 ((lwV 2 (lwS 2 (lwS 2 u5)) : Nat) : Int), .int .i64 ((lwV 2 (lwS 2 (lwS 2 (lwS 2 u5))) : Nat) : Int), .int .i64 ((lwV 2 (lwS 2 (lwS 2 (lwS 2 (lwS 2 u5)))) : Nat) : Int), .int .u64 ((lwV 4 (lwS 2 (lwS 2 (lwS 2 (lwS 2 (lwS 2 u5))))) : Nat) : Int), .int .i64 ((lwV 2 (lwS 4 (lwS 2 (lwS 2 (lwS 2 (lwS 2 (lwS 2 u5)))))) : Nat) : Int), .int .i64 (((lwV 2 (lwS 2 (lwS 4 (lwS 2 (lwS 2 (lwS 2 (lwS 2 (lwS 2 u5))))))) : Nat) : Int) - 1)]) rfl hsv rfl ⟨rfl, rfl, rfl, rfl, rfl, rfl, rfl, rfl, trivial⟩ rfl rfl rfl (by omega) (by omega) rfl rfl) ?_ ?_
   ·
    rintro _ _ ⟨vn23, Hn, hn23, rfl, rfl⟩; infer_instance
   rintro _ _ ⟨vn23, Hn, hn23, rfl, rfl⟩
   refine AnyH.app ?_
   have hsn : Slc 70 8 vn23 (k5.length + 1) (cel (cE fsT) (k5 ++ [lnEl fsT u5])) Hn := by rw [cel_app, cel_one1]; exact hn23
   obtain ⟨x9, y9, rfl⟩ := hsn.form
   refine Tk 22 rfl rfl (pv_fieldAddr0 rfl rfl) rfl ?_
   refine AnyH.one 23 (by kernel_rfl) ?_
   refine Turn.ef rfl rfl (ef_store1 rfl rfl (by first | rfl | assumption) (by first | rfl | assumption)) ?_ ?_
   ·
    rintro _ _ ⟨rfl, rfl⟩; infer_instance
   rintro _ _ ⟨rfl, rfl⟩
   refine AnyH.done (by kernel_rfl) ?_
   refine Ends.block_normal ?_
   refine Ends.seq ?_
   refine Wp.region ?_
   refine Om1 rfl rfl ?_
   refine Ops.pv (pv_sub rfl rfl (w64n (k := i) (by omega) (by omega))) rfl ?_
   refine Oa1 rfl rfl ?_
   refine Ops.nil ?_
   refine Ends.goes ?_
   refine Goes.back (hK (i, (lwS 2 (lwS 2 (lwS 4 (lwS 2 (lwS 2 (lwS 2 (lwS 2 (lwS 2 u5)))))))), k5 ++ [lnEl fsT u5], .slice x9 (k5.length + 1) y9, Hn) ⟨by dsimp only; rw [List.length_append, List.length_singleton]; omega, (lwS_le (lwS_le (lwS_le (lwS_le (lwS_le (lwS_le (lwS_le (lwS_le hu5)))))))), (lnI_step hnb).symm.trans hln, by rw [List.length_append]; exact hsn⟩ (by dsimp only; omega)) ⟨rfl, rfl, rfl, rfl, trivial⟩
  refine Turn.ef rfl rfl (ef_call (tr_rtwoS b2 (lwS 2 (lwS 2 (lwS 2 u5))) (lwS_le (lwS_le (lwS_le hu5)))) rfl rfl) ?_ ?_
  ·
   rintro _ _ ⟨_, _, ⟨rfl, rfl⟩, rfl, rfl⟩; infer_instance
  rintro _ _ ⟨_, _, ⟨rfl, rfl⟩, rfl, rfl⟩
  refine AnyH.app ?_
  refine AnyH.two 1 11 (by kernel_rfl) ?_ ?_
  ·
   refine Turn.ef rfl rfl (ef_pv (pv_load rfl rfl rfl) rfl) ?_ ?_
   ·
    rintro _ _ ⟨rfl, rfl⟩; infer_instance
   rintro _ _ ⟨rfl, rfl⟩
   refine AnyH.one 11 (by kernel_rfl) ?_
   refine Turn.ef rfl rfl (ef_call (tr_rtwoS b2 (lwS 2 (lwS 2 (lwS 2 (lwS 2 u5)))) (lwS_le (lwS_le (lwS_le (lwS_le hu5))))) rfl rfl) ?_ ?_
   ·
    rintro _ _ ⟨_, _, ⟨rfl, rfl⟩, rfl, rfl⟩; infer_instance
   rintro _ _ ⟨_, _, ⟨rfl, rfl⟩, rfl, rfl⟩
   refine AnyH.app ?_
   refine AnyH.one 13 (by kernel_rfl) ?_
   refine Turn.ef rfl rfl (ef_call (tr_rwordS b2 4 (lwS 2 (lwS 2 (lwS 2 (lwS 2 (lwS 2 u5))))) (by decide) (by decide) (lwS_le (lwS_le (lwS_le (lwS_le (lwS_le hu5)))))) rfl rfl) ?_ ?_
   ·
    rintro _ _ ⟨_, _, ⟨rfl, rfl⟩, rfl, rfl⟩; infer_instance
   rintro _ _ ⟨_, _, ⟨rfl, rfl⟩, rfl, rfl⟩
   refine AnyH.app ?_
   refine AnyH.one 15 (by kernel_rfl) ?_
   refine Turn.ef rfl rfl (ef_call (tr_rtwoS b2 (lwS 4 (lwS 2 (lwS 2 (lwS 2 (lwS 2 (lwS 2 u5)))))) (lwS_le (lwS_le (lwS_le (lwS_le (lwS_le (lwS_le hu5))))))) rfl rfl) ?_ ?_
   ·
    rintro _ _ ⟨_, _, ⟨rfl, rfl⟩, rfl, rfl⟩; infer_instance
   rintro _ _ ⟨_, _, ⟨rfl, rfl⟩, rfl, rfl⟩
   refine AnyH.app ?_
   refine AnyH.one 17 (by kernel_rfl) ?_
   refine Turn.ef rfl rfl (ef_call (tr_rtwoS b2 (lwS 2 (lwS 4 (lwS 2 (lwS 2 (lwS 2 (lwS 2 (lwS 2 u5))))))) (lwS_le (lwS_le (lwS_le (lwS_le (lwS_le (lwS_le (lwS_le hu5)))))))) rfl rfl) ?_ ?_
   ·
    rintro _ _ ⟨_, _, ⟨rfl, rfl⟩, rfl, rfl⟩; infer_instance
   rintro _ _ ⟨_, _, ⟨rfl, rfl⟩, rfl, rfl⟩
   refine AnyH.app ?_
   refine Tk 18 rfl rfl (pv_sub rfl rfl (r := ((lwV 2 (lwS 2 (lwS 4 (lwS 2 (lwS 2 (lwS 2 (lwS 2 (lwS 2 u5))))))) : Nat) : Int) - 1) (by have := lwV2i (lwS 2 (lwS 4 (lwS 2 (lwS 2 (lwS 2 (lwS 2 (lwS 2 u5))))))); exact w64 (by omega) (by omega))) rfl ?_
   refine Tk 19 rfl rfl (pv_build rfl) rfl ?_
   refine AnyH.one 20 (by kernel_rfl) ?_
   refine Turn.ef rfl rfl (ef_buildSlice1 (k := 8) rfl rfl rfl rfl rfl) ?_ ?_
   ·
    rintro _ _ ⟨b29, rfl, rfl⟩; infer_instance
   rintro _ _ ⟨b29, rfl, rfl⟩
   refine AnyH.one 21 (by kernel_rfl) ?_
   refine Turn.ef rfl rfl (ef_append (H := G5) (xs := [.int .i64 ((lwV 2 u5 : Nat) : Int), .int .i64 ((lwV 2 (lwS 2 u5) : Nat) : Int), .int .i64 ((lwV 2 (lwS 2 (lwS 2 u5)) : Nat) : Int), .int .i64 ((lwV 2 (lwS 2 (lwS 2 (lwS 2 u5))) : Nat) : Int), .int .i64 ((lwV 2 (lwS 2 (lwS 2 (lwS 2 (lwS 2 u5)))) : Nat) : Int), .int .u64 ((lwV 4 (lwS 2 (lwS 2 (lwS 2 (lwS 2 (lwS 2 u5))))) : Nat) : Int), .int .i64 ((lwV 2 (lwS 4 (lwS 2 (lwS 2 (lwS 2 (lwS 2 (lwS 2 u5)))))) : Nat) : Int), .int .i64 (((lwV 2 (lwS 2 (lwS 4 (lwS 2 (lwS 2 (lwS 2 (lwS 2 (lwS 2 u5))))))) : Nat) : Int) - 1)]) rfl hsv rfl ⟨rfl, rfl, rfl, rfl, rfl, rfl, rfl, rfl, trivial⟩ rfl rfl rfl (by omega) (by omega) rfl rfl) ?_ ?_
   ·
    rintro _ _ ⟨vn24, Hn, hn24, rfl, rfl⟩; infer_instance
   rintro _ _ ⟨vn24, Hn, hn24, rfl, rfl⟩
   refine AnyH.app ?_
   have hsn : Slc 70 8 vn24 (k5.length + 1) (cel (cE fsT) (k5 ++ [lnEl fsT u5])) Hn := by rw [cel_app, cel_one1]; exact hn24
   obtain ⟨x9, y9, rfl⟩ := hsn.form
   refine Tk 22 rfl rfl (pv_fieldAddr0 rfl rfl) rfl ?_
   refine AnyH.one 23 (by kernel_rfl) ?_
   refine Turn.ef rfl rfl (ef_store1 rfl rfl (by first | rfl | assumption) (by first | rfl | assumption)) ?_ ?_
   ·
    rintro _ _ ⟨rfl, rfl⟩; infer_instance
   rintro _ _ ⟨rfl, rfl⟩
   refine AnyH.done (by kernel_rfl) ?_
   refine Ends.block_normal ?_
   refine Ends.seq ?_
   refine Wp.region ?_
   refine Om1 rfl rfl ?_
   refine Ops.pv (pv_sub rfl rfl (w64n (k := i) (by omega) (by omega))) rfl ?_
   refine Oa1 rfl rfl ?_
   refine Ops.nil ?_
   refine Ends.goes ?_
   refine Goes.back (hK (i, (lwS 2 (lwS 2 (lwS 4 (lwS 2 (lwS 2 (lwS 2 (lwS 2 (lwS 2 u5)))))))), k5 ++ [lnEl fsT u5], .slice x9 (k5.length + 1) y9, Hn) ⟨by dsimp only; rw [List.length_append, List.length_singleton]; omega, (lwS_le (lwS_le (lwS_le (lwS_le (lwS_le (lwS_le (lwS_le (lwS_le hu5)))))))), (lnI_step hnb).symm.trans hln, by rw [List.length_append]; exact hsn⟩ (by dsimp only; omega)) ⟨rfl, rfl, rfl, rfl, trivial⟩
  refine Turn.ef rfl rfl (ef_call (tr_rtwoS b2 (lwS 2 (lwS 2 (lwS 2 (lwS 2 u5)))) (lwS_le (lwS_le (lwS_le (lwS_le hu5))))) rfl rfl) ?_ ?_
  ·
   rintro _ _ ⟨_, _, ⟨rfl, rfl⟩, rfl, rfl⟩; infer_instance
  rintro _ _ ⟨_, _, ⟨rfl, rfl⟩, rfl, rfl⟩
  refine AnyH.app ?_
  refine AnyH.two 1 13 (by kernel_rfl) ?_ ?_
  ·
   refine Turn.ef rfl rfl (ef_pv (pv_load rfl rfl rfl) rfl) ?_ ?_
   ·
    rintro _ _ ⟨rfl, rfl⟩; infer_instance
   rintro _ _ ⟨rfl, rfl⟩
   refine AnyH.one 13 (by kernel_rfl) ?_
   refine Turn.ef rfl rfl (ef_call (tr_rwordS b2 4 (lwS 2 (lwS 2 (lwS 2 (lwS 2 (lwS 2 u5))))) (by decide) (by decide) (lwS_le (lwS_le (lwS_le (lwS_le (lwS_le hu5)))))) rfl rfl) ?_ ?_
   ·
    rintro _ _ ⟨_, _, ⟨rfl, rfl⟩, rfl, rfl⟩; infer_instance
   rintro _ _ ⟨_, _, ⟨rfl, rfl⟩, rfl, rfl⟩
   refine AnyH.app ?_
   refine AnyH.one 15 (by kernel_rfl) ?_
   refine Turn.ef rfl rfl (ef_call (tr_rtwoS b2 (lwS 4 (lwS 2 (lwS 2 (lwS 2 (lwS 2 (lwS 2 u5)))))) (lwS_le (lwS_le (lwS_le (lwS_le (lwS_le (lwS_le hu5))))))) rfl rfl) ?_ ?_
   ·
    rintro _ _ ⟨_, _, ⟨rfl, rfl⟩, rfl, rfl⟩; infer_instance
   rintro _ _ ⟨_, _, ⟨rfl, rfl⟩, rfl, rfl⟩
   refine AnyH.app ?_
   refine AnyH.one 17 (by kernel_rfl) ?_
   refine Turn.ef rfl rfl (ef_call (tr_rtwoS b2 (lwS 2 (lwS 4 (lwS 2 (lwS 2 (lwS 2 (lwS 2 (lwS 2 u5))))))) (lwS_le (lwS_le (lwS_le (lwS_le (lwS_le (lwS_le (lwS_le hu5)))))))) rfl rfl) ?_ ?_
   ·
    rintro _ _ ⟨_, _, ⟨rfl, rfl⟩, rfl, rfl⟩; infer_instance
   rintro _ _ ⟨_, _, ⟨rfl, rfl⟩, rfl, rfl⟩
   refine AnyH.app ?_
   refine Tk 18 rfl rfl (pv_sub rfl rfl (r := ((lwV 2 (lwS 2 (lwS 4 (lwS 2 (lwS 2 (lwS 2 (lwS 2 (lwS 2 u5))))))) : Nat) : Int) - 1) (by have := lwV2i (lwS 2 (lwS 4 (lwS 2 (lwS 2 (lwS 2 (lwS 2 (lwS 2 u5))))))); exact w64 (by omega) (by omega))) rfl ?_
   refine Tk 19 rfl rfl (pv_build rfl) rfl ?_
   refine AnyH.one 20 (by kernel_rfl) ?_
   refine Turn.ef rfl rfl (ef_buildSlice1 (k := 8) rfl rfl rfl rfl rfl) ?_ ?_
   ·
    rintro _ _ ⟨b30, rfl, rfl⟩; infer_instance
   rintro _ _ ⟨b30, rfl, rfl⟩
   refine AnyH.one 21 (by kernel_rfl) ?_
   refine Turn.ef rfl rfl (ef_append (H := G5) (xs := [.int .i64 ((lwV 2 u5 : Nat) : Int), .int .i64 ((lwV 2 (lwS 2 u5) : Nat) : Int), .int .i64 ((lwV 2 (lwS 2 (lwS 2 u5)) : Nat) : Int), .int .i64 ((lwV 2 (lwS 2 (lwS 2 (lwS 2 u5))) : Nat) : Int), .int .i64 ((lwV 2 (lwS 2 (lwS 2 (lwS 2 (lwS 2 u5)))) : Nat) : Int), .int .u64 ((lwV 4 (lwS 2 (lwS 2 (lwS 2 (lwS 2 (lwS 2 u5))))) : Nat) : Int), .int .i64 ((lwV 2 (lwS 4 (lwS 2 (lwS 2 (lwS 2 (lwS 2 (lwS 2 u5)))))) : Nat) : Int), .int .i64 (((lwV 2 (lwS 2 (lwS 4 (lwS 2 (lwS 2 (lwS 2 (lwS 2 (lwS 2 u5))))))) : Nat) : Int) - 1)]) rfl hsv rfl ⟨rfl, rfl, rfl, rfl, rfl, rfl, rfl, rfl, trivial⟩ rfl rfl rfl (by omega) (by omega) rfl rfl) ?_ ?_
   ·
    rintro _ _ ⟨vn25, Hn, hn25, rfl, rfl⟩; infer_instance
   rintro _ _ ⟨vn25, Hn, hn25, rfl, rfl⟩
   refine AnyH.app ?_
   have hsn : Slc 70 8 vn25 (k5.length + 1) (cel (cE fsT) (k5 ++ [lnEl fsT u5])) Hn := by rw [cel_app, cel_one1]; exact hn25
   obtain ⟨x9, y9, rfl⟩ := hsn.form
   refine Tk 22 rfl rfl (pv_fieldAddr0 rfl rfl) rfl ?_
   refine AnyH.one 23 (by kernel_rfl) ?_
   refine Turn.ef rfl rfl (ef_store1 rfl rfl (by first | rfl | assumption) (by first | rfl | assumption)) ?_ ?_
   ·
    rintro _ _ ⟨rfl, rfl⟩; infer_instance
   rintro _ _ ⟨rfl, rfl⟩
   refine AnyH.done (by kernel_rfl) ?_
   refine Ends.block_normal ?_
   refine Ends.seq ?_
   refine Wp.region ?_
   refine Om1 rfl rfl ?_
   refine Ops.pv (pv_sub rfl rfl (w64n (k := i) (by omega) (by omega))) rfl ?_
   refine Oa1 rfl rfl ?_
   refine Ops.nil ?_
   refine Ends.goes ?_
   refine Goes.back (hK (i, (lwS 2 (lwS 2 (lwS 4 (lwS 2 (lwS 2 (lwS 2 (lwS 2 (lwS 2 u5)))))))), k5 ++ [lnEl fsT u5], .slice x9 (k5.length + 1) y9, Hn) ⟨by dsimp only; rw [List.length_append, List.length_singleton]; omega, (lwS_le (lwS_le (lwS_le (lwS_le (lwS_le (lwS_le (lwS_le (lwS_le hu5)))))))), (lnI_step hnb).symm.trans hln, by rw [List.length_append]; exact hsn⟩ (by dsimp only; omega)) ⟨rfl, rfl, rfl, rfl, trivial⟩
  refine Turn.ef rfl rfl (ef_call (tr_rwordS b2 4 (lwS 2 (lwS 2 (lwS 2 (lwS 2 (lwS 2 u5))))) (by decide) (by decide) (lwS_le (lwS_le (lwS_le (lwS_le (lwS_le hu5)))))) rfl rfl) ?_ ?_
  ·
   rintro _ _ ⟨_, _, ⟨rfl, rfl⟩, rfl, rfl⟩; infer_instance
  rintro _ _ ⟨_, _, ⟨rfl, rfl⟩, rfl, rfl⟩
  refine AnyH.app ?_
  refine AnyH.two 1 15 (by kernel_rfl) ?_ ?_
  ·
   refine Turn.ef rfl rfl (ef_pv (pv_load rfl rfl rfl) rfl) ?_ ?_
   ·
    rintro _ _ ⟨rfl, rfl⟩; infer_instance
   rintro _ _ ⟨rfl, rfl⟩
   refine AnyH.one 15 (by kernel_rfl) ?_
   refine Turn.ef rfl rfl (ef_call (tr_rtwoS b2 (lwS 4 (lwS 2 (lwS 2 (lwS 2 (lwS 2 (lwS 2 u5)))))) (lwS_le (lwS_le (lwS_le (lwS_le (lwS_le (lwS_le hu5))))))) rfl rfl) ?_ ?_
   ·
    rintro _ _ ⟨_, _, ⟨rfl, rfl⟩, rfl, rfl⟩; infer_instance
   rintro _ _ ⟨_, _, ⟨rfl, rfl⟩, rfl, rfl⟩
   refine AnyH.app ?_
   refine AnyH.one 17 (by kernel_rfl) ?_
   refine Turn.ef rfl rfl (ef_call (tr_rtwoS b2 (lwS 2 (lwS 4 (lwS 2 (lwS 2 (lwS 2 (lwS 2 (lwS 2 u5))))))) (lwS_le (lwS_le (lwS_le (lwS_le (lwS_le (lwS_le (lwS_le hu5)))))))) rfl rfl) ?_ ?_
   ·
    rintro _ _ ⟨_, _, ⟨rfl, rfl⟩, rfl, rfl⟩; infer_instance
   rintro _ _ ⟨_, _, ⟨rfl, rfl⟩, rfl, rfl⟩
   refine AnyH.app ?_
   refine Tk 18 rfl rfl (pv_sub rfl rfl (r := ((lwV 2 (lwS 2 (lwS 4 (lwS 2 (lwS 2 (lwS 2 (lwS 2 (lwS 2 u5))))))) : Nat) : Int) - 1) (by have := lwV2i (lwS 2 (lwS 4 (lwS 2 (lwS 2 (lwS 2 (lwS 2 (lwS 2 u5))))))); exact w64 (by omega) (by omega))) rfl ?_
   refine Tk 19 rfl rfl (pv_build rfl) rfl ?_
   refine AnyH.one 20 (by kernel_rfl) ?_
   refine Turn.ef rfl rfl (ef_buildSlice1 (k := 8) rfl rfl rfl rfl rfl) ?_ ?_
   ·
    rintro _ _ ⟨b31, rfl, rfl⟩; infer_instance
   rintro _ _ ⟨b31, rfl, rfl⟩
   refine AnyH.one 21 (by kernel_rfl) ?_
   refine Turn.ef rfl rfl (ef_append (H := G5) (xs := [.int .i64 ((lwV 2 u5 : Nat) : Int), .int .i64 ((lwV 2 (lwS 2 u5) : Nat) : Int), .int .i64 ((lwV 2 (lwS 2 (lwS 2 u5)) : Nat) : Int), .int .i64 ((lwV 2 (lwS 2 (lwS 2 (lwS 2 u5))) : Nat) : Int), .int .i64 ((lwV 2 (lwS 2 (lwS 2 (lwS 2 (lwS 2 u5)))) : Nat) : Int), .int .u64 ((lwV 4 (lwS 2 (lwS 2 (lwS 2 (lwS 2 (lwS 2 u5))))) : Nat) : Int), .int .i64 ((lwV 2 (lwS 4 (lwS 2 (lwS 2 (lwS 2 (lwS 2 (lwS 2 u5)))))) : Nat) : Int), .int .i64 (((lwV 2 (lwS 2 (lwS 4 (lwS 2 (lwS 2 (lwS 2 (lwS 2 (lwS 2 u5))))))) : Nat) : Int) - 1)]) rfl hsv rfl ⟨rfl, rfl, rfl, rfl, rfl, rfl, rfl, rfl, trivial⟩ rfl rfl rfl (by omega) (by omega) rfl rfl) ?_ ?_
   ·
    rintro _ _ ⟨vn26, Hn, hn26, rfl, rfl⟩; infer_instance
   rintro _ _ ⟨vn26, Hn, hn26, rfl, rfl⟩
   refine AnyH.app ?_
   have hsn : Slc 70 8 vn26 (k5.length + 1) (cel (cE fsT) (k5 ++ [lnEl fsT u5])) Hn := by rw [cel_app, cel_one1]; exact hn26
   obtain ⟨x9, y9, rfl⟩ := hsn.form
   refine Tk 22 rfl rfl (pv_fieldAddr0 rfl rfl) rfl ?_
   refine AnyH.one 23 (by kernel_rfl) ?_
   refine Turn.ef rfl rfl (ef_store1 rfl rfl (by first | rfl | assumption) (by first | rfl | assumption)) ?_ ?_
   ·
    rintro _ _ ⟨rfl, rfl⟩; infer_instance
   rintro _ _ ⟨rfl, rfl⟩
   refine AnyH.done (by kernel_rfl) ?_
   refine Ends.block_normal ?_
   refine Ends.seq ?_
   refine Wp.region ?_
   refine Om1 rfl rfl ?_
   refine Ops.pv (pv_sub rfl rfl (w64n (k := i) (by omega) (by omega))) rfl ?_
   refine Oa1 rfl rfl ?_
   refine Ops.nil ?_
   refine Ends.goes ?_
   refine Goes.back (hK (i, (lwS 2 (lwS 2 (lwS 4 (lwS 2 (lwS 2 (lwS 2 (lwS 2 (lwS 2 u5)))))))), k5 ++ [lnEl fsT u5], .slice x9 (k5.length + 1) y9, Hn) ⟨by dsimp only; rw [List.length_append, List.length_singleton]; omega, (lwS_le (lwS_le (lwS_le (lwS_le (lwS_le (lwS_le (lwS_le (lwS_le hu5)))))))), (lnI_step hnb).symm.trans hln, by rw [List.length_append]; exact hsn⟩ (by dsimp only; omega)) ⟨rfl, rfl, rfl, rfl, trivial⟩
  refine Turn.ef rfl rfl (ef_call (tr_rtwoS b2 (lwS 4 (lwS 2 (lwS 2 (lwS 2 (lwS 2 (lwS 2 u5)))))) (lwS_le (lwS_le (lwS_le (lwS_le (lwS_le (lwS_le hu5))))))) rfl rfl) ?_ ?_
  ·
   rintro _ _ ⟨_, _, ⟨rfl, rfl⟩, rfl, rfl⟩; infer_instance
  rintro _ _ ⟨_, _, ⟨rfl, rfl⟩, rfl, rfl⟩
  refine AnyH.app ?_
  refine AnyH.two 1 17 (by kernel_rfl) ?_ ?_
  ·
   refine Turn.ef rfl rfl (ef_pv (pv_load rfl rfl rfl) rfl) ?_ ?_
   ·
    rintro _ _ ⟨rfl, rfl⟩; infer_instance
   rintro _ _ ⟨rfl, rfl⟩
   refine AnyH.one 17 (by kernel_rfl) ?_
   refine Turn.ef rfl rfl (ef_call (tr_rtwoS b2 (lwS 2 (lwS 4 (lwS 2 (lwS 2 (lwS 2 (lwS 2 (lwS 2 u5))))))) (lwS_le (lwS_le (lwS_le (lwS_le (lwS_le (lwS_le (lwS_le hu5)))))))) rfl rfl) ?_ ?_
   ·
    rintro _ _ ⟨_, _, ⟨rfl, rfl⟩, rfl, rfl⟩; infer_instance
   rintro _ _ ⟨_, _, ⟨rfl, rfl⟩, rfl, rfl⟩
   refine AnyH.app ?_
   refine Tk 18 rfl rfl (pv_sub rfl rfl (r := ((lwV 2 (lwS 2 (lwS 4 (lwS 2 (lwS 2 (lwS 2 (lwS 2 (lwS 2 u5))))))) : Nat) : Int) - 1) (by have := lwV2i (lwS 2 (lwS 4 (lwS 2 (lwS 2 (lwS 2 (lwS 2 (lwS 2 u5))))))); exact w64 (by omega) (by omega))) rfl ?_
   refine Tk 19 rfl rfl (pv_build rfl) rfl ?_
   refine AnyH.one 20 (by kernel_rfl) ?_
   refine Turn.ef rfl rfl (ef_buildSlice1 (k := 8) rfl rfl rfl rfl rfl) ?_ ?_
   ·
    rintro _ _ ⟨b32, rfl, rfl⟩; infer_instance
   rintro _ _ ⟨b32, rfl, rfl⟩
   refine AnyH.one 21 (by kernel_rfl) ?_
   refine Turn.ef rfl rfl (ef_append (H := G5) (xs := [.int .i64 ((lwV 2 u5 : Nat) : Int), .int .i64 ((lwV 2 (lwS 2 u5) : Nat) : Int), .int .i64 ((lwV 2 (lwS 2 (lwS 2 u5)) : Nat) : Int), .int .i64 ((lwV 2 (lwS 2 (lwS 2 (lwS 2 u5))) : Nat) : Int), .int .i64 ((lwV 2 (lwS 2 (lwS 2 (lwS 2 (lwS 2 u5)))) : Nat) : Int), .int .u64 ((lwV 4 (lwS 2 (lwS 2 (lwS 2 (lwS 2 (lwS 2 u5))))) : Nat) : Int), .int .i64 ((lwV 2 (lwS 4 (lwS 2 (lwS 2 (lwS 2 (lwS 2 (lwS 2 u5)))))) : Nat) : Int), .int .i64 (((lwV 2 (lwS 2 (lwS 4 (lwS 2 (lwS 2 (lwS 2 (lwS 2 (lwS 2 u5))))))) : Nat) : Int) - 1)]) rfl hsv rfl ⟨rfl, rfl, rfl, rfl, rfl, rfl, rfl, rfl, trivial⟩ rfl rfl rfl (by omega) (by omega) rfl rfl) ?_ ?_
   ·
    rintro _ _ ⟨vn27, Hn, hn27, rfl, rfl⟩; infer_instance
   rintro _ _ ⟨vn27, Hn, hn27, rfl, rfl⟩
   refine AnyH.app ?_
   have hsn : Slc 70 8 vn27 (k5.length + 1) (cel (cE fsT) (k5 ++ [lnEl fsT u5])) Hn := by rw [cel_app, cel_one1]; exact hn27
   obtain ⟨x9, y9, rfl⟩ := hsn.form
   refine Tk 22 rfl rfl (pv_fieldAddr0 rfl rfl) rfl ?_
   refine AnyH.one 23 (by kernel_rfl) ?_
   refine Turn.ef rfl rfl (ef_store1 rfl rfl (by first | rfl | assumption) (by first | rfl | assumption)) ?_ ?_
   ·
    rintro _ _ ⟨rfl, rfl⟩; infer_instance
   rintro _ _ ⟨rfl, rfl⟩
   refine AnyH.done (by kernel_rfl) ?_
   refine Ends.block_normal ?_
   refine Ends.seq ?_
   refine Wp.region ?_
   refine Om1 rfl rfl ?_
   refine Ops.pv (pv_sub rfl rfl (w64n (k := i) (by omega) (by omega))) rfl ?_
   refine Oa1 rfl rfl ?_
   refine Ops.nil ?_
   refine Ends.goes ?_
   refine Goes.back (hK (i, (lwS 2 (lwS 2 (lwS 4 (lwS 2 (lwS 2 (lwS 2 (lwS 2 (lwS 2 u5)))))))), k5 ++ [lnEl fsT u5], .slice x9 (k5.length + 1) y9, Hn) ⟨by dsimp only; rw [List.length_append, List.length_singleton]; omega, (lwS_le (lwS_le (lwS_le (lwS_le (lwS_le (lwS_le (lwS_le (lwS_le hu5)))))))), (lnI_step hnb).symm.trans hln, by rw [List.length_append]; exact hsn⟩ (by dsimp only; omega)) ⟨rfl, rfl, rfl, rfl, trivial⟩
  refine Turn.ef rfl rfl (ef_call (tr_rtwoS b2 (lwS 2 (lwS 4 (lwS 2 (lwS 2 (lwS 2 (lwS 2 (lwS 2 u5))))))) (lwS_le (lwS_le (lwS_le (lwS_le (lwS_le (lwS_le (lwS_le hu5)))))))) rfl rfl) ?_ ?_
  ·
   rintro _ _ ⟨_, _, ⟨rfl, rfl⟩, rfl, rfl⟩; infer_instance
  rintro _ _ ⟨_, _, ⟨rfl, rfl⟩, rfl, rfl⟩
  refine AnyH.app ?_
  refine Tk 18 rfl rfl (pv_sub rfl rfl (r := ((lwV 2 (lwS 2 (lwS 4 (lwS 2 (lwS 2 (lwS 2 (lwS 2 (lwS 2 u5))))))) : Nat) : Int) - 1) (by have := lwV2i (lwS 2 (lwS 4 (lwS 2 (lwS 2 (lwS 2 (lwS 2 (lwS 2 u5))))))); exact w64 (by omega) (by omega))) rfl ?_
  refine Tk 19 rfl rfl (pv_build rfl) rfl ?_
  refine AnyH.two 1 20 (by kernel_rfl) ?_ ?_
  ·
   refine Turn.ef rfl rfl (ef_pv (pv_load rfl rfl rfl) rfl) ?_ ?_
   ·
    rintro _ _ ⟨rfl, rfl⟩; infer_instance
   rintro _ _ ⟨rfl, rfl⟩
   refine AnyH.one 20 (by kernel_rfl) ?_
   refine Turn.ef rfl rfl (ef_buildSlice1 (k := 8) rfl rfl rfl rfl rfl) ?_ ?_
   ·
    rintro _ _ ⟨b33, rfl, rfl⟩; infer_instance
   rintro _ _ ⟨b33, rfl, rfl⟩
   refine AnyH.one 21 (by kernel_rfl) ?_
   refine Turn.ef rfl rfl (ef_append (H := G5) (xs := [.int .i64 ((lwV 2 u5 : Nat) : Int), .int .i64 ((lwV 2 (lwS 2 u5) : Nat) : Int), .int .i64 ((lwV 2 (lwS 2 (lwS 2 u5)) : Nat) : Int), .int .i64 ((lwV 2 (lwS 2 (lwS 2 (lwS 2 u5))) : Nat) : Int), .int .i64 ((lwV 2 (lwS 2 (lwS 2 (lwS 2 (lwS 2 u5)))) : Nat) : Int), .int .u64 ((lwV 4 (lwS 2 (lwS 2 (lwS 2 (lwS 2 (lwS 2 u5))))) : Nat) : Int), .int .i64 ((lwV 2 (lwS 4 (lwS 2 (lwS 2 (lwS 2 (lwS 2 (lwS 2 u5)))))) : Nat) : Int), .int .i64 (((lwV 2 (lwS 2 (lwS 4 (lwS 2 (lwS 2 (lwS 2 (lwS 2 (lwS 2 u5))))))) : Nat) : Int) - 1)]) rfl hsv rfl ⟨rfl, rfl, rfl, rfl, rfl, rfl, rfl, rfl, trivial⟩ rfl rfl rfl (by omega) (by omega) rfl rfl) ?_ ?_
   ·
    rintro _ _ ⟨vn28, Hn, hn28, rfl, rfl⟩; infer_instance
   rintro _ _ ⟨vn28, Hn, hn28, rfl, rfl⟩
   refine AnyH.app ?_
   have hsn : Slc 70 8 vn28 (k5.length + 1) (cel (cE fsT) (k5 ++ [lnEl fsT u5])) Hn := by rw [cel_app, cel_one1]; exact hn28
   obtain ⟨x9, y9, rfl⟩ := hsn.form
   refine Tk 22 rfl rfl (pv_fieldAddr0 rfl rfl) rfl ?_
   refine AnyH.one 23 (by kernel_rfl) ?_
   refine Turn.ef rfl rfl (ef_store1 rfl rfl (by first | rfl | assumption) (by first | rfl | assumption)) ?_ ?_
   ·
    rintro _ _ ⟨rfl, rfl⟩; infer_instance
   rintro _ _ ⟨rfl, rfl⟩
   refine AnyH.done (by kernel_rfl) ?_
   refine Ends.block_normal ?_
   refine Ends.seq ?_
   refine Wp.region ?_
   refine Om1 rfl rfl ?_
   refine Ops.pv (pv_sub rfl rfl (w64n (k := i) (by omega) (by omega))) rfl ?_
   refine Oa1 rfl rfl ?_
   refine Ops.nil ?_
   refine Ends.goes ?_
   refine Goes.back (hK (i, (lwS 2 (lwS 2 (lwS 4 (lwS 2 (lwS 2 (lwS 2 (lwS 2 (lwS 2 u5)))))))), k5 ++ [lnEl fsT u5], .slice x9 (k5.length + 1) y9, Hn) ⟨by dsimp only; rw [List.length_append, List.length_singleton]; omega, (lwS_le (lwS_le (lwS_le (lwS_le (lwS_le (lwS_le (lwS_le (lwS_le hu5)))))))), (lnI_step hnb).symm.trans hln, by rw [List.length_append]; exact hsn⟩ (by dsimp only; omega)) ⟨rfl, rfl, rfl, rfl, trivial⟩
  refine Turn.ef rfl rfl (ef_buildSlice1 (k := 8) rfl rfl rfl rfl rfl) ?_ ?_
  ·
   rintro _ _ ⟨b34, rfl, rfl⟩; infer_instance
  rintro _ _ ⟨b34, rfl, rfl⟩
  refine AnyH.one 1 (by kernel_rfl) ?_
  refine Turn.ef rfl rfl (ef_pv (pv_load rfl rfl rfl) rfl) ?_ ?_
  ·
   rintro _ _ ⟨rfl, rfl⟩; infer_instance
  rintro _ _ ⟨rfl, rfl⟩
  refine AnyH.one 21 (by kernel_rfl) ?_
  refine Turn.ef rfl rfl (ef_append (H := G5) (xs := [.int .i64 ((lwV 2 u5 : Nat) : Int), .int .i64 ((lwV 2 (lwS 2 u5) : Nat) : Int), .int .i64 ((lwV 2 (lwS 2 (lwS 2 u5)) : Nat) : Int), .int .i64 ((lwV 2 (lwS 2 (lwS 2 (lwS 2 u5))) : Nat) : Int), .int .i64 ((lwV 2 (lwS 2 (lwS 2 (lwS 2 (lwS 2 u5)))) : Nat) : Int), .int .u64 ((lwV 4 (lwS 2 (lwS 2 (lwS 2 (lwS 2 (lwS 2 u5))))) : Nat) : Int), .int .i64 ((lwV 2 (lwS 4 (lwS 2 (lwS 2 (lwS 2 (lwS 2 (lwS 2 u5)))))) : Nat) : Int), .int .i64 (((lwV 2 (lwS 2 (lwS 4 (lwS 2 (lwS 2 (lwS 2 (lwS 2 (lwS 2 u5))))))) : Nat) : Int) - 1)]) rfl hsv rfl ⟨rfl, rfl, rfl, rfl, rfl, rfl, rfl, rfl, trivial⟩ rfl rfl rfl (by omega) (by omega) rfl rfl) ?_ ?_
  ·
   rintro _ _ ⟨vn29, Hn, hn29, rfl, rfl⟩; infer_instance
  rintro _ _ ⟨vn29, Hn, hn29, rfl, rfl⟩
  refine AnyH.app ?_
  have hsn : Slc 70 8 vn29 (k5.length + 1) (cel (cE fsT) (k5 ++ [lnEl fsT u5])) Hn := by rw [cel_app, cel_one1]; exact hn29
  obtain ⟨x9, y9, rfl⟩ := hsn.form
  refine Tk 22 rfl rfl (pv_fieldAddr0 rfl rfl) rfl ?_
  refine AnyH.one 23 (by kernel_rfl) ?_
  refine Turn.ef rfl rfl (ef_store1 rfl rfl (by first | rfl | assumption) (by first | rfl | assumption)) ?_ ?_
  ·
   rintro _ _ ⟨rfl, rfl⟩; infer_instance
  rintro _ _ ⟨rfl, rfl⟩
  refine AnyH.done (by kernel_rfl) ?_
  refine Ends.block_normal ?_
  refine Ends.seq ?_
  refine Wp.region ?_
  refine Om1 rfl rfl ?_
  refine Ops.pv (pv_sub rfl rfl (w64n (k := i) (by omega) (by omega))) rfl ?_
  refine Oa1 rfl rfl ?_
  refine Ops.nil ?_
  refine Ends.goes ?_
  refine Goes.back (hK (i, (lwS 2 (lwS 2 (lwS 4 (lwS 2 (lwS 2 (lwS 2 (lwS 2 (lwS 2 u5)))))))), k5 ++ [lnEl fsT u5], .slice x9 (k5.length + 1) y9, Hn) ⟨by dsimp only; rw [List.length_append, List.length_singleton]; omega, (lwS_le (lwS_le (lwS_le (lwS_le (lwS_le (lwS_le (lwS_le (lwS_le hu5)))))))), (lnI_step hnb).symm.trans hln, by rw [List.length_append]; exact hsn⟩ (by dsimp only; omega)) ⟨rfl, rfl, rfl, rfl, trivial⟩
 have hz : i = 0 ∨ u5.1 = true := by
  rcases Nat.eq_zero_or_pos i with h | h
  ·
   exact .inl h
  ·
   right; apply Classical.byContradiction; intro hb; exact absurd (⟨by omega, hb⟩ : (i : Int) > 0 ∧ ¬ u5.1 = true) (by assumption)
 have hL5 : lnL fsT u4 = (k5, u5) := hln.symm.trans (lnI_stop hz)
 obtain ⟨p5, q5, rfl⟩ := hsv.form
 have hg5 := hsv
 refine Wp.exit ?_
 refine Ends.then_exit ?_
 refine Ends.then_exit ?_
 refine Ends.block_hit ?_
 refine Ends.seq ?_
 refine Wp.seq ?_
 refine Wr ?_
 refine Om1 rfl rfl ?_
 refine Ops.ef rfl (ef_call (tr_rtwoS b2 u5 hu5) rfl rfl) ?_
 rintro _ _ ⟨_, _, ⟨rfl, rfl⟩, rfl, rfl⟩
 refine Ops.app ?_
 refine Oa1 rfl rfl ?_
 refine On ?_
 refine Wp.block ?_
 refine Wp.loopK (σ := Nat × St × List (El fsW) × Value × Hp) [(2, _), (4, _), (5, _)] (fun s => [(14, .int .i64 s.1)]) (fun s => rdB b2 s.2.1 :: ((b3, .cells [.slice p1 k1.length q1, .slice p2 k2.length q2, .slice p3 k3.length q3, .slice p4 k4.length q4, .slice p5 k5.length q5, s.2.2.2.1, .slice none 0 0].toArray 30) :: ((b1, .cells [.slice none 0 0, .slice none 0 0, .slice none 0 0, .slice none 0 0, .slice none 0 0, .slice none 0 0, .slice none 0 0].toArray 30) :: (G1 ++ (G2 ++ (G3 ++ (G4 ++ (G5 ++ (s.2.2.2.2 ++ F))))))))) (fun s => s.2.2.1.length + s.1 ≤ 65535 ∧ s.2.1.2.length ≤ 2 ^ 40 ∧ lnI fsW s.1 s.2.1 s.2.2.1 = lnL fsW u5 ∧ Slc 73 4 s.2.2.2.1 s.2.2.1.length (cel (cE fsW) s.2.2.1) s.2.2.2.2) (fun s => s.1) (lwV 2 u5, lwS 2 u5, [], .slice none 0 0, []) ⟨by have := lwV2i u5; dsimp only [List.length_nil]; omega, lwS_le hu5, rfl, Slc.nil _ _⟩ ⟨rfl, rfl, rfl, trivial⟩ ⟨rfl, trivial⟩ (by intro w ho; (try dsimp only [List.nil_append, List.cons_append]); exact Drop.own ho) ?_
 rintro ⟨i, u6, k6, vv, G6⟩ KK ⟨hc6, hu6, hln, hsv⟩ hK
 dsimp only [List.cons_append, List.nil_append] at hK ⊢
 dsimp only at hc6 hu6 hln hsv ⊢
 refine Wp.seq ?_
 refine Wr ?_
 refine Om1 rfl rfl ?_
 refine Ops.pv (pv_gtr rfl rfl) rfl ?_
 refine Om1 rfl rfl ?_
 refine Ops.pvc rfl rfl (fun hg => pv_move rfl) rfl ?_
 refine Ops.pvc rfl rfl (fun hg => Pv.setE (t := 201) rfl (cv_pos hg) (pv_nilCheck rfl)) rfl ?_
 refine Ops.pvc rfl rfl (fun hg => Pv.setE (t := 201) rfl (cv_pos hg) (Pv.setE (t := 202) rfl (cv_pos hg) (pv_fieldAddr0 rfl rfl))) rfl ?_
 refine Ops.pvc rfl rfl (fun hg => Pv.setE (t := 201) rfl (cv_pos hg) (Pv.setE (t := 202) rfl (cv_pos hg) (Pv.setE (t := 203) rfl (cv_pos hg) (pv_load (v := .bool (decide (u6.1 = true))) rfl rfl (nth_dec rfl))))) rfl ?_
 refine Ops.pvc rfl rfl (fun hg => Pv.setE (t := 201) rfl (cv_pos hg) (Pv.setE (t := 202) rfl (cv_pos hg) (Pv.setE (t := 203) rfl (cv_pos hg) (Pv.setE (t := 204) rfl (cv_pos hg) (pv_not_dec rfl))))) rfl ?_
 refine Ops.pv (pv_pick_and rfl rfl) rfl ?_
 refine On ?_
 refine Wp.cond_dect rfl (fun h7 => ?_) (fun h7 => ?_)
 ·
  obtain ⟨hi0, hnb⟩ : (i : Int) > 0 ∧ ¬ u6.1 = true := by assumption
  obtain ⟨i, rfl⟩ : ∃ q, i = q + 1 := ⟨i - 1, by omega⟩
  refine Wp.skip ?_
  refine Ends.seq ?_
  refine Wp.seq ?_
  refine Wp.block ?_
  refine AnyH.start ([] : Hp) 15 rfl ?_
  refine Tk 0 rfl rfl (pv_fieldAddr0 rfl rfl) rfl ?_
  refine Tk 2 rfl rfl (pv_move rfl) rfl ?_
  refine Tk 4 rfl rfl (pv_move rfl) rfl ?_
  refine Tk 6 rfl rfl (pv_move rfl) rfl ?_
  refine Tk 8 rfl rfl (pv_move rfl) rfl ?_
  refine AnyH.two 1 3 (by kernel_rfl) ?_ ?_
  ·
   refine Turn.ef rfl rfl (ef_pv (pv_load rfl rfl rfl) rfl) ?_ ?_
   ·
    rintro _ _ ⟨rfl, rfl⟩; infer_instance
   rintro _ _ ⟨rfl, rfl⟩
   refine AnyH.one 3 (by kernel_rfl) ?_
   refine Turn.ef rfl rfl (ef_call (tr_rtwoS b2 u6 hu6) rfl rfl) ?_ ?_
   ·
    rintro _ _ ⟨_, _, ⟨rfl, rfl⟩, rfl, rfl⟩; infer_instance
   rintro _ _ ⟨_, _, ⟨rfl, rfl⟩, rfl, rfl⟩
   refine AnyH.app ?_
   refine AnyH.one 5 (by kernel_rfl) ?_
   refine Turn.ef rfl rfl (ef_call (tr_rtwoS b2 (lwS 2 u6) (lwS_le hu6)) rfl rfl) ?_ ?_
   ·
    rintro _ _ ⟨_, _, ⟨rfl, rfl⟩, rfl, rfl⟩; infer_instance
   rintro _ _ ⟨_, _, ⟨rfl, rfl⟩, rfl, rfl⟩
   refine AnyH.app ?_
   refine AnyH.one 7 (by kernel_rfl) ?_
   refine Turn.ef rfl rfl (ef_call (tr_rtwoS b2 (lwS 2 (lwS 2 u6)) (lwS_le (lwS_le hu6))) rfl rfl) ?_ ?_
   ·
    rintro _ _ ⟨_, _, ⟨rfl, rfl⟩, rfl, rfl⟩; infer_instance
   rintro _ _ ⟨_, _, ⟨rfl, rfl⟩, rfl, rfl⟩
   refine AnyH.app ?_
   refine AnyH.one 9 (by kernel_rfl) ?_
   refine Turn.ef rfl rfl (ef_call (tr_rwordS b2 4 (lwS 2 (lwS 2 (lwS 2 u6))) (by decide) (by decide) (lwS_le (lwS_le (lwS_le hu6)))) rfl rfl) ?_ ?_
   ·
    rintro _ _ ⟨_, _, ⟨rfl, rfl⟩, rfl, rfl⟩; infer_instance
   rintro _ _ ⟨_, _, ⟨rfl, rfl⟩, rfl, rfl⟩
   refine AnyH.app ?_
   refine Tk 10 rfl rfl (pv_build rfl) rfl ?_
   refine AnyH.one 11 (by kernel_rfl) ?_
   refine Turn.ef rfl rfl (ef_buildSlice1 (k := 4) rfl rfl rfl rfl rfl) ?_ ?_
   ·
    rintro _ _ ⟨b35, rfl, rfl⟩; infer_instance
   rintro _ _ ⟨b35, rfl, rfl⟩
   refine AnyH.one 12 (by kernel_rfl) ?_
   refine Turn.ef rfl rfl (ef_append (H := G6) (xs := [.int .i64 ((lwV 2 u6 : Nat) : Int), .int .i64 ((lwV 2 (lwS 2 u6) : Nat) : Int), .int .i64 ((lwV 2 (lwS 2 (lwS 2 u6)) : Nat) : Int), .int .u64 ((lwV 4 (lwS 2 (lwS 2 (lwS 2 u6))) : Nat) : Int)]) rfl hsv rfl ⟨rfl, rfl, rfl, rfl, trivial⟩ rfl rfl rfl (by omega) (by omega) rfl rfl) ?_ ?_
   ·
    rintro _ _ ⟨vn30, Hn, hn30, rfl, rfl⟩; infer_instance
   rintro _ _ ⟨vn30, Hn, hn30, rfl, rfl⟩
   refine AnyH.app ?_
   have hsn : Slc 73 4 vn30 (k6.length + 1) (cel (cE fsW) (k6 ++ [lnEl fsW u6])) Hn := by rw [cel_app, cel_one1]; exact hn30
   obtain ⟨x9, y9, rfl⟩ := hsn.form
   refine Tk 13 rfl rfl (pv_fieldAddr0 rfl rfl) rfl ?_
   refine AnyH.one 14 (by kernel_rfl) ?_
   refine Turn.ef rfl rfl (ef_store1 rfl rfl (by first | rfl | assumption) (by first | rfl | assumption)) ?_ ?_
   ·
    rintro _ _ ⟨rfl, rfl⟩; infer_instance
   rintro _ _ ⟨rfl, rfl⟩
   refine AnyH.done (by kernel_rfl) ?_
   refine Ends.block_normal ?_
   refine Ends.seq ?_
   refine Wp.region ?_
   refine Om1 rfl rfl ?_
   refine Ops.pv (pv_sub rfl rfl (w64n (k := i) (by omega) (by omega))) rfl ?_
   refine Oa1 rfl rfl ?_
   refine Ops.nil ?_
   refine Ends.goes ?_
   refine Goes.back (hK (i, (lwS 4 (lwS 2 (lwS 2 (lwS 2 u6)))), k6 ++ [lnEl fsW u6], .slice x9 (k6.length + 1) y9, Hn) ⟨by dsimp only; rw [List.length_append, List.length_singleton]; omega, (lwS_le (lwS_le (lwS_le (lwS_le hu6)))), (lnI_step hnb).symm.trans hln, by rw [List.length_append]; exact hsn⟩ (by dsimp only; omega)) ⟨rfl, rfl, rfl, rfl, trivial⟩
  refine Turn.ef rfl rfl (ef_call (tr_rtwoS b2 u6 hu6) rfl rfl) ?_ ?_
  ·
   rintro _ _ ⟨_, _, ⟨rfl, rfl⟩, rfl, rfl⟩; infer_instance
  rintro _ _ ⟨_, _, ⟨rfl, rfl⟩, rfl, rfl⟩
  refine AnyH.app ?_
  refine AnyH.two 1 5 (by kernel_rfl) ?_ ?_
  ·
   refine Turn.ef rfl rfl (ef_pv (pv_load rfl rfl rfl) rfl) ?_ ?_
   ·
    rintro _ _ ⟨rfl, rfl⟩; infer_instance
   rintro _ _ ⟨rfl, rfl⟩
   refine AnyH.one 5 (by kernel_rfl) ?_
   refine Turn.ef rfl rfl (ef_call (tr_rtwoS b2 (lwS 2 u6) (lwS_le hu6)) rfl rfl) ?_ ?_
   ·
    rintro _ _ ⟨_, _, ⟨rfl, rfl⟩, rfl, rfl⟩; infer_instance
   rintro _ _ ⟨_, _, ⟨rfl, rfl⟩, rfl, rfl⟩
   refine AnyH.app ?_
   refine AnyH.one 7 (by kernel_rfl) ?_
   refine Turn.ef rfl rfl (ef_call (tr_rtwoS b2 (lwS 2 (lwS 2 u6)) (lwS_le (lwS_le hu6))) rfl rfl) ?_ ?_
   ·
    rintro _ _ ⟨_, _, ⟨rfl, rfl⟩, rfl, rfl⟩; infer_instance
   rintro _ _ ⟨_, _, ⟨rfl, rfl⟩, rfl, rfl⟩
   refine AnyH.app ?_
   refine AnyH.one 9 (by kernel_rfl) ?_
   refine Turn.ef rfl rfl (ef_call (tr_rwordS b2 4 (lwS 2 (lwS 2 (lwS 2 u6))) (by decide) (by decide) (lwS_le (lwS_le (lwS_le hu6)))) rfl rfl) ?_ ?_
   ·
    rintro _ _ ⟨_, _, ⟨rfl, rfl⟩, rfl, rfl⟩; infer_instance
   rintro _ _ ⟨_, _, ⟨rfl, rfl⟩, rfl, rfl⟩
   refine AnyH.app ?_
   refine Tk 10 rfl rfl (pv_build rfl) rfl ?_
   refine AnyH.one 11 (by kernel_rfl) ?_
   refine Turn.ef rfl rfl (ef_buildSlice1 (k := 4) rfl rfl rfl rfl rfl) ?_ ?_
   ·
    rintro _ _ ⟨b36, rfl, rfl⟩; infer_instance
   rintro _ _ ⟨b36, rfl, rfl⟩
   refine AnyH.one 12 (by kernel_rfl) ?_
   refine Turn.ef rfl rfl (ef_append (H := G6) (xs := [.int .i64 ((lwV 2 u6 : Nat) : Int), .int .i64 ((lwV 2 (lwS 2 u6) : Nat) : Int), .int .i64 ((lwV 2 (lwS 2 (lwS 2 u6)) : Nat) : Int), .int .u64 ((lwV 4 (lwS 2 (lwS 2 (lwS 2 u6))) : Nat) : Int)]) rfl hsv rfl ⟨rfl, rfl, rfl, rfl, trivial⟩ rfl rfl rfl (by omega) (by omega) rfl rfl) ?_ ?_
   ·
    rintro _ _ ⟨vn31, Hn, hn31, rfl, rfl⟩; infer_instance
   rintro _ _ ⟨vn31, Hn, hn31, rfl, rfl⟩
   refine AnyH.app ?_
   have hsn : Slc 73 4 vn31 (k6.length + 1) (cel (cE fsW) (k6 ++ [lnEl fsW u6])) Hn := by rw [cel_app, cel_one1]; exact hn31
   obtain ⟨x9, y9, rfl⟩ := hsn.form
   refine Tk 13 rfl rfl (pv_fieldAddr0 rfl rfl) rfl ?_
   refine AnyH.one 14 (by kernel_rfl) ?_
   refine Turn.ef rfl rfl (ef_store1 rfl rfl (by first | rfl | assumption) (by first | rfl | assumption)) ?_ ?_
   ·
    rintro _ _ ⟨rfl, rfl⟩; infer_instance
   rintro _ _ ⟨rfl, rfl⟩
   refine AnyH.done (by kernel_rfl) ?_
   refine Ends.block_normal ?_
   refine Ends.seq ?_
   refine Wp.region ?_
   refine Om1 rfl rfl ?_
   refine Ops.pv (pv_sub rfl rfl (w64n (k := i) (by omega) (by omega))) rfl ?_
   refine Oa1 rfl rfl ?_
   refine Ops.nil ?_
   refine Ends.goes ?_
   refine Goes.back (hK (i, (lwS 4 (lwS 2 (lwS 2 (lwS 2 u6)))), k6 ++ [lnEl fsW u6], .slice x9 (k6.length + 1) y9, Hn) ⟨by dsimp only; rw [List.length_append, List.length_singleton]; omega, (lwS_le (lwS_le (lwS_le (lwS_le hu6)))), (lnI_step hnb).symm.trans hln, by rw [List.length_append]; exact hsn⟩ (by dsimp only; omega)) ⟨rfl, rfl, rfl, rfl, trivial⟩
  refine Turn.ef rfl rfl (ef_call (tr_rtwoS b2 (lwS 2 u6) (lwS_le hu6)) rfl rfl) ?_ ?_
  ·
   rintro _ _ ⟨_, _, ⟨rfl, rfl⟩, rfl, rfl⟩; infer_instance
  rintro _ _ ⟨_, _, ⟨rfl, rfl⟩, rfl, rfl⟩
  refine AnyH.app ?_
  refine AnyH.two 1 7 (by kernel_rfl) ?_ ?_
  ·
   refine Turn.ef rfl rfl (ef_pv (pv_load rfl rfl rfl) rfl) ?_ ?_
   ·
    rintro _ _ ⟨rfl, rfl⟩; infer_instance
   rintro _ _ ⟨rfl, rfl⟩
   refine AnyH.one 7 (by kernel_rfl) ?_
   refine Turn.ef rfl rfl (ef_call (tr_rtwoS b2 (lwS 2 (lwS 2 u6)) (lwS_le (lwS_le hu6))) rfl rfl) ?_ ?_
   ·
    rintro _ _ ⟨_, _, ⟨rfl, rfl⟩, rfl, rfl⟩; infer_instance
   rintro _ _ ⟨_, _, ⟨rfl, rfl⟩, rfl, rfl⟩
   refine AnyH.app ?_
   refine AnyH.one 9 (by kernel_rfl) ?_
   refine Turn.ef rfl rfl (ef_call (tr_rwordS b2 4 (lwS 2 (lwS 2 (lwS 2 u6))) (by decide) (by decide) (lwS_le (lwS_le (lwS_le hu6)))) rfl rfl) ?_ ?_
   ·
    rintro _ _ ⟨_, _, ⟨rfl, rfl⟩, rfl, rfl⟩; infer_instance
   rintro _ _ ⟨_, _, ⟨rfl, rfl⟩, rfl, rfl⟩
   refine AnyH.app ?_
   refine Tk 10 rfl rfl (pv_build rfl) rfl ?_
   refine AnyH.one 11 (by kernel_rfl) ?_
   refine Turn.ef rfl rfl (ef_buildSlice1 (k := 4) rfl rfl rfl rfl rfl) ?_ ?_
   ·
    rintro _ _ ⟨b37, rfl, rfl⟩; infer_instance
   rintro _ _ ⟨b37, rfl, rfl⟩
   refine AnyH.one 12 (by kernel_rfl) ?_
   refine Turn.ef rfl rfl (ef_append (H := G6) (xs := [.int .i64 ((lwV 2 u6 : Nat) : Int), .int .i64 ((lwV 2 (lwS 2 u6) : Nat) : Int), .int .i64 ((lwV 2 (lwS 2 (lwS 2 u6)) : Nat) : Int), .int .u64 ((lwV 4 (lwS 2 (lwS 2 (lwS 2 u6))) : Nat) : Int)]) rfl hsv rfl ⟨rfl, rfl, rfl, rfl, trivial⟩ rfl rfl rfl (by omega) (by omega) rfl rfl) ?_ ?_
   ·
    rintro _ _ ⟨vn32, Hn, hn32, rfl, rfl⟩; infer_instance
   rintro _ _ ⟨vn32, Hn, hn32, rfl, rfl⟩
   refine AnyH.app ?_
   have hsn : Slc 73 4 vn32 (k6.length + 1) (cel (cE fsW) (k6 ++ [lnEl fsW u6])) Hn := by rw [cel_app, cel_one1]; exact hn32
   obtain ⟨x9, y9, rfl⟩ := hsn.form
   refine Tk 13 rfl rfl (pv_fieldAddr0 rfl rfl) rfl ?_
   refine AnyH.one 14 (by kernel_rfl) ?_
   refine Turn.ef rfl rfl (ef_store1 rfl rfl (by first | rfl | assumption) (by first | rfl | assumption)) ?_ ?_
   ·
    rintro _ _ ⟨rfl, rfl⟩; infer_instance
   rintro _ _ ⟨rfl, rfl⟩
   refine AnyH.done (by kernel_rfl) ?_
   refine Ends.block_normal ?_
   refine Ends.seq ?_
   refine Wp.region ?_
   refine Om1 rfl rfl ?_
   refine Ops.pv (pv_sub rfl rfl (w64n (k := i) (by omega) (by omega))) rfl ?_
   refine Oa1 rfl rfl ?_
   refine Ops.nil ?_
   refine Ends.goes ?_
   refine Goes.back (hK (i, (lwS 4 (lwS 2 (lwS 2 (lwS 2 u6)))), k6 ++ [lnEl fsW u6], .slice x9 (k6.length + 1) y9, Hn) ⟨by dsimp only; rw [List.length_append, List.length_singleton]; omega, (lwS_le (lwS_le (lwS_le (lwS_le hu6)))), (lnI_step hnb).symm.trans hln, by rw [List.length_append]; exact hsn⟩ (by dsimp only; omega)) ⟨rfl, rfl, rfl, rfl, trivial⟩
  refine Turn.ef rfl rfl (ef_call (tr_rtwoS b2 (lwS 2 (lwS 2 u6)) (lwS_le (lwS_le hu6))) rfl rfl) ?_ ?_
  ·
   rintro _ _ ⟨_, _, ⟨rfl, rfl⟩, rfl, rfl⟩; infer_instance
  rintro _ _ ⟨_, _, ⟨rfl, rfl⟩, rfl, rfl⟩
  refine AnyH.app ?_
  refine AnyH.two 1 9 (by kernel_rfl) ?_ ?_
  ·
   refine Turn.ef rfl rfl (ef_pv (pv_load rfl rfl rfl) rfl) ?_ ?_
   ·
    rintro _ _ ⟨rfl, rfl⟩; infer_instance
   rintro _ _ ⟨rfl, rfl⟩
   refine AnyH.one 9 (by kernel_rfl) ?_
   refine Turn.ef rfl rfl (ef_call (tr_rwordS b2 4 (lwS 2 (lwS 2 (lwS 2 u6))) (by decide) (by decide) (lwS_le (lwS_le (lwS_le hu6)))) rfl rfl) ?_ ?_
   ·
    rintro _ _ ⟨_, _, ⟨rfl, rfl⟩, rfl, rfl⟩; infer_instance
   rintro _ _ ⟨_, _, ⟨rfl, rfl⟩, rfl, rfl⟩
   refine AnyH.app ?_
   refine Tk 10 rfl rfl (pv_build rfl) rfl ?_
   refine AnyH.one 11 (by kernel_rfl) ?_
   refine Turn.ef rfl rfl (ef_buildSlice1 (k := 4) rfl rfl rfl rfl rfl) ?_ ?_
   ·
    rintro _ _ ⟨b38, rfl, rfl⟩; infer_instance
   rintro _ _ ⟨b38, rfl, rfl⟩
   refine AnyH.one 12 (by kernel_rfl) ?_
   refine Turn.ef rfl rfl (ef_append (H := G6) (xs := [.int .i64 ((lwV 2 u6 : Nat) : Int), .int .i64 ((lwV 2 (lwS 2 u6) : Nat) : Int), .int .i64 ((lwV 2 (lwS 2 (lwS 2 u6)) : Nat) : Int), .int .u64 ((lwV 4 (lwS 2 (lwS 2 (lwS 2 u6))) : Nat) : Int)]) rfl hsv rfl ⟨rfl, rfl, rfl, rfl, trivial⟩ rfl rfl rfl (by omega) (by omega) rfl rfl) ?_ ?_
   ·
    rintro _ _ ⟨vn33, Hn, hn33, rfl, rfl⟩; infer_instance
   rintro _ _ ⟨vn33, Hn, hn33, rfl, rfl⟩
   refine AnyH.app ?_
   have hsn : Slc 73 4 vn33 (k6.length + 1) (cel (cE fsW) (k6 ++ [lnEl fsW u6])) Hn := by rw [cel_app, cel_one1]; exact hn33
   obtain ⟨x9, y9, rfl⟩ := hsn.form
   refine Tk 13 rfl rfl (pv_fieldAddr0 rfl rfl) rfl ?_
   refine AnyH.one 14 (by kernel_rfl) ?_
   refine Turn.ef rfl rfl (ef_store1 rfl rfl (by first | rfl | assumption) (by first | rfl | assumption)) ?_ ?_
   ·
    rintro _ _ ⟨rfl, rfl⟩; infer_instance
   rintro _ _ ⟨rfl, rfl⟩
   refine AnyH.done (by kernel_rfl) ?_
   refine Ends.block_normal ?_
   refine Ends.seq ?_
   refine Wp.region ?_
   refine Om1 rfl rfl ?_
   refine Ops.pv (pv_sub rfl rfl (w64n (k := i) (by omega) (by omega))) rfl ?_
   refine Oa1 rfl rfl ?_
   refine Ops.nil ?_
   refine Ends.goes ?_
   refine Goes.back (hK (i, (lwS 4 (lwS 2 (lwS 2 (lwS 2 u6)))), k6 ++ [lnEl fsW u6], .slice x9 (k6.length + 1) y9, Hn) ⟨by dsimp only; rw [List.length_append, List.length_singleton]; omega, (lwS_le (lwS_le (lwS_le (lwS_le hu6)))), (lnI_step hnb).symm.trans hln, by rw [List.length_append]; exact hsn⟩ (by dsimp only; omega)) ⟨rfl, rfl, rfl, rfl, trivial⟩
  refine Turn.ef rfl rfl (ef_call (tr_rwordS b2 4 (lwS 2 (lwS 2 (lwS 2 u6))) (by decide) (by decide) (lwS_le (lwS_le (lwS_le hu6)))) rfl rfl) ?_ ?_
  ·
   rintro _ _ ⟨_, _, ⟨rfl, rfl⟩, rfl, rfl⟩; infer_instance
  rintro _ _ ⟨_, _, ⟨rfl, rfl⟩, rfl, rfl⟩
  refine AnyH.app ?_
  refine Tk 10 rfl rfl (pv_build rfl) rfl ?_
  refine AnyH.two 1 11 (by kernel_rfl) ?_ ?_
  ·
   refine Turn.ef rfl rfl (ef_pv (pv_load rfl rfl rfl) rfl) ?_ ?_
   ·
    rintro _ _ ⟨rfl, rfl⟩; infer_instance
   rintro _ _ ⟨rfl, rfl⟩
   refine AnyH.one 11 (by kernel_rfl) ?_
   refine Turn.ef rfl rfl (ef_buildSlice1 (k := 4) rfl rfl rfl rfl rfl) ?_ ?_
   ·
    rintro _ _ ⟨b39, rfl, rfl⟩; infer_instance
   rintro _ _ ⟨b39, rfl, rfl⟩
   refine AnyH.one 12 (by kernel_rfl) ?_
   refine Turn.ef rfl rfl (ef_append (H := G6) (xs := [.int .i64 ((lwV 2 u6 : Nat) : Int), .int .i64 ((lwV 2 (lwS 2 u6) : Nat) : Int), .int .i64 ((lwV 2 (lwS 2 (lwS 2 u6)) : Nat) : Int), .int .u64 ((lwV 4 (lwS 2 (lwS 2 (lwS 2 u6))) : Nat) : Int)]) rfl hsv rfl ⟨rfl, rfl, rfl, rfl, trivial⟩ rfl rfl rfl (by omega) (by omega) rfl rfl) ?_ ?_
   ·
    rintro _ _ ⟨vn34, Hn, hn34, rfl, rfl⟩; infer_instance
   rintro _ _ ⟨vn34, Hn, hn34, rfl, rfl⟩
   refine AnyH.app ?_
   have hsn : Slc 73 4 vn34 (k6.length + 1) (cel (cE fsW) (k6 ++ [lnEl fsW u6])) Hn := by rw [cel_app, cel_one1]; exact hn34
   obtain ⟨x9, y9, rfl⟩ := hsn.form
   refine Tk 13 rfl rfl (pv_fieldAddr0 rfl rfl) rfl ?_
   refine AnyH.one 14 (by kernel_rfl) ?_
   refine Turn.ef rfl rfl (ef_store1 rfl rfl (by first | rfl | assumption) (by first | rfl | assumption)) ?_ ?_
   ·
    rintro _ _ ⟨rfl, rfl⟩; infer_instance
   rintro _ _ ⟨rfl, rfl⟩
   refine AnyH.done (by kernel_rfl) ?_
   refine Ends.block_normal ?_
   refine Ends.seq ?_
   refine Wp.region ?_
   refine Om1 rfl rfl ?_
   refine Ops.pv (pv_sub rfl rfl (w64n (k := i) (by omega) (by omega))) rfl ?_
   refine Oa1 rfl rfl ?_
   refine Ops.nil ?_
   refine Ends.goes ?_
   refine Goes.back (hK (i, (lwS 4 (lwS 2 (lwS 2 (lwS 2 u6)))), k6 ++ [lnEl fsW u6], .slice x9 (k6.length + 1) y9, Hn) ⟨by dsimp only; rw [List.length_append, List.length_singleton]; omega, (lwS_le (lwS_le (lwS_le (lwS_le hu6)))), (lnI_step hnb).symm.trans hln, by rw [List.length_append]; exact hsn⟩ (by dsimp only; omega)) ⟨rfl, rfl, rfl, rfl, trivial⟩
  refine Turn.ef rfl rfl (ef_buildSlice1 (k := 4) rfl rfl rfl rfl rfl) ?_ ?_
  ·
   rintro _ _ ⟨b40, rfl, rfl⟩; infer_instance
  rintro _ _ ⟨b40, rfl, rfl⟩
  refine AnyH.one 1 (by kernel_rfl) ?_
  refine Turn.ef rfl rfl (ef_pv (pv_load rfl rfl rfl) rfl) ?_ ?_
  ·
   rintro _ _ ⟨rfl, rfl⟩; infer_instance
  rintro _ _ ⟨rfl, rfl⟩
  refine AnyH.one 12 (by kernel_rfl) ?_
  refine Turn.ef rfl rfl (ef_append (H := G6) (xs := [.int .i64 ((lwV 2 u6 : Nat) : Int), .int .i64 ((lwV 2 (lwS 2 u6) : Nat) : Int), .int .i64 ((lwV 2 (lwS 2 (lwS 2 u6)) : Nat) : Int), .int .u64 ((lwV 4 (lwS 2 (lwS 2 (lwS 2 u6))) : Nat) : Int)]) rfl hsv rfl ⟨rfl, rfl, rfl, rfl, trivial⟩ rfl rfl rfl (by omega) (by omega) rfl rfl) ?_ ?_
  ·
   rintro _ _ ⟨vn35, Hn, hn35, rfl, rfl⟩; infer_instance
  rintro _ _ ⟨vn35, Hn, hn35, rfl, rfl⟩
  refine AnyH.app ?_
  have hsn : Slc 73 4 vn35 (k6.length + 1) (cel (cE fsW) (k6 ++ [lnEl fsW u6])) Hn := by rw [cel_app, cel_one1]; exact hn35
  obtain ⟨x9, y9, rfl⟩ := hsn.form
  refine Tk 13 rfl rfl (pv_fieldAddr0 rfl rfl) rfl ?_
  refine AnyH.one 14 (by kernel_rfl) ?_
  refine Turn.ef rfl rfl (ef_store1 rfl rfl (by first | rfl | assumption) (by first | rfl | assumption)) ?_ ?_
  ·
   rintro _ _ ⟨rfl, rfl⟩; infer_instance
  rintro _ _ ⟨rfl, rfl⟩
  refine AnyH.done (by kernel_rfl) ?_
  refine Ends.block_normal ?_
  refine Ends.seq ?_
  refine Wp.region ?_
  refine Om1 rfl rfl ?_
  refine Ops.pv (pv_sub rfl rfl (w64n (k := i) (by omega) (by omega))) rfl ?_
  refine Oa1 rfl rfl ?_
  refine Ops.nil ?_
  refine Ends.goes ?_
  refine Goes.back (hK (i, (lwS 4 (lwS 2 (lwS 2 (lwS 2 u6)))), k6 ++ [lnEl fsW u6], .slice x9 (k6.length + 1) y9, Hn) ⟨by dsimp only; rw [List.length_append, List.length_singleton]; omega, (lwS_le (lwS_le (lwS_le (lwS_le hu6)))), (lnI_step hnb).symm.trans hln, by rw [List.length_append]; exact hsn⟩ (by dsimp only; omega)) ⟨rfl, rfl, rfl, rfl, trivial⟩
 have hz : i = 0 ∨ u6.1 = true := by
  rcases Nat.eq_zero_or_pos i with h | h
  ·
   exact .inl h
  ·
   right; apply Classical.byContradiction; intro hb; exact absurd (⟨by omega, hb⟩ : (i : Int) > 0 ∧ ¬ u6.1 = true) (by assumption)
 have hL6 : lnL fsW u5 = (k6, u6) := hln.symm.trans (lnI_stop hz)
 obtain ⟨p6, q6, rfl⟩ := hsv.form
 have hg6 := hsv
 refine Wp.exit ?_
 refine Ends.then_exit ?_
 refine Ends.then_exit ?_
 refine Ends.block_hit ?_
 refine Ends.seq ?_
 refine Wp.seq ?_
 refine Wr ?_
 refine Om1 rfl rfl ?_
 refine Ops.ef rfl (ef_call (tr_rtwoS b2 u6 hu6) rfl rfl) ?_
 rintro _ _ ⟨_, _, ⟨rfl, rfl⟩, rfl, rfl⟩
 refine Ops.app ?_
 refine Oa1 rfl rfl ?_
 refine On ?_
 refine Wp.block ?_
 refine Wp.loopK (σ := Nat × St × List (El fsS) × Value × Hp) [(2, _), (4, _), (5, _)] (fun s => [(15, .int .i64 s.1)]) (fun s => rdB b2 s.2.1 :: ((b3, .cells [.slice p1 k1.length q1, .slice p2 k2.length q2, .slice p3 k3.length q3, .slice p4 k4.length q4, .slice p5 k5.length q5, .slice p6 k6.length q6, s.2.2.2.1].toArray 30) :: ((b1, .cells [.slice none 0 0, .slice none 0 0, .slice none 0 0, .slice none 0 0, .slice none 0 0, .slice none 0 0, .slice none 0 0].toArray 30) :: (G1 ++ (G2 ++ (G3 ++ (G4 ++ (G5 ++ (G6 ++ (s.2.2.2.2 ++ F)))))))))) (fun s => s.2.2.1.length + s.1 ≤ 65535 ∧ s.2.1.2.length ≤ 2 ^ 40 ∧ lnI fsS s.1 s.2.1 s.2.2.1 = lnL fsS u6 ∧ Slc 76 2 s.2.2.2.1 s.2.2.1.length (cel (cE fsS) s.2.2.1) s.2.2.2.2) (fun s => s.1) (lwV 2 u6, lwS 2 u6, [], .slice none 0 0, []) ⟨by have := lwV2i u6; dsimp only [List.length_nil]; omega, lwS_le hu6, rfl, Slc.nil _ _⟩ ⟨rfl, rfl, rfl, trivial⟩ ⟨rfl, trivial⟩ (by intro w ho; (try dsimp only [List.nil_append, List.cons_append]); exact Drop.own ho) ?_
 rintro ⟨i, u7, k7, vv, G7⟩ KK ⟨hc7, hu7, hln, hsv⟩ hK
 dsimp only [List.cons_append, List.nil_append] at hK ⊢
 dsimp only at hc7 hu7 hln hsv ⊢
 refine Wp.seq ?_
 refine Wr ?_
 refine Om1 rfl rfl ?_
 refine Ops.pv (pv_gtr rfl rfl) rfl ?_
 refine Om1 rfl rfl ?_
 refine Ops.pvc rfl rfl (fun hg => pv_move rfl) rfl ?_
 refine Ops.pvc rfl rfl (fun hg => Pv.setE (t := 228) rfl (cv_pos hg) (pv_nilCheck rfl)) rfl ?_
 refine Ops.pvc rfl rfl (fun hg => Pv.setE (t := 228) rfl (cv_pos hg) (Pv.setE (t := 229) rfl (cv_pos hg) (pv_fieldAddr0 rfl rfl))) rfl ?_
 refine Ops.pvc rfl rfl (fun hg => Pv.setE (t := 228) rfl (cv_pos hg) (Pv.setE (t := 229) rfl (cv_pos hg) (Pv.setE (t := 230) rfl (cv_pos hg) (pv_load (v := .bool (decide (u7.1 = true))) rfl rfl (nth_dec rfl))))) rfl ?_
 refine Ops.pvc rfl rfl (fun hg => Pv.setE (t := 228) rfl (cv_pos hg) (Pv.setE (t := 229) rfl (cv_pos hg) (Pv.setE (t := 230) rfl (cv_pos hg) (Pv.setE (t := 231) rfl (cv_pos hg) (pv_not_dec rfl))))) rfl ?_
 refine Ops.pv (pv_pick_and rfl rfl) rfl ?_
 refine On ?_
 refine Wp.cond_dect rfl (fun h8 => ?_) (fun h8 => ?_)
 ·
  obtain ⟨hi0, hnb⟩ : (i : Int) > 0 ∧ ¬ u7.1 = true := by assumption
  obtain ⟨i, rfl⟩ : ∃ q, i = q + 1 := ⟨i - 1, by omega⟩
  refine Wp.skip ?_
  refine Ends.seq ?_
  refine Wp.seq ?_
  refine Wp.block ?_
  refine AnyH.start ([] : Hp) 11 rfl ?_
  refine Tk 0 rfl rfl (pv_fieldAddr0 rfl rfl) rfl ?_
  refine Tk 2 rfl rfl (pv_move rfl) rfl ?_
  refine Tk 4 rfl rfl (pv_move rfl) rfl ?_
  refine AnyH.two 1 3 (by kernel_rfl) ?_ ?_
  ·
   refine Turn.ef rfl rfl (ef_pv (pv_load rfl rfl rfl) rfl) ?_ ?_
   ·
    rintro _ _ ⟨rfl, rfl⟩; infer_instance
   rintro _ _ ⟨rfl, rfl⟩
   refine AnyH.one 3 (by kernel_rfl) ?_
   refine Turn.ef rfl rfl (ef_call (tr_rtwoS b2 u7 hu7) rfl rfl) ?_ ?_
   ·
    rintro _ _ ⟨_, _, ⟨rfl, rfl⟩, rfl, rfl⟩; infer_instance
   rintro _ _ ⟨_, _, ⟨rfl, rfl⟩, rfl, rfl⟩
   refine AnyH.app ?_
   refine AnyH.one 5 (by kernel_rfl) ?_
   refine Turn.ef rfl rfl (ef_call (tr_rtwoS b2 (lwS 2 u7) (lwS_le hu7)) rfl rfl) ?_ ?_
   ·
    rintro _ _ ⟨_, _, ⟨rfl, rfl⟩, rfl, rfl⟩; infer_instance
   rintro _ _ ⟨_, _, ⟨rfl, rfl⟩, rfl, rfl⟩
   refine AnyH.app ?_
   refine Tk 6 rfl rfl (pv_build rfl) rfl ?_
   refine AnyH.one 7 (by kernel_rfl) ?_
   refine Turn.ef rfl rfl (ef_buildSlice1 (k := 2) rfl rfl rfl rfl rfl) ?_ ?_
   ·
    rintro _ _ ⟨b41, rfl, rfl⟩; infer_instance
   rintro _ _ ⟨b41, rfl, rfl⟩
   refine AnyH.one 8 (by kernel_rfl) ?_
   refine Turn.ef rfl rfl (ef_append (H := G7) (xs := [.int .i64 ((lwV 2 u7 : Nat) : Int), .int .i64 ((lwV 2 (lwS 2 u7) : Nat) : Int)]) rfl hsv rfl ⟨rfl, rfl, trivial⟩ rfl rfl rfl (by omega) (by omega) rfl rfl) ?_ ?_
   ·
    rintro _ _ ⟨vn36, Hn, hn36, rfl, rfl⟩; infer_instance
   rintro _ _ ⟨vn36, Hn, hn36, rfl, rfl⟩
   refine AnyH.app ?_
   have hsn : Slc 76 2 vn36 (k7.length + 1) (cel (cE fsS) (k7 ++ [lnEl fsS u7])) Hn := by rw [cel_app, cel_one1]; exact hn36
   obtain ⟨x9, y9, rfl⟩ := hsn.form
   refine Tk 9 rfl rfl (pv_fieldAddr0 rfl rfl) rfl ?_
   refine AnyH.one 10 (by kernel_rfl) ?_
   refine Turn.ef rfl rfl (ef_store1 rfl rfl (by first | rfl | assumption) (by first | rfl | assumption)) ?_ ?_
   ·
    rintro _ _ ⟨rfl, rfl⟩; infer_instance
   rintro _ _ ⟨rfl, rfl⟩
   refine AnyH.done (by kernel_rfl) ?_
   refine Ends.block_normal ?_
   refine Ends.seq ?_
   refine Wp.region ?_
   refine Om1 rfl rfl ?_
   refine Ops.pv (pv_sub rfl rfl (w64n (k := i) (by omega) (by omega))) rfl ?_
   refine Oa1 rfl rfl ?_
   refine Ops.nil ?_
   refine Ends.goes ?_
   refine Goes.back (hK (i, (lwS 2 (lwS 2 u7)), k7 ++ [lnEl fsS u7], .slice x9 (k7.length + 1) y9, Hn) ⟨by dsimp only; rw [List.length_append, List.length_singleton]; omega, (lwS_le (lwS_le hu7)), (lnI_step hnb).symm.trans hln, by rw [List.length_append]; exact hsn⟩ (by dsimp only; omega)) ⟨rfl, rfl, rfl, rfl, trivial⟩
  refine Turn.ef rfl rfl (ef_call (tr_rtwoS b2 u7 hu7) rfl rfl) ?_ ?_
  ·
   rintro _ _ ⟨_, _, ⟨rfl, rfl⟩, rfl, rfl⟩; infer_instance
  rintro _ _ ⟨_, _, ⟨rfl, rfl⟩, rfl, rfl⟩
  refine AnyH.app ?_
  refine AnyH.two 1 5 (by kernel_rfl) ?_ ?_
  ·
   refine Turn.ef rfl rfl (ef_pv (pv_load rfl rfl rfl) rfl) ?_ ?_
   ·
    rintro _ _ ⟨rfl, rfl⟩; infer_instance
   rintro _ _ ⟨rfl, rfl⟩
   refine AnyH.one 5 (by kernel_rfl) ?_
   refine Turn.ef rfl rfl (ef_call (tr_rtwoS b2 (lwS 2 u7) (lwS_le hu7)) rfl rfl) ?_ ?_
   ·
    rintro _ _ ⟨_, _, ⟨rfl, rfl⟩, rfl, rfl⟩; infer_instance
   rintro _ _ ⟨_, _, ⟨rfl, rfl⟩, rfl, rfl⟩
   refine AnyH.app ?_
   refine Tk 6 rfl rfl (pv_build rfl) rfl ?_
   refine AnyH.one 7 (by kernel_rfl) ?_
   refine Turn.ef rfl rfl (ef_buildSlice1 (k := 2) rfl rfl rfl rfl rfl) ?_ ?_
   ·
    rintro _ _ ⟨b42, rfl, rfl⟩; infer_instance
   rintro _ _ ⟨b42, rfl, rfl⟩
   refine AnyH.one 8 (by kernel_rfl) ?_
   refine Turn.ef rfl rfl (ef_append (H := G7) (xs := [.int .i64 ((lwV 2 u7 : Nat) : Int), .int .i64 ((lwV 2 (lwS 2 u7) : Nat) : Int)]) rfl hsv rfl ⟨rfl, rfl, trivial⟩ rfl rfl rfl (by omega) (by omega) rfl rfl) ?_ ?_
   ·
    rintro _ _ ⟨vn37, Hn, hn37, rfl, rfl⟩; infer_instance
   rintro _ _ ⟨vn37, Hn, hn37, rfl, rfl⟩
   refine AnyH.app ?_
   have hsn : Slc 76 2 vn37 (k7.length + 1) (cel (cE fsS) (k7 ++ [lnEl fsS u7])) Hn := by rw [cel_app, cel_one1]; exact hn37
   obtain ⟨x9, y9, rfl⟩ := hsn.form
   refine Tk 9 rfl rfl (pv_fieldAddr0 rfl rfl) rfl ?_
   refine AnyH.one 10 (by kernel_rfl) ?_
   refine Turn.ef rfl rfl (ef_store1 rfl rfl (by first | rfl | assumption) (by first | rfl | assumption)) ?_ ?_
   ·
    rintro _ _ ⟨rfl, rfl⟩; infer_instance
   rintro _ _ ⟨rfl, rfl⟩
   refine AnyH.done (by kernel_rfl) ?_
   refine Ends.block_normal ?_
   refine Ends.seq ?_
   refine Wp.region ?_
   refine Om1 rfl rfl ?_
   refine Ops.pv (pv_sub rfl rfl (w64n (k := i) (by omega) (by omega))) rfl ?_
   refine Oa1 rfl rfl ?_
   refine Ops.nil ?_
   refine Ends.goes ?_
   refine Goes.back (hK (i, (lwS 2 (lwS 2 u7)), k7 ++ [lnEl fsS u7], .slice x9 (k7.length + 1) y9, Hn) ⟨by dsimp only; rw [List.length_append, List.length_singleton]; omega, (lwS_le (lwS_le hu7)), (lnI_step hnb).symm.trans hln, by rw [List.length_append]; exact hsn⟩ (by dsimp only; omega)) ⟨rfl, rfl, rfl, rfl, trivial⟩
  refine Turn.ef rfl rfl (ef_call (tr_rtwoS b2 (lwS 2 u7) (lwS_le hu7)) rfl rfl) ?_ ?_
  ·
   rintro _ _ ⟨_, _, ⟨rfl, rfl⟩, rfl, rfl⟩; infer_instance
  rintro _ _ ⟨_, _, ⟨rfl, rfl⟩, rfl, rfl⟩
  refine AnyH.app ?_
  refine Tk 6 rfl rfl (pv_build rfl) rfl ?_
  refine AnyH.two 1 7 (by kernel_rfl) ?_ ?_
  ·
   refine Turn.ef rfl rfl (ef_pv (pv_load rfl rfl rfl) rfl) ?_ ?_
   ·
    rintro _ _ ⟨rfl, rfl⟩; infer_instance
   rintro _ _ ⟨rfl, rfl⟩
   refine AnyH.one 7 (by kernel_rfl) ?_
   refine Turn.ef rfl rfl (ef_buildSlice1 (k := 2) rfl rfl rfl rfl rfl) ?_ ?_
   ·
    rintro _ _ ⟨b43, rfl, rfl⟩; infer_instance
   rintro _ _ ⟨b43, rfl, rfl⟩
   refine AnyH.one 8 (by kernel_rfl) ?_
   refine Turn.ef rfl rfl (ef_append (H := G7) (xs := [.int .i64 ((lwV 2 u7 : Nat) : Int), .int .i64 ((lwV 2 (lwS 2 u7) : Nat) : Int)]) rfl hsv rfl ⟨rfl, rfl, trivial⟩ rfl rfl rfl (by omega) (by omega) rfl rfl) ?_ ?_
   ·
    rintro _ _ ⟨vn38, Hn, hn38, rfl, rfl⟩; infer_instance
   rintro _ _ ⟨vn38, Hn, hn38, rfl, rfl⟩
   refine AnyH.app ?_
   have hsn : Slc 76 2 vn38 (k7.length + 1) (cel (cE fsS) (k7 ++ [lnEl fsS u7])) Hn := by rw [cel_app, cel_one1]; exact hn38
   obtain ⟨x9, y9, rfl⟩ := hsn.form
   refine Tk 9 rfl rfl (pv_fieldAddr0 rfl rfl) rfl ?_
   refine AnyH.one 10 (by kernel_rfl) ?_
   refine Turn.ef rfl rfl (ef_store1 rfl rfl (by first | rfl | assumption) (by first | rfl | assumption)) ?_ ?_
   ·
    rintro _ _ ⟨rfl, rfl⟩; infer_instance
   rintro _ _ ⟨rfl, rfl⟩
   refine AnyH.done (by kernel_rfl) ?_
   refine Ends.block_normal ?_
   refine Ends.seq ?_
   refine Wp.region ?_
   refine Om1 rfl rfl ?_
   refine Ops.pv (pv_sub rfl rfl (w64n (k := i) (by omega) (by omega))) rfl ?_
   refine Oa1 rfl rfl ?_
   refine Ops.nil ?_
   refine Ends.goes ?_
   refine Goes.back (hK (i, (lwS 2 (lwS 2 u7)), k7 ++ [lnEl fsS u7], .slice x9 (k7.length + 1) y9, Hn) ⟨by dsimp only; rw [List.length_append, List.length_singleton]; omega, (lwS_le (lwS_le hu7)), (lnI_step hnb).symm.trans hln, by rw [List.length_append]; exact hsn⟩ (by dsimp only; omega)) ⟨rfl, rfl, rfl, rfl, trivial⟩
  refine Turn.ef rfl rfl (ef_buildSlice1 (k := 2) rfl rfl rfl rfl rfl) ?_ ?_
  ·
   rintro _ _ ⟨b44, rfl, rfl⟩; infer_instance
  rintro _ _ ⟨b44, rfl, rfl⟩
  refine AnyH.one 1 (by kernel_rfl) ?_
  refine Turn.ef rfl rfl (ef_pv (pv_load rfl rfl rfl) rfl) ?_ ?_
  ·
   rintro _ _ ⟨rfl, rfl⟩; infer_instance
  rintro _ _ ⟨rfl, rfl⟩
  refine AnyH.one 8 (by kernel_rfl) ?_
  refine Turn.ef rfl rfl (ef_append (H := G7) (xs := [.int .i64 ((lwV 2 u7 : Nat) : Int), .int .i64 ((lwV 2 (lwS 2 u7) : Nat) : Int)]) rfl hsv rfl ⟨rfl, rfl, trivial⟩ rfl rfl rfl (by omega) (by omega) rfl rfl) ?_ ?_
  ·
   rintro _ _ ⟨vn39, Hn, hn39, rfl, rfl⟩; infer_instance
  rintro _ _ ⟨vn39, Hn, hn39, rfl, rfl⟩
  refine AnyH.app ?_
  have hsn : Slc 76 2 vn39 (k7.length + 1) (cel (cE fsS) (k7 ++ [lnEl fsS u7])) Hn := by rw [cel_app, cel_one1]; exact hn39
  obtain ⟨x9, y9, rfl⟩ := hsn.form
  refine Tk 9 rfl rfl (pv_fieldAddr0 rfl rfl) rfl ?_
  refine AnyH.one 10 (by kernel_rfl) ?_
  refine Turn.ef rfl rfl (ef_store1 rfl rfl (by first | rfl | assumption) (by first | rfl | assumption)) ?_ ?_
  ·
   rintro _ _ ⟨rfl, rfl⟩; infer_instance
  rintro _ _ ⟨rfl, rfl⟩
  refine AnyH.done (by kernel_rfl) ?_
  refine Ends.block_normal ?_
  refine Ends.seq ?_
  refine Wp.region ?_
  refine Om1 rfl rfl ?_
  refine Ops.pv (pv_sub rfl rfl (w64n (k := i) (by omega) (by omega))) rfl ?_
  refine Oa1 rfl rfl ?_
  refine Ops.nil ?_
  refine Ends.goes ?_
  refine Goes.back (hK (i, (lwS 2 (lwS 2 u7)), k7 ++ [lnEl fsS u7], .slice x9 (k7.length + 1) y9, Hn) ⟨by dsimp only; rw [List.length_append, List.length_singleton]; omega, (lwS_le (lwS_le hu7)), (lnI_step hnb).symm.trans hln, by rw [List.length_append]; exact hsn⟩ (by dsimp only; omega)) ⟨rfl, rfl, rfl, rfl, trivial⟩
 have hz : i = 0 ∨ u7.1 = true := by
  rcases Nat.eq_zero_or_pos i with h | h
  ·
   exact .inl h
  ·
   right; apply Classical.byContradiction; intro hb; exact absurd (⟨by omega, hb⟩ : (i : Int) > 0 ∧ ¬ u7.1 = true) (by assumption)
 have hL7 : lnL fsS u6 = (k7, u7) := hln.symm.trans (lnI_stop hz)
 obtain ⟨p7, q7, rfl⟩ := hsv.form
 have hg7 := hsv
 refine Wp.exit ?_
 refine Ends.then_exit ?_
 refine Ends.then_exit ?_
 refine Ends.block_hit ?_
 refine Ends.seq ?_
 refine Wp.seq ?_
 refine Wr ?_
 refine Om1 rfl rfl ?_
 refine Ops.pv (pv_nilCheck rfl) rfl ?_
 refine Of1 rfl rfl rfl ?_
 refine Ops.pv (pv_load (v := .bool (decide (u7.1 = true))) rfl rfl (nth_dec rfl)) rfl ?_
 refine Om1 rfl rfl ?_
 refine Ops.pvcn rfl rfl (fun hg => pv_move rfl) rfl ?_
 refine Ops.pvcn rfl rfl (fun hg => Pv.setE (t := 251) rfl (cv_pos hg) (pv_nilCheck rfl)) rfl ?_
 refine Ops.pvcn rfl rfl (fun hg => Pv.setE (t := 251) rfl (cv_pos hg) (Pv.setE (t := 252) rfl (cv_pos hg) (pv_fieldAddr0 rfl rfl))) rfl ?_
 refine Ops.pvcn rfl rfl (fun hg => Pv.setE (t := 251) rfl (cv_pos hg) (Pv.setE (t := 252) rfl (cv_pos hg) (Pv.setE (t := 253) rfl (cv_pos hg) (pv_load rfl rfl rfl)))) rfl ?_
 refine Ops.pvcn rfl rfl (fun hg => Pv.setE (t := 251) rfl (cv_pos hg) (Pv.setE (t := 252) rfl (cv_pos hg) (Pv.setE (t := 253) rfl (cv_pos hg) (Pv.setE (t := 254) rfl (cv_pos hg) (pv_str_neq rfl rfl))))) rfl ?_
 refine Ops.pv (pv_pick_or rfl rfl) rfl ?_
 refine Om1 rfl rfl ?_
 refine Ops.split (t := 257) rfl (fun h9 => ?_) (fun h9 => ?_)
 ·
  refine Os1 rfl rfl rfl rfl ?_
  refine Os1 rfl rfl rfl rfl ?_
  refine Os1 rfl rfl rfl rfl ?_
  refine Ops.pv (pv_pick_true rfl rfl) rfl ?_
  refine On ?_
  refine Wp.cond_true rfl ?_
  refine Wr ?_
  refine Ops.pv (pv_build rfl) rfl ?_
  refine Ops.ef rfl (ef_storeK rfl rfl rfl rfl) ?_
  rintro _ _ ⟨rfl, rfl⟩
  refine Oa1 rfl rfl ?_
  refine On ?_
  refine Wp.ret ?_
  refine Ends.then_ret ?_
  have hD : lnD (false, sx.drop 2) = (⟨k1, k2, k3, k4, k5, k6, k7⟩, u7) := by
   unfold lnD
   dsimp only
   rw [hL1, hL2, hL3, hL4, hL5, hL6, hL7]
  exact Ends.ret (L' := []) (res_list (rs := [.cell 2 30, .tmp 3]) rfl ⟨_, _, rfl, rv_cellK [_, _, _, _, _, _, _] rfl rfl rfl ⟨rfl, rfl, rfl, rfl, rfl, rfl, rfl, trivial⟩, ⟨_, _, rfl, rv_tmp rfl, rfl⟩⟩ rfl) ⟨noD, 10, _, _, _, _, _, _, _, _, _, _, _, _, _, _, DecR.bad (by rw [hD]; rintro ⟨_, q1, q2⟩; cases q1; simp_all), noD_DSR, rfl, rfl⟩
 refine Ops.pvg ⟨_, _, rfl, rfl, rfl⟩ (pv_loadK [_, _, _, _, _, _, _] rfl rfl rfl ⟨rfl, rfl, rfl, rfl, rfl, rfl, rfl, trivial⟩) rfl ?_
 refine Ops.efg ⟨_, _, rfl, rfl, rfl⟩ (ef_callr (tr_right _ (⟨k1, k2, k3, k4, k5, k6, k7⟩ : Dd) _ _ _ _ _ _ _ (DS.da ⟨hg1, hg2, hg3, hg4, hg5, hg6, hg7⟩) (by dsimp only; omega) (by dsimp only; omega) (by dsimp only; omega) (by dsimp only; omega) (by dsimp only; omega) (by dsimp only; omega) (by dsimp only; omega)) rfl rfl) ?_
 rintro _ _ ⟨rfl, rfl⟩
 refine Ops.pvg ⟨_, _, rfl, rfl, rfl⟩ (pv_not rfl) rfl ?_
 refine Ops.pv (pv_pick_false rfl rfl) rfl ?_
 refine On ?_
 refine Wp.cond_t rfl (fun h10 => ?_) (fun h10 => ?_)
 ·
  refine Wr ?_
  refine Ops.pv (pv_build rfl) rfl ?_
  refine Ops.ef rfl (ef_storeK rfl rfl rfl rfl) ?_
  rintro _ _ ⟨rfl, rfl⟩
  refine Oa1 rfl rfl ?_
  refine On ?_
  refine Wp.ret ?_
  refine Ends.then_ret ?_
  have hD : lnD (false, sx.drop 2) = (⟨k1, k2, k3, k4, k5, k6, k7⟩, u7) := by
   unfold lnD
   dsimp only
   rw [hL1, hL2, hL3, hL4, hL5, hL6, hL7]
  exact Ends.ret (L' := []) (res_list (rs := [.cell 2 30, .tmp 3]) rfl ⟨_, _, rfl, rv_cellK [_, _, _, _, _, _, _] rfl rfl rfl ⟨rfl, rfl, rfl, rfl, rfl, rfl, rfl, trivial⟩, ⟨_, _, rfl, rv_tmp rfl, rfl⟩⟩ rfl) ⟨noD, 10, _, _, _, _, _, _, _, _, _, _, _, _, _, _, DecR.bad (by rw [hD]; rintro ⟨_, q1, q2⟩; cases q1; simp_all), noD_DSR, rfl, rfl⟩
 refine Wp.skip ?_
 refine Ends.seq ?_
 refine Wr ?_
 refine Ops.pv (pv_loadK [_, _, _, _, _, _, _] rfl rfl rfl ⟨rfl, rfl, rfl, rfl, rfl, rfl, rfl, trivial⟩) rfl ?_
 refine Ops.ef rfl (ef_storeK rfl rfl rfl rfl) ?_
 rintro _ _ ⟨rfl, rfl⟩
 refine Oa1 rfl rfl ?_
 refine On ?_
 refine Wp.ret ?_
 have hD : lnD (false, sx.drop 2) = (⟨k1, k2, k3, k4, k5, k6, k7⟩, u7) := by
  unfold lnD
  dsimp only
  rw [hL1, hL2, hL3, hL4, hL5, hL6, hL7]
 have hok : okD (⟨k1, k2, k3, k4, k5, k6, k7⟩ : Dd) := by simp_all
 have hu : u7 = (false, []) := by obtain ⟨x, y⟩ := u7; simp_all
 exact Ends.ret (L' := G1 ++ (G2 ++ (G3 ++ (G4 ++ (G5 ++ (G6 ++ G7)))))) (res_list (rs := [.cell 2 30, .tmp 3]) rfl ⟨_, _, rfl, rv_cellK [_, _, _, _, _, _, _] rfl rfl rfl ⟨rfl, rfl, rfl, rfl, rfl, rfl, rfl, trivial⟩, ⟨_, _, rfl, rv_tmp rfl, rfl⟩⟩ rfl) ⟨⟨k1, k2, k3, k4, k5, k6, k7⟩, 0, _, _, _, _, _, _, _, G1, G2, G3, G4, G5, G6, G7, .inl ⟨hp, by rw [hD]; exact hu, by rw [hD]; exact hok, by rw [hD], rfl⟩, ⟨hg1, hg2, hg3, hg4, hg5, hg6, hg7⟩, rfl, rfl⟩
end Go.Proofs.Ytkldjadpoknejaa
end
section
set_option linter.unusedVariables false
set_option linter.unusedSimpArgs false
set_option linter.unusedSectionVars false
namespace Go.Proofs.Ytkldjadpoknejaa
open Go.SL
section
variable {P : Program} {n : Nat} {D : List Deferred} {E : Env} {L : Hp} {d : Option Tmp} {ty : TypeId} {pos : String} {aft : Array Edge} {g : Option (Nat × Bool)} {T : TypeId} {x y : Operand}
theorem pv_eql_of {xs ys : List Value} {b : Bool} {yt : TypeId} (hx : ev E x = some (.agg xs.toArray)) (hy : ev E y = some (.agg ys.toArray)) (he : ∀ w, (Op.equalIn 10000 T (.agg xs.toArray) (.agg ys.toArray)).run P w = .ok b w) (hg : P.eqGuardType P.depth T = false) :
    Pv P n D E L ⟨d, .binOp .eql T x y yt, ty, pos, aft, g⟩ (.bool b) := by
  unfold Pv; intro a w hs _
  simp only [execOp, hs.ev hx, hs.ev hy, Sem.run_bind, run_eqGuard_agg (P := P) w .eql T x y _ _ hg, run_eql_struct, Result.andThen_ok, he w, Sem.run_pure]
end
theorem eq_nums {T : TypeId} {ks : List IntKind} [hT : NumTy Try.prog T ks] {fs : List Fld} (h : ∀ e : El fs, cE fs e = encK ks e.val) (hl : fs.length = ks.length) (a b : El fs) (w : World) : (Op.equalIn 10000 T (.agg (cE fs a).toArray) (.agg (cE fs b).toArray)).run Try.prog w = .ok (decide (a.val = b.val)) w := by
 rw [h, h]; exact hT.eq 9998 w _ _ (by rw [a.len, hl]) (by rw [b.len, hl])
theorem eq_o (a b : El fsO) (w : World) : (Op.equalIn 10000 54 (.agg (cE fsO a).toArray) (.agg (cE fsO b).toArray)).run Try.prog w = .ok (decide (a.val = b.val)) w := eq_nums (T := 54) (fs := fsO) (fun e => by obtain ⟨_, _, _, h⟩ := El.three rfl e; unfold cE; rw [h]; rfl) rfl a b w
theorem eq_f (a b : El fsF) (w : World) : (Op.equalIn 10000 68 (.agg (cE fsF a).toArray) (.agg (cE fsF b).toArray)).run Try.prog w = .ok (decide (a.val = b.val)) w := eq_nums (T := 68) (fs := fsF) (fun e => by obtain ⟨_, _, _, h⟩ := El.three rfl e; unfold cE; rw [h]; rfl) rfl a b w
theorem eq_t (a b : El fsT) (w : World) : (Op.equalIn 10000 71 (.agg (cE fsT a).toArray) (.agg (cE fsT b).toArray)).run Try.prog w = .ok (decide (a.val = b.val)) w := eq_nums (T := 71) (fs := fsT) (fun e => by obtain ⟨_, _, _, _, _, _, _, _, h⟩ := El.eight rfl e; unfold cE; rw [h]; rfl) rfl a b w
theorem eq_w (a b : El fsW) (w : World) : (Op.equalIn 10000 74 (.agg (cE fsW a).toArray) (.agg (cE fsW b).toArray)).run Try.prog w = .ok (decide (a.val = b.val)) w := eq_nums (T := 74) (fs := fsW) (fun e => by obtain ⟨_, _, _, _, h⟩ := El.four rfl e; unfold cE; rw [h]; rfl) rfl a b w
theorem eq_s (a b : El fsS) (w : World) : (Op.equalIn 10000 77 (.agg (cE fsS a).toArray) (.agg (cE fsS b).toArray)).run Try.prog w = .ok (decide (a.val = b.val)) w := eq_nums (T := 77) (fs := fsS) (fun e => by obtain ⟨_, _, h⟩ := El.two rfl e; unfold cE; rw [h]; rfl) rfl a b w
theorem fieldsOf_of {P : Program} {T : TypeId} {fs : Array Field} (h : P.underlying T = some (.struct fs)) : P.fieldsOf T = fs := by simp [Program.fieldsOf, h]
theorem flg_dec {x y : Int} (hx : x = 0 ∨ x = 1) (hy : y = 0 ∨ y = 1) : (decide (x = 1) = decide (y = 1)) ↔ x = y := by
 rcases hx with rfl | rfl <;> rcases hy with rfl | rfl <;> simp
theorem eq_m (a b : El fsM) (w : World) : (Op.equalIn 10000 65 (.agg (cE fsM a).toArray) (.agg (cE fsM b).toArray)).run Try.prog w = .ok (decide (a.val = b.val)) w := by
 obtain ⟨a0, a1, a2, a3, ha⟩ := El.four rfl a
 obtain ⟨b0, b1, b2, b3, hb⟩ := El.four rfl b
 have ra := a.rg
 have rb := b.rg
 unfold cE
 rw [ha] at ra ⊢
 rw [hb] at rb ⊢
 simp only [fsM, rgE, Fld.rg] at ra rb
 have hfs := fieldsOf_of Try.underlying65
 have h3 := flg_dec ra.2.2.2.1 rb.2.2.2.1
 rw [show (10000 : Nat) = 9999 + 1 from rfl, run_equalIn_struct w 9999 65 _ _ (by rw [hfs]; exact Try.underlying65) (by kernel_rfl), hfs]
 have ui := Try.underlying3
 have ub := Try.underlying4
 simp [Op.eqFields, part, isAgg, underlying, ui, ub, cellsE, fsM, Fld.cell, run_equalIn_int (P := Try.prog) w 9998 3 .i64 .i64 _ _ ui, run_equalIn_bool' (P := Try.prog) w 9998 4 _ _ ub]
 by_cases e0 : a0 = b0 <;> by_cases e1 : a1 = b1 <;> by_cases e2 : a2 = b2 <;> by_cases e3 : a3 = b3 <;> simp_all
theorem eq_p (a b : El fsP) (w : World) : (Op.equalIn 10000 62 (.agg (cE fsP a).toArray) (.agg (cE fsP b).toArray)).run Try.prog w = .ok (decide (a.val = b.val)) w := by
 obtain ⟨a0, a1, a2, a3, a4, a5, a6, a7, ha⟩ := El.eight rfl a
 obtain ⟨b0, b1, b2, b3, b4, b5, b6, b7, hb⟩ := El.eight rfl b
 unfold cE
 rw [ha, hb]
 have hfs := fieldsOf_of Try.underlying62
 rw [show (10000 : Nat) = 9999 + 1 from rfl, run_equalIn_struct w 9999 62 _ _ (by rw [hfs]; exact Try.underlying62) (by kernel_rfl), hfs]
 have n1 := NumTy.eq (P := Try.prog) (T := 56) 9997 w [a0, a1] [b0, b1] rfl rfl
 have n2 := NumTy.eq (P := Try.prog) (T := 59) 9997 w [a2, a3, a4, a5, a6, a7] [b2, b3, b4, b5, b6, b7] rfl rfl
 simp only [encK] at n1 n2
 simp [Op.eqFields, part, TyD.agg, aggD, TyS.run, cellsE, fsP, Fld.cell]
 rw [n1]
 simp only [Result.andThen_ok]
 rw [n2]
 by_cases e1 : [a0, a1] = [b0, b1] <;> by_cases e2 : [a2, a3, a4, a5, a6, a7] = [b2, b3, b4, b5, b6, b7] <;> simp_all
end Go.Proofs.Ytkldjadpoknejaa
end
section
set_option linter.unusedVariables false
set_option linter.unusedSimpArgs false
set_option linter.unusedSectionVars false
namespace Go.Proofs.Ytkldjadpoknejaa
open Go.SL
theorem El.eq_iff {fs : List Fld} {a b : El fs} : a.val = b.val ↔ a = b := by
 constructor
 ·
  intro h; cases a; cases b; cases h; rfl
 rintro rfl; rfl
theorem take_eq {α : Type} {l m : List α} {i : Nat} {a b : α} (ha : l[i]? = some a) (hb : m[i]? = some b) : l.take (i + 1) = m.take (i + 1) ↔ l.take i = m.take i ∧ a = b := by
 have h1 := (List.getElem?_eq_some_iff.1 ha).1
 have h2 := (List.getElem?_eq_some_iff.1 hb).1
 rw [List.take_add_one, List.take_add_one, ha, hb]
 constructor
 ·
  intro h
  obtain ⟨e1, e2⟩ := List.append_inj h (by rw [List.length_take, List.length_take]; omega)
  exact ⟨e1, by simpa using e2⟩
 rintro ⟨e1, rfl⟩; rw [e1]
theorem leafS0 {fs : List Fld} {l m : List (El fs)} {i : Nat} {a b : El fs} {z : Bool} {R : Prop} (ha : l[i]? = some a) (hb : m[i]? = some b) (hz : z = true ↔ R ∧ l.take i = m.take i) (h0 : z = false) : (false = true ↔ R ∧ l.take (i + 1) = m.take (i + 1)) := by
 rw [take_eq ha hb]
 constructor
 ·
  intro h; cases h
 rintro ⟨h1, h2, _⟩
 rw [hz.2 ⟨h1, h2⟩] at h0; cases h0
theorem leafS1 {fs : List Fld} {l m : List (El fs)} {i : Nat} {a b : El fs} {z : Bool} {R : Prop} (ha : l[i]? = some a) (hb : m[i]? = some b) (hz : z = true ↔ R ∧ l.take i = m.take i) (h1 : z = true) : (decide (a.val = b.val) = true ↔ R ∧ l.take (i + 1) = m.take (i + 1)) := by
 rw [take_eq ha hb, decide_eq_true_eq, El.eq_iff]
 have := hz.1 h1
 exact ⟨fun h => ⟨this.1, this.2, h⟩, fun h => h.2.2⟩
open Classical in
set_option maxHeartbeats 16000000 in
theorem tr_same (A B : Dd) (v1 v2 v3 v4 v5 v6 v7 : Value) (H1 H2 H3 H4 H5 H6 H7 : Hp) (hs : DSB A v1 v2 v3 v4 v5 v6 v7 H1 H2 H3 H4 H5 H6 H7) (w1 w2 w3 w4 w5 w6 w7 : Value) (K1 K2 K3 K4 K5 K6 K7 : Hp) (ht : DSB B w1 w2 w3 w4 w5 w6 w7 K1 K2 K3 K4 K5 K6 K7) (hlo : A.o.length ≤ 2 ^ 20) (hlp : A.p.length ≤ 2 ^ 20) (hlm : A.m.length ≤ 2 ^ 20) (hlf : A.f.length ≤ 2 ^ 20) (hlt : A.t.length ≤ 2 ^ 20) (hlw : A.w.length ≤ 2 ^ 20) (hls : A.s.length ≤ 2 ^ 20) : TrR Try.prog 10 [.agg #[v1, v2, v3, v4, v5, v6, v7], .agg #[w1, w2, w3, w4, w5, w6, w7]] (H1 ++ (H2 ++ (H3 ++ (H4 ++ (H5 ++ (H6 ++ (H7 ++ (K1 ++ (K2 ++ (K3 ++ (K4 ++ (K5 ++ (K6 ++ K7))))))))))))) (.bool (decide (A = B))) := by
 obtain ⟨s1, c1, rfl⟩ := hs.o.form
 obtain ⟨s2, c2, rfl⟩ := hs.p.form
 obtain ⟨s3, c3, rfl⟩ := hs.m.form
 obtain ⟨s4, c4, rfl⟩ := hs.f.form
 obtain ⟨s5, c5, rfl⟩ := hs.t.form
 obtain ⟨s6, c6, rfl⟩ := hs.w.form
 obtain ⟨s7, c7, rfl⟩ := hs.s.form
 obtain ⟨t1, d1, rfl⟩ := ht.o.form
 obtain ⟨t2, d2, rfl⟩ := ht.p.form
 obtain ⟨t3, d3, rfl⟩ := ht.m.form
 obtain ⟨t4, d4, rfl⟩ := ht.f.form
 obtain ⟨t5, d5, rfl⟩ := ht.t.form
 obtain ⟨t6, d6, rfl⟩ := ht.w.form
 obtain ⟨t7, d7, rfl⟩ := ht.s.form
 refine Tr.enter Try.func10 rfl Try.ntmps10 rfl (fun W F => ?_)
 refine Wp.app ?_
 refine Wr ?_
 refine Ops.ef rfl (ef_boxK rfl rfl) ?_
 rintro _ _ ⟨b1, rfl, rfl⟩
 refine Ops.ef rfl (ef_boxK rfl rfl) ?_
 rintro _ _ ⟨b2, rfl, rfl⟩
 refine Oa1 rfl rfl ?_
 refine On ?_
 refine Wp.seq ?_
 refine Wr ?_
 refine Of1 rfl rfl rfl ?_
 refine Ol1 rfl rfl rfl rfl ?_
 refine Ops.pv (pv_len_slice (T := 32) rfl rfl) rfl ?_
 refine Of1 rfl rfl rfl ?_
 refine Ol1 rfl rfl rfl rfl ?_
 refine Ops.pv (pv_len_slice (T := 32) rfl rfl) rfl ?_
 refine Ops.pv (pv_neq rfl rfl) rfl ?_
 refine Om1 rfl rfl ?_
 refine Ops.pvcn rfl rfl (fun hg => pv_fieldAddr0 rfl rfl) rfl ?_
 refine Ops.pvcn rfl rfl (fun hg => Pv.setE (t := 21) rfl (cv_pos hg) (pv_load rfl rfl rfl)) rfl ?_
 refine Ops.pvcn rfl rfl (fun hg => Pv.setE (t := 21) rfl (cv_pos hg) (Pv.setE (t := 22) rfl (cv_pos hg) (pv_len_slice (T := 33) rfl rfl))) rfl ?_
 refine Ops.pvcn rfl rfl (fun hg => Pv.setE (t := 21) rfl (cv_pos hg) (Pv.setE (t := 22) rfl (cv_pos hg) (Pv.setE (t := 23) rfl (cv_pos hg) (pv_fieldAddr0 rfl rfl)))) rfl ?_
 refine Ops.pvcn rfl rfl (fun hg => Pv.setE (t := 21) rfl (cv_pos hg) (Pv.setE (t := 22) rfl (cv_pos hg) (Pv.setE (t := 23) rfl (cv_pos hg) (Pv.setE (t := 24) rfl (cv_pos hg) (pv_load rfl rfl rfl))))) rfl ?_
 refine Ops.pvcn rfl rfl (fun hg => Pv.setE (t := 21) rfl (cv_pos hg) (Pv.setE (t := 22) rfl (cv_pos hg) (Pv.setE (t := 23) rfl (cv_pos hg) (Pv.setE (t := 24) rfl (cv_pos hg) (Pv.setE (t := 25) rfl (cv_pos hg) (pv_len_slice (T := 33) rfl rfl)))))) rfl ?_
 refine Ops.pvcn rfl rfl (fun hg => Pv.setE (t := 21) rfl (cv_pos hg) (Pv.setE (t := 22) rfl (cv_pos hg) (Pv.setE (t := 23) rfl (cv_pos hg) (Pv.setE (t := 24) rfl (cv_pos hg) (Pv.setE (t := 25) rfl (cv_pos hg) (Pv.setE (t := 26) rfl (cv_pos hg) (pv_neq rfl rfl))))))) rfl ?_
 refine Ops.pv (pv_pick_or rfl rfl) rfl ?_
 refine Om1 rfl rfl ?_
 refine Ops.pvcn rfl rfl (fun hg => pv_fieldAddr0 rfl rfl) rfl ?_
 refine Ops.pvcn rfl rfl (fun hg => Pv.setE (t := 30) rfl (cv_pos hg) (pv_load rfl rfl rfl)) rfl ?_
 refine Ops.pvcn rfl rfl (fun hg => Pv.setE (t := 30) rfl (cv_pos hg) (Pv.setE (t := 31) rfl (cv_pos hg) (pv_len_slice (T := 34) rfl rfl))) rfl ?_
 refine Ops.pvcn rfl rfl (fun hg => Pv.setE (t := 30) rfl (cv_pos hg) (Pv.setE (t := 31) rfl (cv_pos hg) (Pv.setE (t := 32) rfl (cv_pos hg) (pv_fieldAddr0 rfl rfl)))) rfl ?_
 refine Ops.pvcn rfl rfl (fun hg => Pv.setE (t := 30) rfl (cv_pos hg) (Pv.setE (t := 31) rfl (cv_pos hg) (Pv.setE (t := 32) rfl (cv_pos hg) (Pv.setE (t := 33) rfl (cv_pos hg) (pv_load rfl rfl rfl))))) rfl ?_
 refine Ops.pvcn rfl rfl (fun hg => Pv.setE (t := 30) rfl (cv_pos hg) (Pv.setE (t := 31) rfl (cv_pos hg) (Pv.setE (t := 32) rfl (cv_pos hg) (Pv.setE (t := 33) rfl (cv_pos hg) (Pv.setE (t := 34) rfl (cv_pos hg) (pv_len_slice (T := 34) rfl rfl)))))) rfl ?_
 refine Ops.pvcn rfl rfl (fun hg => Pv.setE (t := 30) rfl (cv_pos hg) (Pv.setE (t := 31) rfl (cv_pos hg) (Pv.setE (t := 32) rfl (cv_pos hg) (Pv.setE (t := 33) rfl (cv_pos hg) (Pv.setE (t := 34) rfl (cv_pos hg) (Pv.setE (t := 35) rfl (cv_pos hg) (pv_neq rfl rfl))))))) rfl ?_
 refine Ops.pv (pv_pick_or rfl rfl) rfl ?_
 refine Om1 rfl rfl ?_
 refine Ops.pvcn rfl rfl (fun hg => pv_fieldAddr0 rfl rfl) rfl ?_
 refine Ops.pvcn rfl rfl (fun hg => Pv.setE (t := 39) rfl (cv_pos hg) (pv_load rfl rfl rfl)) rfl ?_
 refine Ops.pvcn rfl rfl (fun hg => Pv.setE (t := 39) rfl (cv_pos hg) (Pv.setE (t := 40) rfl (cv_pos hg) (pv_len_slice (T := 35) rfl rfl))) rfl ?_
 refine Ops.pvcn rfl rfl (fun hg => Pv.setE (t := 39) rfl (cv_pos hg) (Pv.setE (t := 40) rfl (cv_pos hg) (Pv.setE (t := 41) rfl (cv_pos hg) (pv_fieldAddr0 rfl rfl)))) rfl ?_
 refine Ops.pvcn rfl rfl (fun hg => Pv.setE (t := 39) rfl (cv_pos hg) (Pv.setE (t := 40) rfl (cv_pos hg) (Pv.setE (t := 41) rfl (cv_pos hg) (Pv.setE (t := 42) rfl (cv_pos hg) (pv_load rfl rfl rfl))))) rfl ?_
 refine Ops.pvcn rfl rfl (fun hg => Pv.setE (t := 39) rfl (cv_pos hg) (Pv.setE (t := 40) rfl (cv_pos hg) (Pv.setE (t := 41) rfl (cv_pos hg) (Pv.setE (t := 42) rfl (cv_pos hg) (Pv.setE (t := 43) rfl (cv_pos hg) (pv_len_slice (T := 35) rfl rfl)))))) rfl ?_
 refine Ops.pvcn rfl rfl (fun hg => Pv.setE (t := 39) rfl (cv_pos hg) (Pv.setE (t := 40) rfl (cv_pos hg) (Pv.setE (t := 41) rfl (cv_pos hg) (Pv.setE (t := 42) rfl (cv_pos hg) (Pv.setE (t := 43) rfl (cv_pos hg) (Pv.setE (t := 44) rfl (cv_pos hg) (pv_neq rfl rfl))))))) rfl ?_
 refine Ops.pv (pv_pick_or rfl rfl) rfl ?_
 refine Om1 rfl rfl ?_
 refine Ops.pvcn rfl rfl (fun hg => pv_fieldAddr0 rfl rfl) rfl ?_
 refine Ops.pvcn rfl rfl (fun hg => Pv.setE (t := 48) rfl (cv_pos hg) (pv_load rfl rfl rfl)) rfl ?_
 refine Ops.pvcn rfl rfl (fun hg => Pv.setE (t := 48) rfl (cv_pos hg) (Pv.setE (t := 49) rfl (cv_pos hg) (pv_len_slice (T := 36) rfl rfl))) rfl ?_
 refine Ops.pvcn rfl rfl (fun hg => Pv.setE (t := 48) rfl (cv_pos hg) (Pv.setE (t := 49) rfl (cv_pos hg) (Pv.setE (t := 50) rfl (cv_pos hg) (pv_fieldAddr0 rfl rfl)))) rfl ?_
 refine Ops.pvcn rfl rfl (fun hg => Pv.setE (t := 48) rfl (cv_pos hg) (Pv.setE (t := 49) rfl (cv_pos hg) (Pv.setE (t := 50) rfl (cv_pos hg) (Pv.setE (t := 51) rfl (cv_pos hg) (pv_load rfl rfl rfl))))) rfl ?_
 refine Ops.pvcn rfl rfl (fun hg => Pv.setE (t := 48) rfl (cv_pos hg) (Pv.setE (t := 49) rfl (cv_pos hg) (Pv.setE (t := 50) rfl (cv_pos hg) (Pv.setE (t := 51) rfl (cv_pos hg) (Pv.setE (t := 52) rfl (cv_pos hg) (pv_len_slice (T := 36) rfl rfl)))))) rfl ?_
 refine Ops.pvcn rfl rfl (fun hg => Pv.setE (t := 48) rfl (cv_pos hg) (Pv.setE (t := 49) rfl (cv_pos hg) (Pv.setE (t := 50) rfl (cv_pos hg) (Pv.setE (t := 51) rfl (cv_pos hg) (Pv.setE (t := 52) rfl (cv_pos hg) (Pv.setE (t := 53) rfl (cv_pos hg) (pv_neq rfl rfl))))))) rfl ?_
 refine Ops.pv (pv_pick_or rfl rfl) rfl ?_
 refine Om1 rfl rfl ?_
 refine Ops.pvcn rfl rfl (fun hg => pv_fieldAddr0 rfl rfl) rfl ?_
 refine Ops.pvcn rfl rfl (fun hg => Pv.setE (t := 57) rfl (cv_pos hg) (pv_load rfl rfl rfl)) rfl ?_
 refine Ops.pvcn rfl rfl (fun hg => Pv.setE (t := 57) rfl (cv_pos hg) (Pv.setE (t := 58) rfl (cv_pos hg) (pv_len_slice (T := 37) rfl rfl))) rfl ?_
 refine Ops.pvcn rfl rfl (fun hg => Pv.setE (t := 57) rfl (cv_pos hg) (Pv.setE (t := 58) rfl (cv_pos hg) (Pv.setE (t := 59) rfl (cv_pos hg) (pv_fieldAddr0 rfl rfl)))) rfl ?_
 refine Ops.pvcn rfl rfl (fun hg => Pv.setE (t := 57) rfl (cv_pos hg) (Pv.setE (t := 58) rfl (cv_pos hg) (Pv.setE (t := 59) rfl (cv_pos hg) (Pv.setE (t := 60) rfl (cv_pos hg) (pv_load rfl rfl rfl))))) rfl ?_
 refine Ops.pvcn rfl rfl (fun hg => Pv.setE (t := 57) rfl (cv_pos hg) (Pv.setE (t := 58) rfl (cv_pos hg) (Pv.setE (t := 59) rfl (cv_pos hg) (Pv.setE (t := 60) rfl (cv_pos hg) (Pv.setE (t := 61) rfl (cv_pos hg) (pv_len_slice (T := 37) rfl rfl)))))) rfl ?_
 refine Ops.pvcn rfl rfl (fun hg => Pv.setE (t := 57) rfl (cv_pos hg) (Pv.setE (t := 58) rfl (cv_pos hg) (Pv.setE (t := 59) rfl (cv_pos hg) (Pv.setE (t := 60) rfl (cv_pos hg) (Pv.setE (t := 61) rfl (cv_pos hg) (Pv.setE (t := 62) rfl (cv_pos hg) (pv_neq rfl rfl))))))) rfl ?_
 refine Ops.pv (pv_pick_or rfl rfl) rfl ?_
 refine Om1 rfl rfl ?_
 refine Ops.pvcn rfl rfl (fun hg => pv_fieldAddr0 rfl rfl) rfl ?_
 refine Ops.pvcn rfl rfl (fun hg => Pv.setE (t := 66) rfl (cv_pos hg) (pv_load rfl rfl rfl)) rfl ?_
 refine Ops.pvcn rfl rfl (fun hg => Pv.setE (t := 66) rfl (cv_pos hg) (Pv.setE (t := 67) rfl (cv_pos hg) (pv_len_slice (T := 38) rfl rfl))) rfl ?_
 refine Ops.pvcn rfl rfl (fun hg => Pv.setE (t := 66) rfl (cv_pos hg) (Pv.setE (t := 67) rfl (cv_pos hg) (Pv.setE (t := 68) rfl (cv_pos hg) (pv_fieldAddr0 rfl rfl)))) rfl ?_
 refine Ops.pvcn rfl rfl (fun hg => Pv.setE (t := 66) rfl (cv_pos hg) (Pv.setE (t := 67) rfl (cv_pos hg) (Pv.setE (t := 68) rfl (cv_pos hg) (Pv.setE (t := 69) rfl (cv_pos hg) (pv_load rfl rfl rfl))))) rfl ?_
 refine Ops.pvcn rfl rfl (fun hg => Pv.setE (t := 66) rfl (cv_pos hg) (Pv.setE (t := 67) rfl (cv_pos hg) (Pv.setE (t := 68) rfl (cv_pos hg) (Pv.setE (t := 69) rfl (cv_pos hg) (Pv.setE (t := 70) rfl (cv_pos hg) (pv_len_slice (T := 38) rfl rfl)))))) rfl ?_
 refine Ops.pvcn rfl rfl (fun hg => Pv.setE (t := 66) rfl (cv_pos hg) (Pv.setE (t := 67) rfl (cv_pos hg) (Pv.setE (t := 68) rfl (cv_pos hg) (Pv.setE (t := 69) rfl (cv_pos hg) (Pv.setE (t := 70) rfl (cv_pos hg) (Pv.setE (t := 71) rfl (cv_pos hg) (pv_neq rfl rfl))))))) rfl ?_
 refine Ops.pv (pv_pick_or rfl rfl) rfl ?_
 refine On ?_
 refine Wp.cond_dect rfl (fun h1 => ?_) (fun h1 => ?_)
 ·
  have hne : ¬ A = B := by
   intro h
   subst h
   simp at h1
  refine Wr ?_
  refine Oa1 rfl rfl ?_
  refine On ?_
  refine Wp.ret ?_
  refine Ends.then_ret ?_
  rw [decide_eq_false hne]
  exact Ends.ret (res1 rfl rfl) ⟨rfl, rfl⟩
 have q1 : A.o.length = B.o.length := by omega
 have q2 : A.p.length = B.p.length := by omega
 have q3 : A.m.length = B.m.length := by omega
 have q4 : A.f.length = B.f.length := by omega
 have q5 : A.t.length = B.t.length := by omega
 have q6 : A.w.length = B.w.length := by omega
 have q7 : A.s.length = B.s.length := by omega
 refine Wp.skip ?_
 refine Ends.seq ?_
 refine Wr ?_
 refine Oa1 rfl rfl ?_
 refine On ?_
 refine Wp.seq ?_
 refine Wr ?_
 refine Oa1 rfl rfl ?_
 refine On ?_
 refine Wp.block ?_
 refine Wp.loopK (σ := Nat × Bool) [(2, _), (3, _)] (fun s => [(5, .bool s.2), (6, .int .i64 s.1)]) (fun s => (b2, .cells [.slice t1 B.o.length d1, .slice t2 B.p.length d2, .slice t3 B.m.length d3, .slice t4 B.f.length d4, .slice t5 B.t.length d5, .slice t6 B.w.length d6, .slice t7 B.s.length d7].toArray 40) :: ((b1, .cells [.slice s1 A.o.length c1, .slice s2 A.p.length c2, .slice s3 A.m.length c3, .slice s4 A.f.length c4, .slice s5 A.t.length c5, .slice s6 A.w.length c6, .slice s7 A.s.length c7].toArray 40) :: (H1 ++ (H2 ++ (H3 ++ (H4 ++ (H5 ++ (H6 ++ (H7 ++ (K1 ++ (K2 ++ (K3 ++ (K4 ++ (K5 ++ (K6 ++ (K7 ++ F)))))))))))))))) (fun s => s.1 ≤ A.o.length ∧ (s.2 = true ↔ (True) ∧ A.o.take s.1 = B.o.take s.1)) (fun s => A.o.length - s.1) (0, true) ⟨Nat.zero_le _, by simp⟩ ⟨rfl, rfl, trivial⟩ ⟨rfl, rfl, trivial⟩ (by intro w ho; (try dsimp only [List.nil_append, List.cons_append]); exact Drop.own ho) ?_
 rintro ⟨i, z1⟩ KK ⟨hi, hz1⟩ hK
 dsimp only [List.cons_append, List.nil_append] at hK ⊢
 dsimp only at hi hz1 ⊢
 refine Wp.seq ?_
 refine Wr ?_
 refine Om1 rfl rfl ?_
 refine Of1 rfl rfl rfl ?_
 refine Ol1 rfl rfl rfl rfl ?_
 refine Ops.pv (pv_len_slice (T := 32) rfl rfl) rfl ?_
 refine Ops.pv (pv_lss rfl rfl) rfl ?_
 refine On ?_
 refine Wp.cond_dect rfl (fun h2 => ?_) (fun h2 => ?_)
 ·
  obtain ⟨ea, hea⟩ : ∃ e, A.o[i]? = some e := ⟨_, List.getElem?_eq_getElem (by omega)⟩
  obtain ⟨eb9, heb⟩ : ∃ e, B.o[i]? = some e := ⟨_, List.getElem?_eq_getElem (by omega)⟩
  obtain ⟨ab, ao, ac, acap, hva, rfl, hxa, _⟩ := slc_el hs.o hea (by decide)
  cases hva
  obtain ⟨bb, bo, bc, bcap, hvb, rfl, hxb, _⟩ := slc_el ht.o heb (by decide)
  cases hvb
  refine Wp.skip ?_
  refine Ends.seq ?_
  refine Wp.seq ?_
  refine Wp.block ?_
  refine AnyH.start ([(b1, .cells [.slice (some ⟨ab, ao, none⟩) A.o.length c1, .slice s2 A.p.length c2, .slice s3 A.m.length c3, .slice s4 A.f.length c4, .slice s5 A.t.length c5, .slice s6 A.w.length c6, .slice s7 A.s.length c7].toArray 40), (b2, .cells [.slice (some ⟨bb, bo, none⟩) B.o.length d1, .slice t2 B.p.length d2, .slice t3 B.m.length d3, .slice t4 B.f.length d4, .slice t5 B.t.length d5, .slice t6 B.w.length d6, .slice t7 B.s.length d7].toArray 40), (ab, .cells ac.toArray 54), (bb, .cells bc.toArray 54)] : Hp) 15 rfl ?_
  refine Tk 0 rfl rfl (pv_move rfl) rfl ?_
  refine Tk 1 rfl rfl (pv_move rfl) rfl ?_
  refine AnyH.splitb (t := 82) rfl (fun h3 => ?_) (fun h3 => ?_)
  ·
   refine Tk 2 rfl ⟨_, _, rfl, rfl, rfl⟩ (pv_fieldAddr0 rfl rfl) rfl ?_
   refine Tk 3 rfl ⟨_, _, rfl, rfl, rfl⟩ (pv_load rfl rfl rfl) rfl ?_
   refine Tk 4 rfl ⟨_, _, rfl, rfl, rfl⟩ (pv_move rfl) rfl ?_
   refine Tk 5 rfl ⟨_, _, rfl, rfl, rfl⟩ (pv_indexAddr (i := i) rfl rfl rfl (by omega)) rfl ?_
   refine Tk 6 rfl ⟨_, _, rfl, rfl, rfl⟩ (pv_loadK (cE fsO ea) rfl rfl (by rw [cE, cellsE_len _ _ ea.len]; rfl) hxa.reads) rfl ?_
   refine Tk 7 rfl ⟨_, _, rfl, rfl, rfl⟩ (pv_fieldAddr0 rfl rfl) rfl ?_
   refine Tk 8 rfl ⟨_, _, rfl, rfl, rfl⟩ (pv_load rfl rfl rfl) rfl ?_
   refine Tk 9 rfl ⟨_, _, rfl, rfl, rfl⟩ (pv_move rfl) rfl ?_
   refine Tk 10 rfl ⟨_, _, rfl, rfl, rfl⟩ (pv_indexAddr (i := i) rfl rfl rfl (by omega)) rfl ?_
   refine Tk 11 rfl ⟨_, _, rfl, rfl, rfl⟩ (pv_loadK (cE fsO eb9) rfl rfl (by rw [cE, cellsE_len _ _ eb9.len]; rfl) hxb.reads) rfl ?_
   refine Tk 12 rfl ⟨_, _, rfl, rfl, rfl⟩ (pv_eql_of rfl rfl (fun w => eq_o ea eb9 w) (by kernel_rfl)) rfl ?_
   refine Tk 13 rfl rfl (pv_pick_true rfl rfl) rfl ?_
   refine Tk 14 rfl rfl (pv_assign rfl) rfl ?_
   refine AnyH.done (by kernel_rfl) ?_
   refine Ends.block_normal ?_
   refine Ends.seq ?_
   refine Wp.region ?_
   refine Om1 rfl rfl ?_
   refine Ops.pv (pv_add rfl rfl (w64n (k := i + 1) (by omega) (by omega))) rfl ?_
   refine Oa1 rfl rfl ?_
   refine Ops.nil ?_
   refine Ends.goes ?_
   refine Goes.back (hK (i + 1, decide (ea.val = eb9.val)) ⟨by dsimp only; omega, by first | exact leafS0 hea heb hz1 (by assumption) | exact leafS1 hea heb hz1 (by assumption)⟩ (by dsimp only; omega)) ⟨rfl, rfl, rfl, rfl, trivial⟩
  refine Ts 2 rfl ⟨_, _, rfl, rfl, rfl⟩ rfl ?_
  refine Ts 3 rfl ⟨_, _, rfl, rfl, rfl⟩ rfl ?_
  refine Ts 4 rfl ⟨_, _, rfl, rfl, rfl⟩ rfl ?_
  refine Ts 5 rfl ⟨_, _, rfl, rfl, rfl⟩ rfl ?_
  refine Ts 6 rfl ⟨_, _, rfl, rfl, rfl⟩ rfl ?_
  refine Ts 7 rfl ⟨_, _, rfl, rfl, rfl⟩ rfl ?_
  refine Ts 8 rfl ⟨_, _, rfl, rfl, rfl⟩ rfl ?_
  refine Ts 9 rfl ⟨_, _, rfl, rfl, rfl⟩ rfl ?_
  refine Ts 10 rfl ⟨_, _, rfl, rfl, rfl⟩ rfl ?_
  refine Ts 11 rfl ⟨_, _, rfl, rfl, rfl⟩ rfl ?_
  refine Ts 12 rfl ⟨_, _, rfl, rfl, rfl⟩ rfl ?_
  refine Tk 13 rfl rfl (pv_pick_false rfl rfl) rfl ?_
  refine Tk 14 rfl rfl (pv_assign rfl) rfl ?_
  refine AnyH.done (by kernel_rfl) ?_
  refine Ends.block_normal ?_
  refine Ends.seq ?_
  refine Wp.region ?_
  refine Om1 rfl rfl ?_
  refine Ops.pv (pv_add rfl rfl (w64n (k := i + 1) (by omega) (by omega))) rfl ?_
  refine Oa1 rfl rfl ?_
  refine Ops.nil ?_
  refine Ends.goes ?_
  refine Goes.back (hK (i + 1, false) ⟨by dsimp only; omega, by first | exact leafS0 hea heb hz1 (by assumption) | exact leafS1 hea heb hz1 (by assumption)⟩ (by dsimp only; omega)) ⟨rfl, rfl, rfl, rfl, trivial⟩
 obtain rfl : i = A.o.length := by omega
 rw [List.take_length, q1, List.take_length] at hz1
 refine Wp.exit ?_
 refine Ends.then_exit ?_
 refine Ends.then_exit ?_
 refine Ends.block_hit ?_
 refine Ends.seq ?_
 refine Wp.seq ?_
 refine Wr ?_
 refine Oa1 rfl rfl ?_
 refine On ?_
 refine Wp.block ?_
 refine Wp.loopK (σ := Nat × Bool) [(2, _), (3, _)] (fun s => [(5, .bool s.2), (7, .int .i64 s.1)]) (fun s => (b2, .cells [.slice t1 B.o.length d1, .slice t2 B.p.length d2, .slice t3 B.m.length d3, .slice t4 B.f.length d4, .slice t5 B.t.length d5, .slice t6 B.w.length d6, .slice t7 B.s.length d7].toArray 40) :: ((b1, .cells [.slice s1 A.o.length c1, .slice s2 A.p.length c2, .slice s3 A.m.length c3, .slice s4 A.f.length c4, .slice s5 A.t.length c5, .slice s6 A.w.length c6, .slice s7 A.s.length c7].toArray 40) :: (H1 ++ (H2 ++ (H3 ++ (H4 ++ (H5 ++ (H6 ++ (H7 ++ (K1 ++ (K2 ++ (K3 ++ (K4 ++ (K5 ++ (K6 ++ (K7 ++ F)))))))))))))))) (fun s => s.1 ≤ A.p.length ∧ (s.2 = true ↔ ((True) ∧ A.o = B.o) ∧ A.p.take s.1 = B.p.take s.1)) (fun s => A.p.length - s.1) (0, z1) ⟨Nat.zero_le _, by rw [hz1]; simp⟩ ⟨rfl, rfl, trivial⟩ ⟨rfl, rfl, trivial⟩ (by intro w ho; (try dsimp only [List.nil_append, List.cons_append]); exact Drop.own ho) ?_
 rintro ⟨i, z2⟩ KK ⟨hi, hz2⟩ hK
 dsimp only [List.cons_append, List.nil_append] at hK ⊢
 dsimp only at hi hz2 ⊢
 refine Wp.seq ?_
 refine Wr ?_
 refine Om1 rfl rfl ?_
 refine Of1 rfl rfl rfl ?_
 refine Ol1 rfl rfl rfl rfl ?_
 refine Ops.pv (pv_len_slice (T := 33) rfl rfl) rfl ?_
 refine Ops.pv (pv_lss rfl rfl) rfl ?_
 refine On ?_
 refine Wp.cond_dect rfl (fun h4 => ?_) (fun h4 => ?_)
 ·
  obtain ⟨ea, hea⟩ : ∃ e, A.p[i]? = some e := ⟨_, List.getElem?_eq_getElem (by omega)⟩
  obtain ⟨eb9, heb⟩ : ∃ e, B.p[i]? = some e := ⟨_, List.getElem?_eq_getElem (by omega)⟩
  obtain ⟨ab, ao, ac, acap, hva, rfl, hxa, _⟩ := slc_el hs.p hea (by decide)
  cases hva
  obtain ⟨bb, bo, bc, bcap, hvb, rfl, hxb, _⟩ := slc_el ht.p heb (by decide)
  cases hvb
  refine Wp.skip ?_
  refine Ends.seq ?_
  refine Wp.seq ?_
  refine Wp.block ?_
  refine AnyH.start ([(b1, .cells [.slice s1 A.o.length c1, .slice (some ⟨ab, ao, none⟩) A.p.length c2, .slice s3 A.m.length c3, .slice s4 A.f.length c4, .slice s5 A.t.length c5, .slice s6 A.w.length c6, .slice s7 A.s.length c7].toArray 40), (b2, .cells [.slice t1 B.o.length d1, .slice (some ⟨bb, bo, none⟩) B.p.length d2, .slice t3 B.m.length d3, .slice t4 B.f.length d4, .slice t5 B.t.length d5, .slice t6 B.w.length d6, .slice t7 B.s.length d7].toArray 40), (ab, .cells ac.toArray 62), (bb, .cells bc.toArray 62)] : Hp) 15 rfl ?_
  refine Tk 0 rfl rfl (pv_move rfl) rfl ?_
  refine Tk 1 rfl rfl (pv_move rfl) rfl ?_
  refine AnyH.splitb (t := 103) rfl (fun h5 => ?_) (fun h5 => ?_)
  ·
   refine Tk 2 rfl ⟨_, _, rfl, rfl, rfl⟩ (pv_fieldAddr0 rfl rfl) rfl ?_
   refine Tk 3 rfl ⟨_, _, rfl, rfl, rfl⟩ (pv_load rfl rfl rfl) rfl ?_
   refine Tk 4 rfl ⟨_, _, rfl, rfl, rfl⟩ (pv_move rfl) rfl ?_
   refine Tk 5 rfl ⟨_, _, rfl, rfl, rfl⟩ (pv_indexAddr (i := i) rfl rfl rfl (by omega)) rfl ?_
   refine Tk 6 rfl ⟨_, _, rfl, rfl, rfl⟩ (pv_loadK (cE fsP ea) rfl rfl (by rw [cE, cellsE_len _ _ ea.len]; rfl) hxa.reads) rfl ?_
   refine Tk 7 rfl ⟨_, _, rfl, rfl, rfl⟩ (pv_fieldAddr0 rfl rfl) rfl ?_
   refine Tk 8 rfl ⟨_, _, rfl, rfl, rfl⟩ (pv_load rfl rfl rfl) rfl ?_
   refine Tk 9 rfl ⟨_, _, rfl, rfl, rfl⟩ (pv_move rfl) rfl ?_
   refine Tk 10 rfl ⟨_, _, rfl, rfl, rfl⟩ (pv_indexAddr (i := i) rfl rfl rfl (by omega)) rfl ?_
   refine Tk 11 rfl ⟨_, _, rfl, rfl, rfl⟩ (pv_loadK (cE fsP eb9) rfl rfl (by rw [cE, cellsE_len _ _ eb9.len]; rfl) hxb.reads) rfl ?_
   refine Tk 12 rfl ⟨_, _, rfl, rfl, rfl⟩ (pv_eql_of rfl rfl (fun w => eq_p ea eb9 w) (by kernel_rfl)) rfl ?_
   refine Tk 13 rfl rfl (pv_pick_true rfl rfl) rfl ?_
   refine Tk 14 rfl rfl (pv_assign rfl) rfl ?_
   refine AnyH.done (by kernel_rfl) ?_
   refine Ends.block_normal ?_
   refine Ends.seq ?_
   refine Wp.region ?_
   refine Om1 rfl rfl ?_
   refine Ops.pv (pv_add rfl rfl (w64n (k := i + 1) (by omega) (by omega))) rfl ?_
   refine Oa1 rfl rfl ?_
   refine Ops.nil ?_
   refine Ends.goes ?_
   refine Goes.back (hK (i + 1, decide (ea.val = eb9.val)) ⟨by dsimp only; omega, by first | exact leafS0 hea heb hz2 (by assumption) | exact leafS1 hea heb hz2 (by assumption)⟩ (by dsimp only; omega)) ⟨rfl, rfl, rfl, rfl, trivial⟩
  refine Ts 2 rfl ⟨_, _, rfl, rfl, rfl⟩ rfl ?_
  refine Ts 3 rfl ⟨_, _, rfl, rfl, rfl⟩ rfl ?_
  refine Ts 4 rfl ⟨_, _, rfl, rfl, rfl⟩ rfl ?_
  refine Ts 5 rfl ⟨_, _, rfl, rfl, rfl⟩ rfl ?_
  refine Ts 6 rfl ⟨_, _, rfl, rfl, rfl⟩ rfl ?_
  refine Ts 7 rfl ⟨_, _, rfl, rfl, rfl⟩ rfl ?_
  refine Ts 8 rfl ⟨_, _, rfl, rfl, rfl⟩ rfl ?_
  refine Ts 9 rfl ⟨_, _, rfl, rfl, rfl⟩ rfl ?_
  refine Ts 10 rfl ⟨_, _, rfl, rfl, rfl⟩ rfl ?_
  refine Ts 11 rfl ⟨_, _, rfl, rfl, rfl⟩ rfl ?_
  refine Ts 12 rfl ⟨_, _, rfl, rfl, rfl⟩ rfl ?_
  refine Tk 13 rfl rfl (pv_pick_false rfl rfl) rfl ?_
  refine Tk 14 rfl rfl (pv_assign rfl) rfl ?_
  refine AnyH.done (by kernel_rfl) ?_
  refine Ends.block_normal ?_
  refine Ends.seq ?_
  refine Wp.region ?_
  refine Om1 rfl rfl ?_
  refine Ops.pv (pv_add rfl rfl (w64n (k := i + 1) (by omega) (by omega))) rfl ?_
  refine Oa1 rfl rfl ?_
  refine Ops.nil ?_
  refine Ends.goes ?_
  refine Goes.back (hK (i + 1, false) ⟨by dsimp only; omega, by first | exact leafS0 hea heb hz2 (by assumption) | exact leafS1 hea heb hz2 (by assumption)⟩ (by dsimp only; omega)) ⟨rfl, rfl, rfl, rfl, trivial⟩
 obtain rfl : i = A.p.length := by omega
 rw [List.take_length, q2, List.take_length] at hz2
 refine Wp.exit ?_
 refine Ends.then_exit ?_
 refine Ends.then_exit ?_
 refine Ends.block_hit ?_
 refine Ends.seq ?_
 refine Wp.seq ?_
 refine Wr ?_
 refine Oa1 rfl rfl ?_
 refine On ?_
 refine Wp.block ?_
 refine Wp.loopK (σ := Nat × Bool) [(2, _), (3, _)] (fun s => [(5, .bool s.2), (8, .int .i64 s.1)]) (fun s => (b2, .cells [.slice t1 B.o.length d1, .slice t2 B.p.length d2, .slice t3 B.m.length d3, .slice t4 B.f.length d4, .slice t5 B.t.length d5, .slice t6 B.w.length d6, .slice t7 B.s.length d7].toArray 40) :: ((b1, .cells [.slice s1 A.o.length c1, .slice s2 A.p.length c2, .slice s3 A.m.length c3, .slice s4 A.f.length c4, .slice s5 A.t.length c5, .slice s6 A.w.length c6, .slice s7 A.s.length c7].toArray 40) :: (H1 ++ (H2 ++ (H3 ++ (H4 ++ (H5 ++ (H6 ++ (H7 ++ (K1 ++ (K2 ++ (K3 ++ (K4 ++ (K5 ++ (K6 ++ (K7 ++ F)))))))))))))))) (fun s => s.1 ≤ A.m.length ∧ (s.2 = true ↔ (((True) ∧ A.o = B.o) ∧ A.p = B.p) ∧ A.m.take s.1 = B.m.take s.1)) (fun s => A.m.length - s.1) (0, z2) ⟨Nat.zero_le _, by rw [hz2]; simp⟩ ⟨rfl, rfl, trivial⟩ ⟨rfl, rfl, trivial⟩ (by intro w ho; (try dsimp only [List.nil_append, List.cons_append]); exact Drop.own ho) ?_
 rintro ⟨i, z3⟩ KK ⟨hi, hz3⟩ hK
 dsimp only [List.cons_append, List.nil_append] at hK ⊢
 dsimp only at hi hz3 ⊢
 refine Wp.seq ?_
 refine Wr ?_
 refine Om1 rfl rfl ?_
 refine Of1 rfl rfl rfl ?_
 refine Ol1 rfl rfl rfl rfl ?_
 refine Ops.pv (pv_len_slice (T := 34) rfl rfl) rfl ?_
 refine Ops.pv (pv_lss rfl rfl) rfl ?_
 refine On ?_
 refine Wp.cond_dect rfl (fun h6 => ?_) (fun h6 => ?_)
 ·
  obtain ⟨ea, hea⟩ : ∃ e, A.m[i]? = some e := ⟨_, List.getElem?_eq_getElem (by omega)⟩
  obtain ⟨eb9, heb⟩ : ∃ e, B.m[i]? = some e := ⟨_, List.getElem?_eq_getElem (by omega)⟩
  obtain ⟨ab, ao, ac, acap, hva, rfl, hxa, _⟩ := slc_el hs.m hea (by decide)
  cases hva
  obtain ⟨bb, bo, bc, bcap, hvb, rfl, hxb, _⟩ := slc_el ht.m heb (by decide)
  cases hvb
  refine Wp.skip ?_
  refine Ends.seq ?_
  refine Wp.seq ?_
  refine Wp.block ?_
  refine AnyH.start ([(b1, .cells [.slice s1 A.o.length c1, .slice s2 A.p.length c2, .slice (some ⟨ab, ao, none⟩) A.m.length c3, .slice s4 A.f.length c4, .slice s5 A.t.length c5, .slice s6 A.w.length c6, .slice s7 A.s.length c7].toArray 40), (b2, .cells [.slice t1 B.o.length d1, .slice t2 B.p.length d2, .slice (some ⟨bb, bo, none⟩) B.m.length d3, .slice t4 B.f.length d4, .slice t5 B.t.length d5, .slice t6 B.w.length d6, .slice t7 B.s.length d7].toArray 40), (ab, .cells ac.toArray 65), (bb, .cells bc.toArray 65)] : Hp) 15 rfl ?_
  refine Tk 0 rfl rfl (pv_move rfl) rfl ?_
  refine Tk 1 rfl rfl (pv_move rfl) rfl ?_
  refine AnyH.splitb (t := 124) rfl (fun h7 => ?_) (fun h7 => ?_)
  ·
   refine Tk 2 rfl ⟨_, _, rfl, rfl, rfl⟩ (pv_fieldAddr0 rfl rfl) rfl ?_
   refine Tk 3 rfl ⟨_, _, rfl, rfl, rfl⟩ (pv_load rfl rfl rfl) rfl ?_
   refine Tk 4 rfl ⟨_, _, rfl, rfl, rfl⟩ (pv_move rfl) rfl ?_
   refine Tk 5 rfl ⟨_, _, rfl, rfl, rfl⟩ (pv_indexAddr (i := i) rfl rfl rfl (by omega)) rfl ?_
   refine Tk 6 rfl ⟨_, _, rfl, rfl, rfl⟩ (pv_loadK (cE fsM ea) rfl rfl (by rw [cE, cellsE_len _ _ ea.len]; rfl) hxa.reads) rfl ?_
   refine Tk 7 rfl ⟨_, _, rfl, rfl, rfl⟩ (pv_fieldAddr0 rfl rfl) rfl ?_
   refine Tk 8 rfl ⟨_, _, rfl, rfl, rfl⟩ (pv_load rfl rfl rfl) rfl ?_
   refine Tk 9 rfl ⟨_, _, rfl, rfl, rfl⟩ (pv_move rfl) rfl ?_
   refine Tk 10 rfl ⟨_, _, rfl, rfl, rfl⟩ (pv_indexAddr (i := i) rfl rfl rfl (by omega)) rfl ?_
   refine Tk 11 rfl ⟨_, _, rfl, rfl, rfl⟩ (pv_loadK (cE fsM eb9) rfl rfl (by rw [cE, cellsE_len _ _ eb9.len]; rfl) hxb.reads) rfl ?_
   refine Tk 12 rfl ⟨_, _, rfl, rfl, rfl⟩ (pv_eql_of rfl rfl (fun w => eq_m ea eb9 w) (by kernel_rfl)) rfl ?_
   refine Tk 13 rfl rfl (pv_pick_true rfl rfl) rfl ?_
   refine Tk 14 rfl rfl (pv_assign rfl) rfl ?_
   refine AnyH.done (by kernel_rfl) ?_
   refine Ends.block_normal ?_
   refine Ends.seq ?_
   refine Wp.region ?_
   refine Om1 rfl rfl ?_
   refine Ops.pv (pv_add rfl rfl (w64n (k := i + 1) (by omega) (by omega))) rfl ?_
   refine Oa1 rfl rfl ?_
   refine Ops.nil ?_
   refine Ends.goes ?_
   refine Goes.back (hK (i + 1, decide (ea.val = eb9.val)) ⟨by dsimp only; omega, by first | exact leafS0 hea heb hz3 (by assumption) | exact leafS1 hea heb hz3 (by assumption)⟩ (by dsimp only; omega)) ⟨rfl, rfl, rfl, rfl, trivial⟩
  refine Ts 2 rfl ⟨_, _, rfl, rfl, rfl⟩ rfl ?_
  refine Ts 3 rfl ⟨_, _, rfl, rfl, rfl⟩ rfl ?_
  refine Ts 4 rfl ⟨_, _, rfl, rfl, rfl⟩ rfl ?_
  refine Ts 5 rfl ⟨_, _, rfl, rfl, rfl⟩ rfl ?_
  refine Ts 6 rfl ⟨_, _, rfl, rfl, rfl⟩ rfl ?_
  refine Ts 7 rfl ⟨_, _, rfl, rfl, rfl⟩ rfl ?_
  refine Ts 8 rfl ⟨_, _, rfl, rfl, rfl⟩ rfl ?_
  refine Ts 9 rfl ⟨_, _, rfl, rfl, rfl⟩ rfl ?_
  refine Ts 10 rfl ⟨_, _, rfl, rfl, rfl⟩ rfl ?_
  refine Ts 11 rfl ⟨_, _, rfl, rfl, rfl⟩ rfl ?_
  refine Ts 12 rfl ⟨_, _, rfl, rfl, rfl⟩ rfl ?_
  refine Tk 13 rfl rfl (pv_pick_false rfl rfl) rfl ?_
  refine Tk 14 rfl rfl (pv_assign rfl) rfl ?_
  refine AnyH.done (by kernel_rfl) ?_
  refine Ends.block_normal ?_
  refine Ends.seq ?_
  refine Wp.region ?_
  refine Om1 rfl rfl ?_
  refine Ops.pv (pv_add rfl rfl (w64n (k := i + 1) (by omega) (by omega))) rfl ?_
  refine Oa1 rfl rfl ?_
  refine Ops.nil ?_
  refine Ends.goes ?_
  refine Goes.back (hK (i + 1, false) ⟨by dsimp only; omega, by first | exact leafS0 hea heb hz3 (by assumption) | exact leafS1 hea heb hz3 (by assumption)⟩ (by dsimp only; omega)) ⟨rfl, rfl, rfl, rfl, trivial⟩
 obtain rfl : i = A.m.length := by omega
 rw [List.take_length, q3, List.take_length] at hz3
 refine Wp.exit ?_
 refine Ends.then_exit ?_
 refine Ends.then_exit ?_
 refine Ends.block_hit ?_
 refine Ends.seq ?_
 refine Wp.seq ?_
 refine Wr ?_
 refine Oa1 rfl rfl ?_
 refine On ?_
 refine Wp.block ?_
 refine Wp.loopK (σ := Nat × Bool) [(2, _), (3, _)] (fun s => [(5, .bool s.2), (9, .int .i64 s.1)]) (fun s => (b2, .cells [.slice t1 B.o.length d1, .slice t2 B.p.length d2, .slice t3 B.m.length d3, .slice t4 B.f.length d4, .slice t5 B.t.length d5, .slice t6 B.w.length d6, .slice t7 B.s.length d7].toArray 40) :: ((b1, .cells [.slice s1 A.o.length c1, .slice s2 A.p.length c2, .slice s3 A.m.length c3, .slice s4 A.f.length c4, .slice s5 A.t.length c5, .slice s6 A.w.length c6, .slice s7 A.s.length c7].toArray 40) :: (H1 ++ (H2 ++ (H3 ++ (H4 ++ (H5 ++ (H6 ++ (H7 ++ (K1 ++ (K2 ++ (K3 ++ (K4 ++ (K5 ++ (K6 ++ (K7 ++ F)))))))))))))))) (fun s => s.1 ≤ A.f.length ∧ (s.2 = true ↔ ((((True) ∧ A.o = B.o) ∧ A.p = B.p) ∧ A.m = B.m) ∧ A.f.take s.1 = B.f.take s.1)) (fun s => A.f.length - s.1) (0, z3) ⟨Nat.zero_le _, by rw [hz3]; simp⟩ ⟨rfl, rfl, trivial⟩ ⟨rfl, rfl, trivial⟩ (by intro w ho; (try dsimp only [List.nil_append, List.cons_append]); exact Drop.own ho) ?_
 rintro ⟨i, z4⟩ KK ⟨hi, hz4⟩ hK
 dsimp only [List.cons_append, List.nil_append] at hK ⊢
 dsimp only at hi hz4 ⊢
 refine Wp.seq ?_
 refine Wr ?_
 refine Om1 rfl rfl ?_
 refine Of1 rfl rfl rfl ?_
 refine Ol1 rfl rfl rfl rfl ?_
 refine Ops.pv (pv_len_slice (T := 35) rfl rfl) rfl ?_
 refine Ops.pv (pv_lss rfl rfl) rfl ?_
 refine On ?_
 refine Wp.cond_dect rfl (fun h8 => ?_) (fun h8 => ?_)
 ·
  obtain ⟨ea, hea⟩ : ∃ e, A.f[i]? = some e := ⟨_, List.getElem?_eq_getElem (by omega)⟩
  obtain ⟨eb9, heb⟩ : ∃ e, B.f[i]? = some e := ⟨_, List.getElem?_eq_getElem (by omega)⟩
  obtain ⟨ab, ao, ac, acap, hva, rfl, hxa, _⟩ := slc_el hs.f hea (by decide)
  cases hva
  obtain ⟨bb, bo, bc, bcap, hvb, rfl, hxb, _⟩ := slc_el ht.f heb (by decide)
  cases hvb
  refine Wp.skip ?_
  refine Ends.seq ?_
  refine Wp.seq ?_
  refine Wp.block ?_
  refine AnyH.start ([(b1, .cells [.slice s1 A.o.length c1, .slice s2 A.p.length c2, .slice s3 A.m.length c3, .slice (some ⟨ab, ao, none⟩) A.f.length c4, .slice s5 A.t.length c5, .slice s6 A.w.length c6, .slice s7 A.s.length c7].toArray 40), (b2, .cells [.slice t1 B.o.length d1, .slice t2 B.p.length d2, .slice t3 B.m.length d3, .slice (some ⟨bb, bo, none⟩) B.f.length d4, .slice t5 B.t.length d5, .slice t6 B.w.length d6, .slice t7 B.s.length d7].toArray 40), (ab, .cells ac.toArray 68), (bb, .cells bc.toArray 68)] : Hp) 15 rfl ?_
  refine Tk 0 rfl rfl (pv_move rfl) rfl ?_
  refine Tk 1 rfl rfl (pv_move rfl) rfl ?_
  refine AnyH.splitb (t := 145) rfl (fun h9 => ?_) (fun h9 => ?_)
  ·
   refine Tk 2 rfl ⟨_, _, rfl, rfl, rfl⟩ (pv_fieldAddr0 rfl rfl) rfl ?_
   refine Tk 3 rfl ⟨_, _, rfl, rfl, rfl⟩ (pv_load rfl rfl rfl) rfl ?_
   refine Tk 4 rfl ⟨_, _, rfl, rfl, rfl⟩ (pv_move rfl) rfl ?_
   refine Tk 5 rfl ⟨_, _, rfl, rfl, rfl⟩ (pv_indexAddr (i := i) rfl rfl rfl (by omega)) rfl ?_
   refine Tk 6 rfl ⟨_, _, rfl, rfl, rfl⟩ (pv_loadK (cE fsF ea) rfl rfl (by rw [cE, cellsE_len _ _ ea.len]; rfl) hxa.reads) rfl ?_
   refine Tk 7 rfl ⟨_, _, rfl, rfl, rfl⟩ (pv_fieldAddr0 rfl rfl) rfl ?_
   refine Tk 8 rfl ⟨_, _, rfl, rfl, rfl⟩ (pv_load rfl rfl rfl) rfl ?_
   refine Tk 9 rfl ⟨_, _, rfl, rfl, rfl⟩ (pv_move rfl) rfl ?_
   refine Tk 10 rfl ⟨_, _, rfl, rfl, rfl⟩ (pv_indexAddr (i := i) rfl rfl rfl (by omega)) rfl ?_
   refine Tk 11 rfl ⟨_, _, rfl, rfl, rfl⟩ (pv_loadK (cE fsF eb9) rfl rfl (by rw [cE, cellsE_len _ _ eb9.len]; rfl) hxb.reads) rfl ?_
   refine Tk 12 rfl ⟨_, _, rfl, rfl, rfl⟩ (pv_eql_of rfl rfl (fun w => eq_f ea eb9 w) (by kernel_rfl)) rfl ?_
   refine Tk 13 rfl rfl (pv_pick_true rfl rfl) rfl ?_
   refine Tk 14 rfl rfl (pv_assign rfl) rfl ?_
   refine AnyH.done (by kernel_rfl) ?_
   refine Ends.block_normal ?_
   refine Ends.seq ?_
   refine Wp.region ?_
   refine Om1 rfl rfl ?_
   refine Ops.pv (pv_add rfl rfl (w64n (k := i + 1) (by omega) (by omega))) rfl ?_
   refine Oa1 rfl rfl ?_
   refine Ops.nil ?_
   refine Ends.goes ?_
   refine Goes.back (hK (i + 1, decide (ea.val = eb9.val)) ⟨by dsimp only; omega, by first | exact leafS0 hea heb hz4 (by assumption) | exact leafS1 hea heb hz4 (by assumption)⟩ (by dsimp only; omega)) ⟨rfl, rfl, rfl, rfl, trivial⟩
  refine Ts 2 rfl ⟨_, _, rfl, rfl, rfl⟩ rfl ?_
  refine Ts 3 rfl ⟨_, _, rfl, rfl, rfl⟩ rfl ?_
  refine Ts 4 rfl ⟨_, _, rfl, rfl, rfl⟩ rfl ?_
  refine Ts 5 rfl ⟨_, _, rfl, rfl, rfl⟩ rfl ?_
  refine Ts 6 rfl ⟨_, _, rfl, rfl, rfl⟩ rfl ?_
  refine Ts 7 rfl ⟨_, _, rfl, rfl, rfl⟩ rfl ?_
  refine Ts 8 rfl ⟨_, _, rfl, rfl, rfl⟩ rfl ?_
  refine Ts 9 rfl ⟨_, _, rfl, rfl, rfl⟩ rfl ?_
  refine Ts 10 rfl ⟨_, _, rfl, rfl, rfl⟩ rfl ?_
  refine Ts 11 rfl ⟨_, _, rfl, rfl, rfl⟩ rfl ?_
  refine Ts 12 rfl ⟨_, _, rfl, rfl, rfl⟩ rfl ?_
  refine Tk 13 rfl rfl (pv_pick_false rfl rfl) rfl ?_
  refine Tk 14 rfl rfl (pv_assign rfl) rfl ?_
  refine AnyH.done (by kernel_rfl) ?_
  refine Ends.block_normal ?_
  refine Ends.seq ?_
  refine Wp.region ?_
  refine Om1 rfl rfl ?_
  refine Ops.pv (pv_add rfl rfl (w64n (k := i + 1) (by omega) (by omega))) rfl ?_
  refine Oa1 rfl rfl ?_
  refine Ops.nil ?_
  refine Ends.goes ?_
  refine Goes.back (hK (i + 1, false) ⟨by dsimp only; omega, by first | exact leafS0 hea heb hz4 (by assumption) | exact leafS1 hea heb hz4 (by assumption)⟩ (by dsimp only; omega)) ⟨rfl, rfl, rfl, rfl, trivial⟩
 obtain rfl : i = A.f.length := by omega
 rw [List.take_length, q4, List.take_length] at hz4
 refine Wp.exit ?_
 refine Ends.then_exit ?_
 refine Ends.then_exit ?_
 refine Ends.block_hit ?_
 refine Ends.seq ?_
 refine Wp.seq ?_
 refine Wr ?_
 refine Oa1 rfl rfl ?_
 refine On ?_
 refine Wp.block ?_
 refine Wp.loopK (σ := Nat × Bool) [(2, _), (3, _)] (fun s => [(5, .bool s.2), (10, .int .i64 s.1)]) (fun s => (b2, .cells [.slice t1 B.o.length d1, .slice t2 B.p.length d2, .slice t3 B.m.length d3, .slice t4 B.f.length d4, .slice t5 B.t.length d5, .slice t6 B.w.length d6, .slice t7 B.s.length d7].toArray 40) :: ((b1, .cells [.slice s1 A.o.length c1, .slice s2 A.p.length c2, .slice s3 A.m.length c3, .slice s4 A.f.length c4, .slice s5 A.t.length c5, .slice s6 A.w.length c6, .slice s7 A.s.length c7].toArray 40) :: (H1 ++ (H2 ++ (H3 ++ (H4 ++ (H5 ++ (H6 ++ (H7 ++ (K1 ++ (K2 ++ (K3 ++ (K4 ++ (K5 ++ (K6 ++ (K7 ++ F)))))))))))))))) (fun s => s.1 ≤ A.t.length ∧ (s.2 = true ↔ (((((True) ∧ A.o = B.o) ∧ A.p = B.p) ∧ A.m = B.m) ∧ A.f = B.f) ∧ A.t.take s.1 = B.t.take s.1)) (fun s => A.t.length - s.1) (0, z4) ⟨Nat.zero_le _, by rw [hz4]; simp⟩ ⟨rfl, rfl, trivial⟩ ⟨rfl, rfl, trivial⟩ (by intro w ho; (try dsimp only [List.nil_append, List.cons_append]); exact Drop.own ho) ?_
 rintro ⟨i, z5⟩ KK ⟨hi, hz5⟩ hK
 dsimp only [List.cons_append, List.nil_append] at hK ⊢
 dsimp only at hi hz5 ⊢
 refine Wp.seq ?_
 refine Wr ?_
 refine Om1 rfl rfl ?_
 refine Of1 rfl rfl rfl ?_
 refine Ol1 rfl rfl rfl rfl ?_
 refine Ops.pv (pv_len_slice (T := 36) rfl rfl) rfl ?_
 refine Ops.pv (pv_lss rfl rfl) rfl ?_
 refine On ?_
 refine Wp.cond_dect rfl (fun h10 => ?_) (fun h10 => ?_)
 ·
  obtain ⟨ea, hea⟩ : ∃ e, A.t[i]? = some e := ⟨_, List.getElem?_eq_getElem (by omega)⟩
  obtain ⟨eb9, heb⟩ : ∃ e, B.t[i]? = some e := ⟨_, List.getElem?_eq_getElem (by omega)⟩
  obtain ⟨ab, ao, ac, acap, hva, rfl, hxa, _⟩ := slc_el hs.t hea (by decide)
  cases hva
  obtain ⟨bb, bo, bc, bcap, hvb, rfl, hxb, _⟩ := slc_el ht.t heb (by decide)
  cases hvb
  refine Wp.skip ?_
  refine Ends.seq ?_
  refine Wp.seq ?_
  refine Wp.block ?_
  refine AnyH.start ([(b1, .cells [.slice s1 A.o.length c1, .slice s2 A.p.length c2, .slice s3 A.m.length c3, .slice s4 A.f.length c4, .slice (some ⟨ab, ao, none⟩) A.t.length c5, .slice s6 A.w.length c6, .slice s7 A.s.length c7].toArray 40), (b2, .cells [.slice t1 B.o.length d1, .slice t2 B.p.length d2, .slice t3 B.m.length d3, .slice t4 B.f.length d4, .slice (some ⟨bb, bo, none⟩) B.t.length d5, .slice t6 B.w.length d6, .slice t7 B.s.length d7].toArray 40), (ab, .cells ac.toArray 71), (bb, .cells bc.toArray 71)] : Hp) 15 rfl ?_
  refine Tk 0 rfl rfl (pv_move rfl) rfl ?_
  refine Tk 1 rfl rfl (pv_move rfl) rfl ?_
  refine AnyH.splitb (t := 166) rfl (fun h11 => ?_) (fun h11 => ?_)
  ·
   refine Tk 2 rfl ⟨_, _, rfl, rfl, rfl⟩ (pv_fieldAddr0 rfl rfl) rfl ?_
   refine Tk 3 rfl ⟨_, _, rfl, rfl, rfl⟩ (pv_load rfl rfl rfl) rfl ?_
   refine Tk 4 rfl ⟨_, _, rfl, rfl, rfl⟩ (pv_move rfl) rfl ?_
   refine Tk 5 rfl ⟨_, _, rfl, rfl, rfl⟩ (pv_indexAddr (i := i) rfl rfl rfl (by omega)) rfl ?_
   refine Tk 6 rfl ⟨_, _, rfl, rfl, rfl⟩ (pv_loadK (cE fsT ea) rfl rfl (by rw [cE, cellsE_len _ _ ea.len]; rfl) hxa.reads) rfl ?_
   refine Tk 7 rfl ⟨_, _, rfl, rfl, rfl⟩ (pv_fieldAddr0 rfl rfl) rfl ?_
   refine Tk 8 rfl ⟨_, _, rfl, rfl, rfl⟩ (pv_load rfl rfl rfl) rfl ?_
   refine Tk 9 rfl ⟨_, _, rfl, rfl, rfl⟩ (pv_move rfl) rfl ?_
   refine Tk 10 rfl ⟨_, _, rfl, rfl, rfl⟩ (pv_indexAddr (i := i) rfl rfl rfl (by omega)) rfl ?_
   refine Tk 11 rfl ⟨_, _, rfl, rfl, rfl⟩ (pv_loadK (cE fsT eb9) rfl rfl (by rw [cE, cellsE_len _ _ eb9.len]; rfl) hxb.reads) rfl ?_
   refine Tk 12 rfl ⟨_, _, rfl, rfl, rfl⟩ (pv_eql_of rfl rfl (fun w => eq_t ea eb9 w) (by kernel_rfl)) rfl ?_
   refine Tk 13 rfl rfl (pv_pick_true rfl rfl) rfl ?_
   refine Tk 14 rfl rfl (pv_assign rfl) rfl ?_
   refine AnyH.done (by kernel_rfl) ?_
   refine Ends.block_normal ?_
   refine Ends.seq ?_
   refine Wp.region ?_
   refine Om1 rfl rfl ?_
   refine Ops.pv (pv_add rfl rfl (w64n (k := i + 1) (by omega) (by omega))) rfl ?_
   refine Oa1 rfl rfl ?_
   refine Ops.nil ?_
   refine Ends.goes ?_
   refine Goes.back (hK (i + 1, decide (ea.val = eb9.val)) ⟨by dsimp only; omega, by first | exact leafS0 hea heb hz5 (by assumption) | exact leafS1 hea heb hz5 (by assumption)⟩ (by dsimp only; omega)) ⟨rfl, rfl, rfl, rfl, trivial⟩
  refine Ts 2 rfl ⟨_, _, rfl, rfl, rfl⟩ rfl ?_
  refine Ts 3 rfl ⟨_, _, rfl, rfl, rfl⟩ rfl ?_
  refine Ts 4 rfl ⟨_, _, rfl, rfl, rfl⟩ rfl ?_
  refine Ts 5 rfl ⟨_, _, rfl, rfl, rfl⟩ rfl ?_
  refine Ts 6 rfl ⟨_, _, rfl, rfl, rfl⟩ rfl ?_
  refine Ts 7 rfl ⟨_, _, rfl, rfl, rfl⟩ rfl ?_
  refine Ts 8 rfl ⟨_, _, rfl, rfl, rfl⟩ rfl ?_
  refine Ts 9 rfl ⟨_, _, rfl, rfl, rfl⟩ rfl ?_
  refine Ts 10 rfl ⟨_, _, rfl, rfl, rfl⟩ rfl ?_
  refine Ts 11 rfl ⟨_, _, rfl, rfl, rfl⟩ rfl ?_
  refine Ts 12 rfl ⟨_, _, rfl, rfl, rfl⟩ rfl ?_
  refine Tk 13 rfl rfl (pv_pick_false rfl rfl) rfl ?_
  refine Tk 14 rfl rfl (pv_assign rfl) rfl ?_
  refine AnyH.done (by kernel_rfl) ?_
  refine Ends.block_normal ?_
  refine Ends.seq ?_
  refine Wp.region ?_
  refine Om1 rfl rfl ?_
  refine Ops.pv (pv_add rfl rfl (w64n (k := i + 1) (by omega) (by omega))) rfl ?_
  refine Oa1 rfl rfl ?_
  refine Ops.nil ?_
  refine Ends.goes ?_
  refine Goes.back (hK (i + 1, false) ⟨by dsimp only; omega, by first | exact leafS0 hea heb hz5 (by assumption) | exact leafS1 hea heb hz5 (by assumption)⟩ (by dsimp only; omega)) ⟨rfl, rfl, rfl, rfl, trivial⟩
 obtain rfl : i = A.t.length := by omega
 rw [List.take_length, q5, List.take_length] at hz5
 refine Wp.exit ?_
 refine Ends.then_exit ?_
 refine Ends.then_exit ?_
 refine Ends.block_hit ?_
 refine Ends.seq ?_
 refine Wp.seq ?_
 refine Wr ?_
 refine Oa1 rfl rfl ?_
 refine On ?_
 refine Wp.block ?_
 refine Wp.loopK (σ := Nat × Bool) [(2, _), (3, _)] (fun s => [(5, .bool s.2), (11, .int .i64 s.1)]) (fun s => (b2, .cells [.slice t1 B.o.length d1, .slice t2 B.p.length d2, .slice t3 B.m.length d3, .slice t4 B.f.length d4, .slice t5 B.t.length d5, .slice t6 B.w.length d6, .slice t7 B.s.length d7].toArray 40) :: ((b1, .cells [.slice s1 A.o.length c1, .slice s2 A.p.length c2, .slice s3 A.m.length c3, .slice s4 A.f.length c4, .slice s5 A.t.length c5, .slice s6 A.w.length c6, .slice s7 A.s.length c7].toArray 40) :: (H1 ++ (H2 ++ (H3 ++ (H4 ++ (H5 ++ (H6 ++ (H7 ++ (K1 ++ (K2 ++ (K3 ++ (K4 ++ (K5 ++ (K6 ++ (K7 ++ F)))))))))))))))) (fun s => s.1 ≤ A.w.length ∧ (s.2 = true ↔ ((((((True) ∧ A.o = B.o) ∧ A.p = B.p) ∧ A.m = B.m) ∧ A.f = B.f) ∧ A.t = B.t) ∧ A.w.take s.1 = B.w.take s.1)) (fun s => A.w.length - s.1) (0, z5) ⟨Nat.zero_le _, by rw [hz5]; simp⟩ ⟨rfl, rfl, trivial⟩ ⟨rfl, rfl, trivial⟩ (by intro w ho; (try dsimp only [List.nil_append, List.cons_append]); exact Drop.own ho) ?_
 rintro ⟨i, z6⟩ KK ⟨hi, hz6⟩ hK
 dsimp only [List.cons_append, List.nil_append] at hK ⊢
 dsimp only at hi hz6 ⊢
 refine Wp.seq ?_
 refine Wr ?_
 refine Om1 rfl rfl ?_
 refine Of1 rfl rfl rfl ?_
 refine Ol1 rfl rfl rfl rfl ?_
 refine Ops.pv (pv_len_slice (T := 37) rfl rfl) rfl ?_
 refine Ops.pv (pv_lss rfl rfl) rfl ?_
 refine On ?_
 refine Wp.cond_dect rfl (fun h12 => ?_) (fun h12 => ?_)
 ·
  obtain ⟨ea, hea⟩ : ∃ e, A.w[i]? = some e := ⟨_, List.getElem?_eq_getElem (by omega)⟩
  obtain ⟨eb9, heb⟩ : ∃ e, B.w[i]? = some e := ⟨_, List.getElem?_eq_getElem (by omega)⟩
  obtain ⟨ab, ao, ac, acap, hva, rfl, hxa, _⟩ := slc_el hs.w hea (by decide)
  cases hva
  obtain ⟨bb, bo, bc, bcap, hvb, rfl, hxb, _⟩ := slc_el ht.w heb (by decide)
  cases hvb
  refine Wp.skip ?_
  refine Ends.seq ?_
  refine Wp.seq ?_
  refine Wp.block ?_
  refine AnyH.start ([(b1, .cells [.slice s1 A.o.length c1, .slice s2 A.p.length c2, .slice s3 A.m.length c3, .slice s4 A.f.length c4, .slice s5 A.t.length c5, .slice (some ⟨ab, ao, none⟩) A.w.length c6, .slice s7 A.s.length c7].toArray 40), (b2, .cells [.slice t1 B.o.length d1, .slice t2 B.p.length d2, .slice t3 B.m.length d3, .slice t4 B.f.length d4, .slice t5 B.t.length d5, .slice (some ⟨bb, bo, none⟩) B.w.length d6, .slice t7 B.s.length d7].toArray 40), (ab, .cells ac.toArray 74), (bb, .cells bc.toArray 74)] : Hp) 15 rfl ?_
  refine Tk 0 rfl rfl (pv_move rfl) rfl ?_
  refine Tk 1 rfl rfl (pv_move rfl) rfl ?_
  refine AnyH.splitb (t := 187) rfl (fun h13 => ?_) (fun h13 => ?_)
  ·
   refine Tk 2 rfl ⟨_, _, rfl, rfl, rfl⟩ (pv_fieldAddr0 rfl rfl) rfl ?_
   refine Tk 3 rfl ⟨_, _, rfl, rfl, rfl⟩ (pv_load rfl rfl rfl) rfl ?_
   refine Tk 4 rfl ⟨_, _, rfl, rfl, rfl⟩ (pv_move rfl) rfl ?_
   refine Tk 5 rfl ⟨_, _, rfl, rfl, rfl⟩ (pv_indexAddr (i := i) rfl rfl rfl (by omega)) rfl ?_
   refine Tk 6 rfl ⟨_, _, rfl, rfl, rfl⟩ (pv_loadK (cE fsW ea) rfl rfl (by rw [cE, cellsE_len _ _ ea.len]; rfl) hxa.reads) rfl ?_
   refine Tk 7 rfl ⟨_, _, rfl, rfl, rfl⟩ (pv_fieldAddr0 rfl rfl) rfl ?_
   refine Tk 8 rfl ⟨_, _, rfl, rfl, rfl⟩ (pv_load rfl rfl rfl) rfl ?_
   refine Tk 9 rfl ⟨_, _, rfl, rfl, rfl⟩ (pv_move rfl) rfl ?_
   refine Tk 10 rfl ⟨_, _, rfl, rfl, rfl⟩ (pv_indexAddr (i := i) rfl rfl rfl (by omega)) rfl ?_
   refine Tk 11 rfl ⟨_, _, rfl, rfl, rfl⟩ (pv_loadK (cE fsW eb9) rfl rfl (by rw [cE, cellsE_len _ _ eb9.len]; rfl) hxb.reads) rfl ?_
   refine Tk 12 rfl ⟨_, _, rfl, rfl, rfl⟩ (pv_eql_of rfl rfl (fun w => eq_w ea eb9 w) (by kernel_rfl)) rfl ?_
   refine Tk 13 rfl rfl (pv_pick_true rfl rfl) rfl ?_
   refine Tk 14 rfl rfl (pv_assign rfl) rfl ?_
   refine AnyH.done (by kernel_rfl) ?_
   refine Ends.block_normal ?_
   refine Ends.seq ?_
   refine Wp.region ?_
   refine Om1 rfl rfl ?_
   refine Ops.pv (pv_add rfl rfl (w64n (k := i + 1) (by omega) (by omega))) rfl ?_
   refine Oa1 rfl rfl ?_
   refine Ops.nil ?_
   refine Ends.goes ?_
   refine Goes.back (hK (i + 1, decide (ea.val = eb9.val)) ⟨by dsimp only; omega, by first | exact leafS0 hea heb hz6 (by assumption) | exact leafS1 hea heb hz6 (by assumption)⟩ (by dsimp only; omega)) ⟨rfl, rfl, rfl, rfl, trivial⟩
  refine Ts 2 rfl ⟨_, _, rfl, rfl, rfl⟩ rfl ?_
  refine Ts 3 rfl ⟨_, _, rfl, rfl, rfl⟩ rfl ?_
  refine Ts 4 rfl ⟨_, _, rfl, rfl, rfl⟩ rfl ?_
  refine Ts 5 rfl ⟨_, _, rfl, rfl, rfl⟩ rfl ?_
  refine Ts 6 rfl ⟨_, _, rfl, rfl, rfl⟩ rfl ?_
  refine Ts 7 rfl ⟨_, _, rfl, rfl, rfl⟩ rfl ?_
  refine Ts 8 rfl ⟨_, _, rfl, rfl, rfl⟩ rfl ?_
  refine Ts 9 rfl ⟨_, _, rfl, rfl, rfl⟩ rfl ?_
  refine Ts 10 rfl ⟨_, _, rfl, rfl, rfl⟩ rfl ?_
  refine Ts 11 rfl ⟨_, _, rfl, rfl, rfl⟩ rfl ?_
  refine Ts 12 rfl ⟨_, _, rfl, rfl, rfl⟩ rfl ?_
  refine Tk 13 rfl rfl (pv_pick_false rfl rfl) rfl ?_
  refine Tk 14 rfl rfl (pv_assign rfl) rfl ?_
  refine AnyH.done (by kernel_rfl) ?_
  refine Ends.block_normal ?_
  refine Ends.seq ?_
  refine Wp.region ?_
  refine Om1 rfl rfl ?_
  refine Ops.pv (pv_add rfl rfl (w64n (k := i + 1) (by omega) (by omega))) rfl ?_
  refine Oa1 rfl rfl ?_
  refine Ops.nil ?_
  refine Ends.goes ?_
  refine Goes.back (hK (i + 1, false) ⟨by dsimp only; omega, by first | exact leafS0 hea heb hz6 (by assumption) | exact leafS1 hea heb hz6 (by assumption)⟩ (by dsimp only; omega)) ⟨rfl, rfl, rfl, rfl, trivial⟩
 obtain rfl : i = A.w.length := by omega
 rw [List.take_length, q6, List.take_length] at hz6
 refine Wp.exit ?_
 refine Ends.then_exit ?_
 refine Ends.then_exit ?_
 refine Ends.block_hit ?_
 refine Ends.seq ?_
 refine Wp.seq ?_
 refine Wr ?_
 refine Oa1 rfl rfl ?_
 refine On ?_
 refine Wp.block ?_
 refine Wp.loopK (σ := Nat × Bool) [(2, _), (3, _)] (fun s => [(5, .bool s.2), (12, .int .i64 s.1)]) (fun s => (b2, .cells [.slice t1 B.o.length d1, .slice t2 B.p.length d2, .slice t3 B.m.length d3, .slice t4 B.f.length d4, .slice t5 B.t.length d5, .slice t6 B.w.length d6, .slice t7 B.s.length d7].toArray 40) :: ((b1, .cells [.slice s1 A.o.length c1, .slice s2 A.p.length c2, .slice s3 A.m.length c3, .slice s4 A.f.length c4, .slice s5 A.t.length c5, .slice s6 A.w.length c6, .slice s7 A.s.length c7].toArray 40) :: (H1 ++ (H2 ++ (H3 ++ (H4 ++ (H5 ++ (H6 ++ (H7 ++ (K1 ++ (K2 ++ (K3 ++ (K4 ++ (K5 ++ (K6 ++ (K7 ++ F)))))))))))))))) (fun s => s.1 ≤ A.s.length ∧ (s.2 = true ↔ (((((((True) ∧ A.o = B.o) ∧ A.p = B.p) ∧ A.m = B.m) ∧ A.f = B.f) ∧ A.t = B.t) ∧ A.w = B.w) ∧ A.s.take s.1 = B.s.take s.1)) (fun s => A.s.length - s.1) (0, z6) ⟨Nat.zero_le _, by rw [hz6]; simp⟩ ⟨rfl, rfl, trivial⟩ ⟨rfl, rfl, trivial⟩ (by intro w ho; (try dsimp only [List.nil_append, List.cons_append]); exact Drop.own ho) ?_
 rintro ⟨i, z7⟩ KK ⟨hi, hz7⟩ hK
 dsimp only [List.cons_append, List.nil_append] at hK ⊢
 dsimp only at hi hz7 ⊢
 refine Wp.seq ?_
 refine Wr ?_
 refine Om1 rfl rfl ?_
 refine Of1 rfl rfl rfl ?_
 refine Ol1 rfl rfl rfl rfl ?_
 refine Ops.pv (pv_len_slice (T := 38) rfl rfl) rfl ?_
 refine Ops.pv (pv_lss rfl rfl) rfl ?_
 refine On ?_
 refine Wp.cond_dect rfl (fun h14 => ?_) (fun h14 => ?_)
 ·
  obtain ⟨ea, hea⟩ : ∃ e, A.s[i]? = some e := ⟨_, List.getElem?_eq_getElem (by omega)⟩
  obtain ⟨eb9, heb⟩ : ∃ e, B.s[i]? = some e := ⟨_, List.getElem?_eq_getElem (by omega)⟩
  obtain ⟨ab, ao, ac, acap, hva, rfl, hxa, _⟩ := slc_el hs.s hea (by decide)
  cases hva
  obtain ⟨bb, bo, bc, bcap, hvb, rfl, hxb, _⟩ := slc_el ht.s heb (by decide)
  cases hvb
  refine Wp.skip ?_
  refine Ends.seq ?_
  refine Wp.seq ?_
  refine Wp.block ?_
  refine AnyH.start ([(b1, .cells [.slice s1 A.o.length c1, .slice s2 A.p.length c2, .slice s3 A.m.length c3, .slice s4 A.f.length c4, .slice s5 A.t.length c5, .slice s6 A.w.length c6, .slice (some ⟨ab, ao, none⟩) A.s.length c7].toArray 40), (b2, .cells [.slice t1 B.o.length d1, .slice t2 B.p.length d2, .slice t3 B.m.length d3, .slice t4 B.f.length d4, .slice t5 B.t.length d5, .slice t6 B.w.length d6, .slice (some ⟨bb, bo, none⟩) B.s.length d7].toArray 40), (ab, .cells ac.toArray 77), (bb, .cells bc.toArray 77)] : Hp) 15 rfl ?_
  refine Tk 0 rfl rfl (pv_move rfl) rfl ?_
  refine Tk 1 rfl rfl (pv_move rfl) rfl ?_
  refine AnyH.splitb (t := 208) rfl (fun h15 => ?_) (fun h15 => ?_)
  ·
   refine Tk 2 rfl ⟨_, _, rfl, rfl, rfl⟩ (pv_fieldAddr0 rfl rfl) rfl ?_
   refine Tk 3 rfl ⟨_, _, rfl, rfl, rfl⟩ (pv_load rfl rfl rfl) rfl ?_
   refine Tk 4 rfl ⟨_, _, rfl, rfl, rfl⟩ (pv_move rfl) rfl ?_
   refine Tk 5 rfl ⟨_, _, rfl, rfl, rfl⟩ (pv_indexAddr (i := i) rfl rfl rfl (by omega)) rfl ?_
   refine Tk 6 rfl ⟨_, _, rfl, rfl, rfl⟩ (pv_loadK (cE fsS ea) rfl rfl (by rw [cE, cellsE_len _ _ ea.len]; rfl) hxa.reads) rfl ?_
   refine Tk 7 rfl ⟨_, _, rfl, rfl, rfl⟩ (pv_fieldAddr0 rfl rfl) rfl ?_
   refine Tk 8 rfl ⟨_, _, rfl, rfl, rfl⟩ (pv_load rfl rfl rfl) rfl ?_
   refine Tk 9 rfl ⟨_, _, rfl, rfl, rfl⟩ (pv_move rfl) rfl ?_
   refine Tk 10 rfl ⟨_, _, rfl, rfl, rfl⟩ (pv_indexAddr (i := i) rfl rfl rfl (by omega)) rfl ?_
   refine Tk 11 rfl ⟨_, _, rfl, rfl, rfl⟩ (pv_loadK (cE fsS eb9) rfl rfl (by rw [cE, cellsE_len _ _ eb9.len]; rfl) hxb.reads) rfl ?_
   refine Tk 12 rfl ⟨_, _, rfl, rfl, rfl⟩ (pv_eql_of rfl rfl (fun w => eq_s ea eb9 w) (by kernel_rfl)) rfl ?_
   refine Tk 13 rfl rfl (pv_pick_true rfl rfl) rfl ?_
   refine Tk 14 rfl rfl (pv_assign rfl) rfl ?_
   refine AnyH.done (by kernel_rfl) ?_
   refine Ends.block_normal ?_
   refine Ends.seq ?_
   refine Wp.region ?_
   refine Om1 rfl rfl ?_
   refine Ops.pv (pv_add rfl rfl (w64n (k := i + 1) (by omega) (by omega))) rfl ?_
   refine Oa1 rfl rfl ?_
   refine Ops.nil ?_
   refine Ends.goes ?_
   refine Goes.back (hK (i + 1, decide (ea.val = eb9.val)) ⟨by dsimp only; omega, by first | exact leafS0 hea heb hz7 (by assumption) | exact leafS1 hea heb hz7 (by assumption)⟩ (by dsimp only; omega)) ⟨rfl, rfl, rfl, rfl, trivial⟩
  refine Ts 2 rfl ⟨_, _, rfl, rfl, rfl⟩ rfl ?_
  refine Ts 3 rfl ⟨_, _, rfl, rfl, rfl⟩ rfl ?_
  refine Ts 4 rfl ⟨_, _, rfl, rfl, rfl⟩ rfl ?_
  refine Ts 5 rfl ⟨_, _, rfl, rfl, rfl⟩ rfl ?_
  refine Ts 6 rfl ⟨_, _, rfl, rfl, rfl⟩ rfl ?_
  refine Ts 7 rfl ⟨_, _, rfl, rfl, rfl⟩ rfl ?_
  refine Ts 8 rfl ⟨_, _, rfl, rfl, rfl⟩ rfl ?_
  refine Ts 9 rfl ⟨_, _, rfl, rfl, rfl⟩ rfl ?_
  refine Ts 10 rfl ⟨_, _, rfl, rfl, rfl⟩ rfl ?_
  refine Ts 11 rfl ⟨_, _, rfl, rfl, rfl⟩ rfl ?_
  refine Ts 12 rfl ⟨_, _, rfl, rfl, rfl⟩ rfl ?_
  refine Tk 13 rfl rfl (pv_pick_false rfl rfl) rfl ?_
  refine Tk 14 rfl rfl (pv_assign rfl) rfl ?_
  refine AnyH.done (by kernel_rfl) ?_
  refine Ends.block_normal ?_
  refine Ends.seq ?_
  refine Wp.region ?_
  refine Om1 rfl rfl ?_
  refine Ops.pv (pv_add rfl rfl (w64n (k := i + 1) (by omega) (by omega))) rfl ?_
  refine Oa1 rfl rfl ?_
  refine Ops.nil ?_
  refine Ends.goes ?_
  refine Goes.back (hK (i + 1, false) ⟨by dsimp only; omega, by first | exact leafS0 hea heb hz7 (by assumption) | exact leafS1 hea heb hz7 (by assumption)⟩ (by dsimp only; omega)) ⟨rfl, rfl, rfl, rfl, trivial⟩
 obtain rfl : i = A.s.length := by omega
 rw [List.take_length, q7, List.take_length] at hz7
 refine Wp.exit ?_
 refine Ends.then_exit ?_
 refine Ends.then_exit ?_
 refine Ends.block_hit ?_
 refine Ends.seq ?_
 refine Wr ?_
 refine Om1 rfl rfl ?_
 refine Oa1 rfl rfl ?_
 refine On ?_
 refine Wp.ret ?_
 have hd : decide (A = B) = z7 := by
  rw [Bool.eq_iff_iff, decide_eq_true_eq, hz7]
  constructor
  ·
   rintro rfl; simp
  ·
   rintro ⟨⟨⟨⟨⟨⟨⟨_, q1⟩, q2⟩, q3⟩, q4⟩, q5⟩, q6⟩, q7⟩
   cases A; cases B
   simp_all
 rw [hd]
 exact Ends.ret (res1 rfl rfl) ⟨rfl, rfl⟩
end Go.Proofs.Ytkldjadpoknejaa
end
section
set_option linter.unusedVariables false
set_option linter.unusedSimpArgs false
set_option linter.unusedSectionVars false
namespace Go.Proofs.Ytkldjadpoknejaa
open Go.SL
theorem lwS_bad {w : Nat} {st : St} (h : st.1 = true) : (lwS w st).1 = true := by unfold lwS; rw [if_pos (.inl h)]
theorem lnF_bad {f : Fld} {st : St} (h : st.1 = true) : (lnF f st).2.1 = true := by
 cases f <;> simp only [lnF]
 case flg => rw [decide_eq_true_eq]; exact .inl (lwS_bad h)
 all_goals exact lwS_bad h
theorem lnE_bad : ∀ {fs : List Fld} {st : St}, st.1 = true → (lnE fs st).2.1 = true
  | [], _, h => h
  | f :: fs, st, h => lnE_bad (fs := fs) (lnF_bad h)
theorem lw_ok {w : Nat} {s : List UInt8} (h : ¬ s.length < w) : lwV w (false, s) = leV (s.take w) ∧ lwS w (false, s) = (false, s.drop w) := by
 unfold lwV lwS
 rw [if_neg (by simp [h]), if_neg (by simp [h])]
 exact ⟨rfl, rfl⟩
theorem lw_no {w : Nat} {s : List UInt8} (h : s.length < w) : lwV w (false, s) = 0 ∧ lwS w (false, s) = (true, s) := by
 unfold lwV lwS
 rw [if_pos (.inr h), if_pos (.inr h)]
 exact ⟨rfl, rfl⟩
theorem rdF_ln {f : Fld} {s s' : List UInt8} {v : Int} (h : rdF f s = some (v, s')) : lnF f (false, s) = (v, (false, s')) ∧ f.ok v := by
 unfold rdF at h
 split at h
 ·
  cases h
 ·
  rename_i hl
  obtain ⟨e1, e2⟩ := lw_ok hl
  have hlt := leVt (s := s) (w := f.wid)
  cases f <;> simp only [Fld.dec, Fld.wid, Fld.ok, lnF] at h e1 e2 hlt ⊢
  case lab =>
   by_cases hc : leV (s.take 2) < 8
   ·
    simp only [hc, if_true, Option.map_some, Option.some.injEq, Prod.mk.injEq] at h
    obtain ⟨rfl, rfl⟩ := h
    rw [e1, e2]
    exact ⟨rfl, by omega⟩
   ·
    simp [hc] at h
  case flg =>
   by_cases hc : leV (s.take 1) < 2
   ·
    simp only [hc, if_true, Option.map_some, Option.some.injEq, Prod.mk.injEq] at h
    obtain ⟨rfl, rfl⟩ := h
    rw [e1, e2]
    have hz : leV (s.take 1) = 0 ∨ leV (s.take 1) = 1 := by omega
    rcases hz with hz | hz <;> simp [hz]
   ·
    simp [hc] at h
  all_goals
   simp only [Option.map_some, Option.some.injEq, Prod.mk.injEq] at h
   obtain ⟨rfl, rfl⟩ := h
   rw [e1, e2]
   refine ⟨rfl, ?_⟩
   first | trivial | omega
theorem rdF_no {f : Fld} {s : List UInt8} (h : rdF f s = none) : (lnF f (false, s)).2.1 = true ∨ ¬ f.ok (lnF f (false, s)).1 := by
 unfold rdF at h
 split at h
 ·
  rename_i hl
  obtain ⟨e1, e2⟩ := lw_no hl
  left
  cases f <;> simp only [Fld.wid, lnF] at e1 e2 ⊢ <;> simp [e1, e2]
 ·
  rename_i hl
  obtain ⟨e1, e2⟩ := lw_ok hl
  cases f <;> simp only [Fld.dec, Fld.wid, Fld.ok, lnF] at h e1 e2 ⊢
  case lab =>
   by_cases hc : leV (s.take 2) < 8
   ·
    simp [hc] at h
   ·
    right; rw [e1]; omega
  case flg =>
   by_cases hc : leV (s.take 1) < 2
   ·
    simp [hc] at h
   ·
    left; rw [e1, e2]; simp; omega
  all_goals simp at h
theorem rdE_ln : ∀ {fs : List Fld} {s s' : List UInt8} {e : List Int}, rdE fs s = some (e, s') → lnE fs (false, s) = (e, (false, s')) ∧ okE fs e
  | [], s, s', e, h => by cases h; exact ⟨rfl, trivial⟩
  | f :: fs, s, s', e, h => by
    rw [rdE] at h
    split at h
    · cases h
    · rename_i v s1 h1
      split at h
      · cases h
      · rename_i e2 s3 h2
        cases h
        obtain ⟨a1, a2⟩ := rdF_ln h1
        obtain ⟨b1, b2⟩ := rdE_ln h2
        rw [lnE, a1]
        dsimp only
        rw [b1]
        exact ⟨rfl, a2, b2⟩
theorem rdE_no : ∀ {fs : List Fld} {s : List UInt8}, rdE fs s = none → (lnE fs (false, s)).2.1 = true ∨ ¬ okE fs (lnE fs (false, s)).1
  | [], s, h => by cases h
  | f :: fs, s, h => by
    rw [rdE] at h
    rw [lnE]
    split at h
    · rename_i h1
      rcases rdF_no h1 with h2 | h2
      · exact .inl (lnE_bad h2)
      · exact .inr fun h3 => h2 h3.1
    · rename_i v s1 h1
      obtain ⟨a1, a2⟩ := rdF_ln h1
      rw [a1]
      dsimp only
      split at h
      · rename_i h2
        rcases rdE_no h2 with h3 | h3
        · exact .inl h3
        · exact .inr fun h4 => h3 h4.2
      · cases h
theorem lnEl_mk {fs : List Fld} {s s' : List UInt8} {e : List Int} (h : rdE fs s = some (e, s')) : lnEl fs (false, s) = mkEl fs e := by
 have h1 : (lnEl fs (false, s)).val = e := by show (lnE fs (false, s)).1 = e; rw [(rdE_ln h).1]
 have h2 := rdE_el h
 cases hm : mkEl fs e
 cases hn : lnEl fs (false, s)
 rw [hm] at h2
 rw [hn] at h1
 cases h1; cases h2; rfl
theorem rdI_cons {fs : List Fld} : ∀ {n : Nat} {s : List UInt8}, rdI fs (n + 1) s = match rdE fs s with
    | none => none
    | some (e, s1) => match rdI fs n s1 with
      | none => none
      | some (l, r) => some (mkEl fs e :: l, r)
  | 0, s => by
    rw [rdI, rdI]
    dsimp only
    cases rdE fs s with
    | none => rfl
    | some x => obtain ⟨e, s1⟩ := x; dsimp only; rw [rdI]; rfl
  | n + 1, s => by
    rw [rdI, rdI_cons (n := n) (s := s)]
    cases rdE fs s with
    | none => rfl
    | some x =>
      obtain ⟨e, s1⟩ := x
      dsimp only
      rw [rdI]
      cases rdI fs n s1 with
      | none => rfl
      | some y =>
        obtain ⟨l, r⟩ := y
        dsimp only
        cases rdE fs r with
        | none => rfl
        | some z => obtain ⟨e2, r2⟩ := z; rfl
theorem rdI_ln {fs : List Fld} : ∀ {n : Nat} {s r : List UInt8} {l acc : List (El fs)}, rdI fs n s = some (l, r) → lnI fs n (false, s) acc = (acc ++ l, (false, r)) ∧ ∀ e, e ∈ l → okE fs e.val
  | 0, s, r, l, acc, h => by cases h; exact ⟨by rw [lnI, List.append_nil], fun e h => by cases h⟩
  | n + 1, s, r, l, acc, h => by
    rw [rdI_cons] at h
    cases he : rdE fs s with
    | none => rw [he] at h; cases h
    | some x =>
      obtain ⟨e, s1⟩ := x
      rw [he] at h
      dsimp only at h
      cases hi : rdI fs n s1 with
      | none => rw [hi] at h; cases h
      | some y =>
        obtain ⟨l2, r2⟩ := y
        rw [hi] at h
        cases h
        obtain ⟨a1, a2⟩ := rdE_ln he
        obtain ⟨b1, b2⟩ := rdI_ln (acc := acc ++ [mkEl fs e]) hi
        rw [lnI_step (by simp), lnEl_mk he, a1, b1, List.append_assoc]
        refine ⟨rfl, fun x hx => ?_⟩
        rcases List.mem_cons.1 hx with rfl | hx
        · rw [rdE_el he]; exact a2
        · exact b2 x hx
theorem lnI_acc {fs : List Fld} : ∀ {n : Nat} {st : St} {acc : List (El fs)}, ∃ l, (lnI fs n st acc).1 = acc ++ l
  | 0, st, acc => ⟨[], by rw [lnI, List.append_nil]⟩
  | n + 1, st, acc => by
    by_cases h : st.1 = true
    · rw [lnI, if_pos h]; exact ⟨[], by rw [List.append_nil]⟩
    · rw [lnI_step h]
      obtain ⟨l, hl⟩ := lnI_acc (n := n) (st := (lnE fs st).2) (acc := acc ++ [lnEl fs st])
      exact ⟨[lnEl fs st] ++ l, by rw [hl, List.append_assoc]⟩
theorem lnI_len {fs : List Fld} : ∀ {n : Nat} {st : St} {acc : List (El fs)}, (lnI fs n st acc).2.1 = false → (lnI fs n st acc).1.length = acc.length + n
  | 0, st, acc, _ => by rw [lnI]; rfl
  | n + 1, st, acc, h => by
    by_cases hb : st.1 = true
    · rw [lnI, if_pos hb] at h; rw [hb] at h; cases h
    · rw [lnI_step hb] at h ⊢
      rw [lnI_len h, List.length_append, List.length_singleton]; omega
theorem rdI_no {fs : List Fld} : ∀ {n : Nat} {s : List UInt8} {acc : List (El fs)}, rdI fs n s = none → (lnI fs n (false, s) acc).2.1 = true ∨ ¬ ∀ e, e ∈ (lnI fs n (false, s) acc).1 → okE fs e.val
  | 0, s, acc, h => by cases h
  | n + 1, s, acc, h => by
    rw [rdI_cons] at h
    rw [lnI_step (by simp)]
    cases he : rdE fs s with
    | none =>
      rcases rdE_no he with h1 | h1
      · left; rw [lnI_stop (.inr h1)]; exact h1
      · right
        intro h2
        obtain ⟨l, hl⟩ := lnI_acc (n := n) (st := (lnE fs (false, s)).2) (acc := acc ++ [lnEl fs (false, s)])
        refine h1 (h2 (lnEl fs (false, s)) ?_)
        rw [hl]; simp
    | some x =>
      obtain ⟨e, s1⟩ := x
      rw [he] at h
      dsimp only at h
      rw [(rdE_ln he).1]
      cases hi : rdI fs n s1 with
      | none => exact rdI_no hi
      | some y => obtain ⟨l2, r2⟩ := y; rw [hi] at h; cases h
theorem rdL_ln {fs : List Fld} {m : Nat} {s r : List UInt8} {l : List (El fs)} (h : rdL fs m s = some (l, r)) : lnL fs (false, s) = (l, (false, r)) ∧ okL fs m l := by
 have hm := (rdL_len h).1
 unfold rdL at h
 split at h
 ·
  cases h
 ·
  rename_i h0
  split at h
  ·
   cases h
  ·
   obtain ⟨e1, e2⟩ := lw_ok h0
   obtain ⟨a, b⟩ := rdI_ln (acc := []) h
   unfold lnL
   rw [e1, e2, a]
   exact ⟨rfl, hm, b⟩
theorem rdL_no {fs : List Fld} {m : Nat} {s : List UInt8} (h : rdL fs m s = none) : (lnL fs (false, s)).2.1 = true ∨ ¬ okL fs m (lnL fs (false, s)).1 := by
 unfold rdL at h
 unfold lnL
 split at h
 ·
  rename_i h0
  obtain ⟨e1, e2⟩ := lw_no h0
  rw [e1, e2]
  exact .inl rfl
 ·
  rename_i h0
  obtain ⟨e1, e2⟩ := lw_ok h0
  rw [e1, e2]
  split at h
  ·
   rename_i h1
   cases hb : (lnI fs (leV (s.take 2)) (false, s.drop 2) []).2.1 with
   | true => exact .inl rfl
   | false =>
    right
    intro h2
    have := lnI_len hb
    have h3 := h2.1
    rw [this, List.length_nil] at h3
    omega
  ·
   rcases rdI_no (acc := []) h with h1 | h1
   ·
    exact .inl h1
   ·
    exact .inr fun h2 => h1 h2.2
theorem lnL_bad {fs : List Fld} {st : St} (h : st.1 = true) : (lnL fs st).2.1 = true := by
 unfold lnL
 rw [lnI_stop (.inr (lwS_bad h))]
 exact lwS_bad h
theorem rdD_ln {s r : List UInt8} {D : Dd} (h : rdD s = some (D, r)) : lnD (false, s) = (D, (false, r)) ∧ okD D := by
 unfold rdD at h
 cases h1 : rdL fsO 64 s with
 | none => rw [h1] at h; cases h
 | some x =>
 obtain ⟨o, s1⟩ := x
 rw [h1] at h; dsimp only at h
 cases h2 : rdL fsP 256 s1 with
 | none => rw [h2] at h; cases h
 | some x =>
 obtain ⟨p, s2⟩ := x
 rw [h2] at h; dsimp only at h
 cases h3 : rdL fsM 64 s2 with
 | none => rw [h3] at h; cases h
 | some x =>
 obtain ⟨m, s3⟩ := x
 rw [h3] at h; dsimp only at h
 cases h4 : rdL fsF 512 s3 with
 | none => rw [h4] at h; cases h
 | some x =>
 obtain ⟨f, s4⟩ := x
 rw [h4] at h; dsimp only at h
 cases h5 : rdL fsT 64 s4 with
 | none => rw [h5] at h; cases h
 | some x =>
 obtain ⟨t, s5⟩ := x
 rw [h5] at h; dsimp only at h
 cases h6 : rdL fsW 8 s5 with
 | none => rw [h6] at h; cases h
 | some x =>
 obtain ⟨w, s6⟩ := x
 rw [h6] at h; dsimp only at h
 cases h7 : rdL fsS 16 s6 with
 | none => rw [h7] at h; cases h
 | some x =>
 obtain ⟨u, s7⟩ := x
 rw [h7] at h
 cases h
 unfold lnD
 dsimp only
 rw [(rdL_ln h1).1]; dsimp only
 rw [(rdL_ln h2).1]; dsimp only
 rw [(rdL_ln h3).1]; dsimp only
 rw [(rdL_ln h4).1]; dsimp only
 rw [(rdL_ln h5).1]; dsimp only
 rw [(rdL_ln h6).1]; dsimp only
 rw [(rdL_ln h7).1]
 exact ⟨rfl, (rdL_ln h1).2, (rdL_ln h2).2, (rdL_ln h3).2, (rdL_ln h4).2, (rdL_ln h5).2, (rdL_ln h6).2, (rdL_ln h7).2⟩
theorem rdD_no {s : List UInt8} (h : rdD s = none) : (lnD (false, s)).2.1 = true ∨ ¬ okD (lnD (false, s)).1 := by
 unfold rdD at h
 unfold lnD
 dsimp only
 cases h1 : rdL fsO 64 s with
 | none =>
  rcases rdL_no h1 with q | q
  ·
   exact .inl (lnL_bad (lnL_bad (lnL_bad (lnL_bad (lnL_bad (lnL_bad q))))))
  ·
   exact .inr fun k => q k.1
 | some x =>
 obtain ⟨o, s1⟩ := x
 rw [h1] at h; dsimp only at h
 rw [(rdL_ln h1).1]; dsimp only
 cases h2 : rdL fsP 256 s1 with
 | none =>
  rcases rdL_no h2 with q | q
  ·
   exact .inl (lnL_bad (lnL_bad (lnL_bad (lnL_bad (lnL_bad q)))))
  ·
   exact .inr fun k => q k.2.1
 | some x =>
 obtain ⟨p, s2⟩ := x
 rw [h2] at h; dsimp only at h
 rw [(rdL_ln h2).1]; dsimp only
 cases h3 : rdL fsM 64 s2 with
 | none =>
  rcases rdL_no h3 with q | q
  ·
   exact .inl (lnL_bad (lnL_bad (lnL_bad (lnL_bad q))))
  ·
   exact .inr fun k => q k.2.2.1
 | some x =>
 obtain ⟨m, s3⟩ := x
 rw [h3] at h; dsimp only at h
 rw [(rdL_ln h3).1]; dsimp only
 cases h4 : rdL fsF 512 s3 with
 | none =>
  rcases rdL_no h4 with q | q
  ·
   exact .inl (lnL_bad (lnL_bad (lnL_bad q)))
  ·
   exact .inr fun k => q k.2.2.2.1
 | some x =>
 obtain ⟨f, s4⟩ := x
 rw [h4] at h; dsimp only at h
 rw [(rdL_ln h4).1]; dsimp only
 cases h5 : rdL fsT 64 s4 with
 | none =>
  rcases rdL_no h5 with q | q
  ·
   exact .inl (lnL_bad (lnL_bad q))
  ·
   exact .inr fun k => q k.2.2.2.2.1
 | some x =>
 obtain ⟨t, s5⟩ := x
 rw [h5] at h; dsimp only at h
 rw [(rdL_ln h5).1]; dsimp only
 cases h6 : rdL fsW 8 s5 with
 | none =>
  rcases rdL_no h6 with q | q
  ·
   exact .inl (lnL_bad q)
  ·
   exact .inr fun k => q k.2.2.2.2.2.1
 | some x =>
 obtain ⟨w, s6⟩ := x
 rw [h6] at h; dsimp only at h
 rw [(rdL_ln h6).1]; dsimp only
 cases h7 : rdL fsS 16 s6 with
 | none =>
  rcases rdL_no h7 with q | q
  ·
   exact .inl q
  ·
   exact .inr fun k => q k.2.2.2.2.2.2
 | some x => obtain ⟨u, s7⟩ := x; rw [h7] at h; cases h
theorem dec_same {s : List UInt8} {D D' : Dd} {e e' : Int} (h : DecP s D e) (h' : DecR s D' e') : D' = D ∧ e' = e := by
 rcases h with ⟨p1, p2, rfl⟩ | ⟨p1, rfl, rfl⟩
 ·
  obtain ⟨a, b⟩ := rdD_ln p2
  rcases h' with ⟨_, q2, q3, rfl, rfl⟩ | ⟨q, _, _⟩
  ·
   rw [a]; exact ⟨rfl, rfl⟩
  ·
   exact absurd ⟨p1, by rw [a], by rw [a]; exact b⟩ q
 ·
  rcases h' with ⟨q1, q2, q3, _, _⟩ | ⟨_, rfl, rfl⟩
  ·
   exfalso
   refine p1 ⟨q1, ?_⟩
   cases hr : rdD (s.drop 2) with
   | none =>
    rcases rdD_no hr with h | h
    ·
     rw [q2] at h; cases h
    ·
     exact absurd q3 h
   | some x =>
    obtain ⟨D2, r⟩ := x
    rw [(rdD_ln hr).1] at q2
    cases q2
    exact ⟨D2, hr⟩
  ·
   exact ⟨rfl, rfl⟩
end Go.Proofs.Ytkldjadpoknejaa
end
section
set_option linter.unusedVariables false
set_option linter.unusedSimpArgs false
set_option linter.unusedSectionVars false
set_option synthInstance.maxHeartbeats 400000
set_option synthInstance.maxSize 4000
namespace Go.Proofs.Ytkldjadpoknejaa
open Go.SL
theorem DecP.len {s : List UInt8} {D : Dd} {e : Int} (h : DecP s D e) : D.o.length ≤ 2 ^ 20 ∧ D.p.length ≤ 2 ^ 20 ∧ D.m.length ≤ 2 ^ 20 ∧ D.f.length ≤ 2 ^ 20 ∧ D.t.length ≤ 2 ^ 20 ∧ D.w.length ≤ 2 ^ 20 ∧ D.s.length ≤ 2 ^ 20 := by
 rcases h with ⟨_, h, _⟩ | ⟨_, rfl, _⟩
 ·
  obtain ⟨_, ⟨h1, _⟩, ⟨h2, _⟩, ⟨h3, _⟩, ⟨h4, _⟩, ⟨h5, _⟩, ⟨h6, _⟩, h7, _⟩ := rdD_ln h
  refine ⟨?_, ?_, ?_, ?_, ?_, ?_, ?_⟩ <;> omega
 refine ⟨?_, ?_, ?_, ?_, ?_, ?_, ?_⟩ <;> exact Nat.zero_le _
open Classical in
theorem tr_same_refl (A : Dd) {v1 v2 v3 v4 v5 v6 v7 : Value} {H1 H2 H3 H4 H5 H6 H7 : Hp} (hs : DSB A v1 v2 v3 v4 v5 v6 v7 H1 H2 H3 H4 H5 H6 H7) {w1 w2 w3 w4 w5 w6 w7 : Value} {K1 K2 K3 K4 K5 K6 K7 : Hp} (ht : DSB A w1 w2 w3 w4 w5 w6 w7 K1 K2 K3 K4 K5 K6 K7)
    (hl : A.o.length ≤ 2 ^ 20 ∧ A.p.length ≤ 2 ^ 20 ∧ A.m.length ≤ 2 ^ 20 ∧ A.f.length ≤ 2 ^ 20 ∧ A.t.length ≤ 2 ^ 20 ∧ A.w.length ≤ 2 ^ 20 ∧ A.s.length ≤ 2 ^ 20) :
    TrR Try.prog 10 [.agg #[v1, v2, v3, v4, v5, v6, v7], .agg #[w1, w2, w3, w4, w5, w6, w7]] (H1 ++ (H2 ++ (H3 ++ (H4 ++ (H5 ++ (H6 ++ (H7 ++ (K1 ++ (K2 ++ (K3 ++ (K4 ++ (K5 ++ (K6 ++ K7))))))))))))) (.bool true) := by
  have := tr_same A A _ _ _ _ _ _ _ _ _ _ _ _ _ _ hs _ _ _ _ _ _ _ _ _ _ _ _ _ _ ht hl.1 hl.2.1 hl.2.2.1 hl.2.2.2.1 hl.2.2.2.2.1 hl.2.2.2.2.2.1 hl.2.2.2.2.2.2
  rwa [decide_eq_true rfl] at this
theorem tr_decode (s : List UInt8) (hs : s.length ≤ 2 ^ 30) : Tr Try.prog 8 [sV s] ([]) (fun u L' => ∃ (D : Dd) (e : Int) (v1 v2 v3 v4 v5 v6 v7 : Value) (H1 H2 H3 H4 H5 H6 H7 : Hp), DecP s D e ∧ DSB D v1 v2 v3 v4 v5 v6 v7 H1 H2 H3 H4 H5 H6 H7 ∧ u = .tuple #[.agg #[v1, v2, v3, v4, v5, v6, v7], .int .i64 e] ∧ L' = H1 ++ (H2 ++ (H3 ++ (H4 ++ (H5 ++ (H6 ++ H7)))))) := by
 by_cases h : s.take 2 = [67, 68]
 ·
  exact tr_decY s hs h
 exact tr_decN s hs h
set_option maxHeartbeats 16000000 in
theorem tr_bootBytes (G : Hp) (D : Dd) (v1 v2 v3 v4 v5 v6 v7 : Value) (hs : DA G D v1 v2 v3 v4 v5 v6 v7) (s : List UInt8) : TrR Try.prog 3 [.agg #[v1, v2, v3, v4, v5, v6, v7], sV s] (G) (.bool true) := by
 obtain ⟨svo, cvo, rfl⟩ := hs.o.form
 obtain ⟨svp, cvp, rfl⟩ := hs.p.form
 obtain ⟨svm, cvm, rfl⟩ := hs.m.form
 obtain ⟨svf, cvf, rfl⟩ := hs.f.form
 obtain ⟨svt, cvt, rfl⟩ := hs.t.form
 obtain ⟨svw, cvw, rfl⟩ := hs.w.form
 obtain ⟨svs, cvs, rfl⟩ := hs.s.form
 refine Tr.enter Try.func3 rfl Try.ntmps3 rfl (fun W F => ?_)
 refine Wp.app ?_
 refine Wr ?_
 refine Ops.ef rfl (ef_boxK rfl rfl) ?_
 rintro _ _ ⟨b1, rfl, rfl⟩
 refine Oa1 rfl rfl ?_
 refine On ?_
 refine Wp.seq ?_
 refine Wr ?_
 refine Ops.pv (pv_loadK [_, _, _, _, _, _, _] rfl rfl rfl ⟨rfl, rfl, rfl, rfl, rfl, rfl, rfl, trivial⟩) rfl ?_
 refine Ops.ef rfl (ef_callr (tr_great G D _ _ _ _ _ _ _ hs) rfl rfl) ?_
 rintro _ _ ⟨rfl, rfl⟩
 refine Om1 rfl rfl ?_
 refine Ops.pvcn rfl rfl (fun hg => pv_move rfl) rfl ?_
 refine Ops.pvcn rfl rfl (fun hg => Pv.setE (t := 17) rfl (cv_pos hg) (pv_str_len (T := 9) rfl rfl)) rfl ?_
 refine Ops.pvcn rfl rfl (fun hg => Pv.setE (t := 17) rfl (cv_pos hg) (Pv.setE (t := 18) rfl (cv_pos hg) (pv_gtr rfl rfl))) rfl ?_
 refine Ops.pv (pv_pick_or rfl rfl) rfl ?_
 refine On ?_
 refine Wp.cond_dect rfl (fun h1 => ?_) (fun h1 => ?_)
 ·
  refine Wr ?_
  refine Oa1 rfl rfl ?_
  refine On ?_
  refine Wp.ret ?_
  refine Ends.then_ret ?_
  exact Ends.ret (res1 rfl rfl) ⟨rfl, rfl⟩
 have hgr : ¬ greatD D := fun h => h1 (.inl h)
 have hsl : s.length ≤ 20000 := by omega
 have hl : D.o.length ≤ 2 ^ 20 ∧ D.p.length ≤ 2 ^ 20 ∧ D.m.length ≤ 2 ^ 20 ∧ D.f.length ≤ 2 ^ 20 ∧ D.t.length ≤ 2 ^ 20 ∧ D.w.length ≤ 2 ^ 20 ∧ D.s.length ≤ 2 ^ 20 := by
  unfold greatD at hgr
  refine ⟨?_, ?_, ?_, ?_, ?_, ?_, ?_⟩ <;> omega
 refine Wp.skip ?_
 refine Ends.seq ?_
 refine Wr ?_
 refine Ops.pv (pv_loadK [_, _, _, _, _, _, _] rfl rfl rfl ⟨rfl, rfl, rfl, rfl, rfl, rfl, rfl, trivial⟩) rfl ?_
 refine Ops.ef rfl (ef_call (tr_to G D _ _ _ _ _ _ _ hs hl.1 hl.2.1 hl.2.2.1 hl.2.2.2.1 hl.2.2.2.2.1 hl.2.2.2.2.2.1 hl.2.2.2.2.2.2) rfl rfl) ?_
 rintro _ _ ⟨_, _, ⟨wao1, wap1, wam1, waf1, wat1, waw1, was1, Kao1, Kap1, Kam1, Kaf1, Kat1, Kaw1, Kas1, da1, rfl, rfl⟩, rfl, rfl⟩
 refine Ops.app ?_
 obtain ⟨sdao, cdao, rfl⟩ := da1.o.form
 obtain ⟨sdap, cdap, rfl⟩ := da1.p.form
 obtain ⟨sdam, cdam, rfl⟩ := da1.m.form
 obtain ⟨sdaf, cdaf, rfl⟩ := da1.f.form
 obtain ⟨sdat, cdat, rfl⟩ := da1.t.form
 obtain ⟨sdaw, cdaw, rfl⟩ := da1.w.form
 obtain ⟨sdas, cdas, rfl⟩ := da1.s.form
 refine Ops.ef rfl (ef_allocK tyZ40 rfl) ?_
 rintro _ _ ⟨b2, rfl, rfl⟩
 refine Ops.ef rfl (ef_storeK rfl rfl rfl rfl) ?_
 rintro _ _ ⟨rfl, rfl⟩
 refine On ?_
 refine Wr ?_
 refine Ops.pv (pv_loadK [_, _, _, _, _, _, _] rfl rfl rfl ⟨rfl, rfl, rfl, rfl, rfl, rfl, rfl, trivial⟩) rfl ?_
 refine Ops.ef rfl (ef_call (tr_encode D _ _ _ _ _ _ _ _ _ _ _ _ _ _ da1 hl.1 hl.2.1 hl.2.2.1 hl.2.2.2.1 hl.2.2.2.2.1 hl.2.2.2.2.2.1 hl.2.2.2.2.2.2) rfl rfl) ?_
 rintro _ _ ⟨_, _, ⟨rfl, rfl⟩, rfl, rfl⟩
 refine Ops.app ?_
 refine Om1 rfl rfl ?_
 refine Ops.pv (pv_extract rfl rfl) rfl ?_
 refine Ops.pv (pv_extract rfl rfl) rfl ?_
 refine Oa1 rfl rfl ?_
 refine Oa1 rfl rfl ?_
 refine On ?_
 refine Wr ?_
 refine Ops.pv (pv_loadK [_, _, _, _, _, _, _] rfl rfl rfl ⟨rfl, rfl, rfl, rfl, rfl, rfl, rfl, trivial⟩) rfl ?_
 refine Ops.ef rfl (ef_callr (tr_rencode G D _ _ _ _ _ _ _ hs hl.1 hl.2.1 hl.2.2.1 hl.2.2.2.1 hl.2.2.2.2.1 hl.2.2.2.2.2.1 hl.2.2.2.2.2.2) rfl rfl) ?_
 rintro _ _ ⟨rfl, rfl⟩
 refine Om1 rfl rfl ?_
 refine Ops.pv (pv_extract rfl rfl) rfl ?_
 refine Ops.pv (pv_extract rfl rfl) rfl ?_
 refine Oa1 rfl rfl ?_
 refine Oa1 rfl rfl ?_
 refine On ?_
 refine Wr ?_
 refine Om1 rfl rfl ?_
 refine Ops.ef rfl (ef_call (tr_decode s (by omega)) rfl rfl) ?_
 rintro _ _ ⟨_, _, ⟨C1, e1, wco1, wcp1, wcm1, wcf1, wct1, wcw1, wcs1, Kco1, Kcp1, Kcm1, Kcf1, Kct1, Kcw1, Kcs1, hP1, dc1, rfl, rfl⟩, rfl, rfl⟩
 refine Ops.app ?_
 have hc := hP1.len
 obtain ⟨sdco, cdco, rfl⟩ := dc1.o.form
 obtain ⟨sdcp, cdcp, rfl⟩ := dc1.p.form
 obtain ⟨sdcm, cdcm, rfl⟩ := dc1.m.form
 obtain ⟨sdcf, cdcf, rfl⟩ := dc1.f.form
 obtain ⟨sdct, cdct, rfl⟩ := dc1.t.form
 obtain ⟨sdcw, cdcw, rfl⟩ := dc1.w.form
 obtain ⟨sdcs, cdcs, rfl⟩ := dc1.s.form
 refine Om1 rfl rfl ?_
 refine Ops.pv (pv_extract rfl rfl) rfl ?_
 refine Ops.pv (pv_extract rfl rfl) rfl ?_
 refine Ops.ef rfl (ef_allocK tyZ40 rfl) ?_
 rintro _ _ ⟨b3, rfl, rfl⟩
 refine Ops.ef rfl (ef_storeK rfl rfl rfl rfl) ?_
 rintro _ _ ⟨rfl, rfl⟩
 refine Oa1 rfl rfl ?_
 refine On ?_
 refine Wr ?_
 refine Om1 rfl rfl ?_
 refine Ops.ef rfl (ef_call (tr_rdecode s (by omega)) rfl rfl) ?_
 rintro _ _ ⟨_, _, ⟨C2, e2, wxo1, wxp1, wxm1, wxf1, wxt1, wxw1, wxs1, Kxo1, Kxp1, Kxm1, Kxf1, Kxt1, Kxw1, Kxs1, hR1, hx1, rfl, rfl⟩, rfl, rfl⟩
 refine Ops.app ?_
 obtain ⟨rfl, rfl⟩ := dec_same hP1 hR1
 obtain ⟨shxo, chxo, rfl⟩ := hx1.o.form
 obtain ⟨shxp, chxp, rfl⟩ := hx1.p.form
 obtain ⟨shxm, chxm, rfl⟩ := hx1.m.form
 obtain ⟨shxf, chxf, rfl⟩ := hx1.f.form
 obtain ⟨shxt, chxt, rfl⟩ := hx1.t.form
 obtain ⟨shxw, chxw, rfl⟩ := hx1.w.form
 obtain ⟨shxs, chxs, rfl⟩ := hx1.s.form
 refine Om1 rfl rfl ?_
 refine Ops.pv (pv_extract rfl rfl) rfl ?_
 refine Ops.pv (pv_extract rfl rfl) rfl ?_
 refine Ops.ef rfl (ef_allocK tyZ30 rfl) ?_
 rintro _ _ ⟨b4, rfl, rfl⟩
 refine Ops.ef rfl (ef_storeK rfl rfl rfl rfl) ?_
 rintro _ _ ⟨rfl, rfl⟩
 refine Oa1 rfl rfl ?_
 refine On ?_
 refine Wp.seq ?_
 refine AnyH.start ((b1, .cells [.slice svo D.o.length cvo, .slice svp D.p.length cvp, .slice svm D.m.length cvm, .slice svf D.f.length cvf, .slice svt D.t.length cvt, .slice svw D.w.length cvw, .slice svs D.s.length cvs].toArray 30) :: (b2, .cells [.slice sdao D.o.length cdao, .slice sdap D.p.length cdap, .slice sdam D.m.length cdam, .slice sdaf D.f.length cdaf, .slice sdat D.t.length cdat, .slice sdaw D.w.length cdaw, .slice sdas D.s.length cdas].toArray 40) :: (b3, .cells [.slice sdco C2.o.length cdco, .slice sdcp C2.p.length cdcp, .slice sdcm C2.m.length cdcm, .slice sdcf C2.f.length cdcf, .slice sdct C2.t.length cdct, .slice sdcw C2.w.length cdcw, .slice sdcs C2.s.length cdcs].toArray 40) :: (b4, .cells [.slice shxo C2.o.length chxo, .slice shxp C2.p.length chxp, .slice shxm C2.m.length chxm, .slice shxf C2.f.length chxf, .slice shxt C2.t.length chxt, .slice shxw C2.w.length chxw, .slice shxs C2.s.length chxs].toArray 30) :: []) 26 rfl ?_
 refine Tk 0 rfl rfl (pv_move rfl) rfl ?_
 refine Tk 1 rfl rfl (pv_move rfl) rfl ?_
 refine Tk 2 rfl rfl ((pv_str_eql rfl rfl).tru (by first | rfl | decide | omega | assumption | (simp; done) | (simp; omega))) rfl ?_
 refine Tk 3 rfl rfl (pv_move rfl) rfl ?_
 refine Tk 4 rfl ⟨_, _, rfl, rfl, rfl⟩ (pv_move rfl) rfl ?_
 refine Tk 5 rfl ⟨_, _, rfl, rfl, rfl⟩ (pv_move rfl) rfl ?_
 refine Tk 6 rfl ⟨_, _, rfl, rfl, rfl⟩ ((pv_eql rfl rfl).tru (by first | rfl | decide | omega | assumption | (simp; done) | (simp; omega))) rfl ?_
 refine Tk 7 rfl rfl (pv_pick_true rfl rfl) rfl ?_
 refine Tk 8 rfl rfl (pv_move rfl) rfl ?_
 refine Tk 9 rfl ⟨_, _, rfl, rfl, rfl⟩ (pv_loadK [_, _, _, _, _, _, _] rfl rfl rfl ⟨rfl, rfl, rfl, rfl, rfl, rfl, rfl, trivial⟩) rfl ?_
 refine Tk 10 rfl ⟨_, _, rfl, rfl, rfl⟩ (pv_loadK [_, _, _, _, _, _, _] rfl rfl rfl ⟨rfl, rfl, rfl, rfl, rfl, rfl, rfl, trivial⟩) rfl ?_
 refine AnyH.one 11 (by kernel_rfl) ?_
 refine Turn.ef rfl ⟨_, _, rfl, rfl, rfl⟩ (ef_call (tr_to _ C2 _ _ _ _ _ _ _ (DS.da hx1) hc.1 hc.2.1 hc.2.2.1 hc.2.2.2.1 hc.2.2.2.2.1 hc.2.2.2.2.2.1 hc.2.2.2.2.2.2) rfl rfl) ?_ ?_
 ·
  rintro _ _ ⟨_, _, ⟨wbo1, wbp1, wbm1, wbf1, wbt1, wbw1, wbs1, Kbo1, Kbp1, Kbm1, Kbf1, Kbt1, Kbw1, Kbs1, db1, rfl, rfl⟩, rfl, rfl⟩; infer_instance
 rintro _ _ ⟨_, _, ⟨wbo1, wbp1, wbm1, wbf1, wbt1, wbw1, wbs1, Kbo1, Kbp1, Kbm1, Kbf1, Kbt1, Kbw1, Kbs1, db1, rfl, rfl⟩, rfl, rfl⟩
 refine AnyH.app ?_
 obtain ⟨sdbo, cdbo, rfl⟩ := db1.o.form
 obtain ⟨sdbp, cdbp, rfl⟩ := db1.p.form
 obtain ⟨sdbm, cdbm, rfl⟩ := db1.m.form
 obtain ⟨sdbf, cdbf, rfl⟩ := db1.f.form
 obtain ⟨sdbt, cdbt, rfl⟩ := db1.t.form
 obtain ⟨sdbw, cdbw, rfl⟩ := db1.w.form
 obtain ⟨sdbs, cdbs, rfl⟩ := db1.s.form
 refine AnyH.one 12 (by kernel_rfl) ?_
 refine Turn.ef rfl ⟨_, _, rfl, rfl, rfl⟩ (ef_callr (tr_same_refl _ dc1 db1 hc) rfl rfl) ?_ ?_
 ·
  rintro _ _ ⟨rfl, rfl⟩; infer_instance
 rintro _ _ ⟨rfl, rfl⟩
 refine Tk 13 rfl rfl (pv_pick_true rfl rfl) rfl ?_
 refine Tk 14 rfl rfl (pv_move rfl) rfl ?_
 refine Tk 15 rfl ⟨_, _, rfl, rfl, rfl⟩ (pv_move rfl) rfl ?_
 refine Tk 16 rfl ⟨_, _, rfl, rfl, rfl⟩ (pv_move rfl) rfl ?_
 refine Tk 17 rfl ⟨_, _, rfl, rfl, rfl⟩ ((pv_eql rfl rfl).tru (by first | rfl | decide | omega | assumption | (simp; done) | (simp; omega))) rfl ?_
 refine Tk 18 rfl rfl (pv_pick_true rfl rfl) rfl ?_
 refine Tk 19 rfl rfl (pv_move rfl) rfl ?_
 refine Tk 20 rfl ⟨_, _, rfl, rfl, rfl⟩ (pv_loadK [_, _, _, _, _, _, _] rfl rfl rfl ⟨rfl, rfl, rfl, rfl, rfl, rfl, rfl, trivial⟩) rfl ?_
 refine Tk 21 rfl ⟨_, _, rfl, rfl, rfl⟩ (pv_loadK [_, _, _, _, _, _, _] rfl rfl rfl ⟨rfl, rfl, rfl, rfl, rfl, rfl, rfl, trivial⟩) rfl ?_
 refine AnyH.one 22 (by kernel_rfl) ?_
 refine Turn.ef rfl ⟨_, _, rfl, rfl, rfl⟩ (ef_call (tr_to G D _ _ _ _ _ _ _ hs hl.1 hl.2.1 hl.2.2.1 hl.2.2.2.1 hl.2.2.2.2.1 hl.2.2.2.2.2.1 hl.2.2.2.2.2.2) rfl rfl) ?_ ?_
 ·
  rintro _ _ ⟨_, _, ⟨wdo1, wdp1, wdm1, wdf1, wdt1, wdw1, wds1, Kdo1, Kdp1, Kdm1, Kdf1, Kdt1, Kdw1, Kds1, dd1, rfl, rfl⟩, rfl, rfl⟩; infer_instance
 rintro _ _ ⟨_, _, ⟨wdo1, wdp1, wdm1, wdf1, wdt1, wdw1, wds1, Kdo1, Kdp1, Kdm1, Kdf1, Kdt1, Kdw1, Kds1, dd1, rfl, rfl⟩, rfl, rfl⟩
 refine AnyH.app ?_
 obtain ⟨sddo, cddo, rfl⟩ := dd1.o.form
 obtain ⟨sddp, cddp, rfl⟩ := dd1.p.form
 obtain ⟨sddm, cddm, rfl⟩ := dd1.m.form
 obtain ⟨sddf, cddf, rfl⟩ := dd1.f.form
 obtain ⟨sddt, cddt, rfl⟩ := dd1.t.form
 obtain ⟨sddw, cddw, rfl⟩ := dd1.w.form
 obtain ⟨sdds, cdds, rfl⟩ := dd1.s.form
 refine AnyH.one 23 (by kernel_rfl) ?_
 refine Turn.ef rfl ⟨_, _, rfl, rfl, rfl⟩ (ef_callr (tr_same_refl _ da1 dd1 hl) rfl rfl) ?_ ?_
 ·
  rintro _ _ ⟨rfl, rfl⟩; infer_instance
 rintro _ _ ⟨rfl, rfl⟩
 refine Tk 24 rfl rfl (pv_pick_true rfl rfl) rfl ?_
 refine Tk 25 rfl rfl (pv_assign rfl) rfl ?_
 refine AnyH.done (by kernel_rfl) ?_
 refine Ends.seq ?_
 refine Wp.ret ?_
 exact Ends.ret (res1 rfl rfl) ⟨rfl, rfl⟩
end Go.Proofs.Ytkldjadpoknejaa
end
section
set_option linter.unusedVariables false
set_option linter.unusedSimpArgs false
namespace Go.SL
open Go.RowKit Go.ChangeShapes Go.WideShapes Go.Deep
theorem trod_fields {P : Program} {H : Type} {enc : TypeId × Value → H} {w : World} {base : Nat} {spare : Nat → Bool} {held : Bool} {t : TypeId} {fs : Array Field} {cs : Array Value} {d : DataW H} {p : List MemPlace} (hu : P.underlying t = some (.struct fs))
    (h : DataW.Trod enc P w base spare held t (.agg cs) d p) : ∀ (i : Nat) (f : Field), fs[i]? = some f → ∃ fuel y, DataW.trod enc P w base spare held fuel f.type ((cs.toList.drop f.offset).take (P.cellsOf f.type)) = some y := by
  obtain ⟨fuel, h⟩ := h
  obtain ⟨xs, n, _, _, hl, hxl, hat⟩ := DataW.trod_struct hu h
  intro i f hf
  have hlt : i < xs.length := by rw [hxl]; exact (Array.getElem?_eq_some_iff.1 hf).1
  have := hat i f hf
  rw [List.getElem?_eq_getElem hlt] at this
  exact ⟨n, _, this⟩
theorem flat_sliceF {P : Program} {H : Type} {enc : TypeId × Value → H} {w : World} {held : Bool} {t e : TypeId} {fuel : Nat} {cs : List Value} {x : DataW H × List MemPlace} {ks : List (Option IntKind)} (hu : P.underlying t = some (.slice e)) (he : FlatTy P e ks) (hk : 0 < ks.length)
    (h : DataW.trod enc P w 0 (fun _ => true) held fuel t cs = some x) : ∃ a c els, cs = [.slice a els.length c] ∧ els.length ≤ maxLen ∧ els.length ≤ c ∧ (∀ x, x ∈ els → FlatV ks x) ∧ ArgS (allHp w) ks.length a els := by
  have hcs : ∃ a n c, cs = [.slice a n c] := by
    rcases open_slice hu h with ⟨rfl, _⟩ | ⟨a, len, cap, _, _, _, _, rfl, _⟩
    · exact ⟨_, _, _, rfl⟩
    · exact ⟨_, _, _, rfl⟩
  obtain ⟨a, n, c, rfl⟩ := hcs
  obtain ⟨a', c', els, hv, h1, h2, h3, h4⟩ := flat_slice2 (v := .slice a n c) (d := x.1) (p := x.2) hu hk ⟨_, _, _, rfl⟩ ⟨fuel, by simpa [Value.cells] using h⟩
  cases hv
  exact ⟨_, _, _, rfl, h1, h2, h3, h4⟩
end Go.SL
end
section
set_option linter.unusedVariables false
set_option linter.unusedSimpArgs false
set_option linter.unusedSectionVars false
namespace Go.Proofs.Ytkldjadpoknejaa
open Go.SL Go.ChangeShapes
def Fld.kind : Fld → Option IntKind
  | .two => some .i64
  | .lab => some .i64
  | .spc => some .i64
  | .w4 => some .u64
  | .w8 => some .u64
  | .flg => none
theorem Fld.of_cell (f : Fld) {ks : List (Option IntKind)} {vs : List Value} (h : FlatV (f.kind :: ks) vs) : ∃ n us, vs = f.cell n :: us ∧ f.rg n ∧ FlatV ks us := by
 cases f <;> simp only [Fld.kind] at h
 case flg =>
  obtain ⟨b, us, rfl, h2⟩ := h.bool
  refine ⟨if b then 1 else 0, us, ?_, ?_, h2⟩
  ·
   cases b <;> rfl
  ·
   cases b <;> simp [Fld.rg]
 all_goals
  obtain ⟨n, us, rfl, hw, h2⟩ := h.int
  refine ⟨n, us, rfl, ?_, h2⟩
  simp [Lit.wf, IntKind.min, IntKind.max, IntKind.signed, IntKind.bits] at hw
  simp only [Fld.rg, RgI]
  omega
theorem as_El : ∀ (fs : List Fld) {vs : List Value}, FlatV (fs.map Fld.kind) vs → ∃ e : El fs, vs = cE fs e
  | [], vs, h => ⟨⟨[], rfl, trivial⟩, h.nil⟩
  | f :: fs, vs, h => by
    obtain ⟨n, us, rfl, hr, h⟩ := f.of_cell h
    obtain ⟨e, rfl⟩ := as_El fs h
    exact ⟨⟨n :: e.val, by simp [e.len], ⟨hr, e.rg⟩⟩, rfl⟩
theorem arr7 {cs : Array Value} (h : cs.size = 7) : ∃ a b c d e f g, cs = #[a, b, c, d, e, f, g] := by
 obtain ⟨l⟩ := cs
 match l, h with
 | [a, b, c, d, e, f, g], _ => exact ⟨a, b, c, d, e, f, g, rfl⟩
theorem as_field (fs : List Fld) {H : Type} {enc : TypeId × Value → H} {w : World} {held : Bool} {t e : TypeId} {fuel : Nat} {cs : List Value} {x : DataW H × List MemPlace} {ks : List (Option IntKind)} (hu : Try.prog.underlying t = some (.slice e)) (he : FlatTy Try.prog e ks) (hf : ks = fs.map Fld.kind) (hk : 0 < fs.length)
    (h : DataW.trod enc Try.prog w 0 (fun _ => true) held fuel t cs = some x) : ∃ v, ∃ l : List (El fs), cs = [v] ∧ ASl (allHp w) fs.length v (cE fs) l := by
  subst hf
  obtain ⟨a, c, els, rfl, _, _, h3, h4⟩ := flat_sliceF hu he (by simpa using hk) h
  obtain ⟨l, rfl, _⟩ := map_of (p := fun _ => True) (fun y hy => by obtain ⟨e, he⟩ := as_El fs (h3 y hy); exact ⟨e, he, trivial⟩)
  rw [List.length_map] at h4
  exact ⟨_, l, rfl, a, c, by rw [List.length_map], h4⟩
theorem fd3 : FlatTy Try.prog 3 [some .i64] := FlatTy.int Try.underlying3 (by kernel_rfl)
theorem fd53 : FlatTy Try.prog 53 [some .i64, some .i64, some .i64] := FlatTy.struct (kss := [[some .i64], [some .i64], [some .i64]]) Try.underlying53 (FlatFs.cons rfl fd3 (FlatFs.cons rfl fd3 (FlatFs.cons rfl fd3 FlatFs.nil))) (by kernel_rfl)
theorem fd56 : FlatTy Try.prog 56 [some .i64, some .i64] := FlatTy.struct (kss := [[some .i64], [some .i64]]) Try.underlying56 (FlatFs.cons rfl fd3 (FlatFs.cons rfl fd3 FlatFs.nil)) (by kernel_rfl)
theorem fd57 : FlatTy Try.prog 57 [some .u64] := FlatTy.int Try.underlying57 (by kernel_rfl)
theorem fd59 : FlatTy Try.prog 59 [some .i64, some .i64, some .i64, some .u64, some .u64, some .i64] := FlatTy.struct (kss := [[some .i64], [some .i64], [some .i64], [some .u64], [some .u64], [some .i64]]) Try.underlying59 (FlatFs.cons rfl fd3 (FlatFs.cons rfl fd3 (FlatFs.cons rfl fd3 (FlatFs.cons rfl fd57 (FlatFs.cons rfl fd57 (FlatFs.cons rfl fd3 FlatFs.nil)))))) (by kernel_rfl)
theorem fd61 : FlatTy Try.prog 61 [some .i64, some .i64, some .i64, some .i64, some .i64, some .u64, some .u64, some .i64] := FlatTy.struct (kss := [[some .i64, some .i64], [some .i64, some .i64, some .i64, some .u64, some .u64, some .i64]]) Try.underlying61 (FlatFs.cons rfl fd56 (FlatFs.cons rfl fd59 FlatFs.nil)) (by kernel_rfl)
theorem fd4 : FlatTy Try.prog 4 [none] := FlatTy.bool Try.underlying4 (by kernel_rfl)
theorem fd64 : FlatTy Try.prog 64 [some .i64, some .i64, some .i64, none] := FlatTy.struct (kss := [[some .i64], [some .i64], [some .i64], [none]]) Try.underlying64 (FlatFs.cons rfl fd3 (FlatFs.cons rfl fd3 (FlatFs.cons rfl fd3 (FlatFs.cons rfl fd4 FlatFs.nil)))) (by kernel_rfl)
theorem fd67 : FlatTy Try.prog 67 [some .i64, some .i64, some .u64] := FlatTy.struct (kss := [[some .i64], [some .i64], [some .u64]]) Try.underlying67 (FlatFs.cons rfl fd3 (FlatFs.cons rfl fd3 (FlatFs.cons rfl fd57 FlatFs.nil))) (by kernel_rfl)
theorem fd70 : FlatTy Try.prog 70 [some .i64, some .i64, some .i64, some .i64, some .i64, some .u64, some .i64, some .i64] := FlatTy.struct (kss := [[some .i64], [some .i64], [some .i64], [some .i64], [some .i64], [some .u64], [some .i64], [some .i64]]) Try.underlying70 (FlatFs.cons rfl fd3 (FlatFs.cons rfl fd3 (FlatFs.cons rfl fd3 (FlatFs.cons rfl fd3 (FlatFs.cons rfl fd3 (FlatFs.cons rfl fd57 (FlatFs.cons rfl fd3 (FlatFs.cons rfl fd3 FlatFs.nil)))))))) (by kernel_rfl)
theorem fd73 : FlatTy Try.prog 73 [some .i64, some .i64, some .i64, some .u64] := FlatTy.struct (kss := [[some .i64], [some .i64], [some .i64], [some .u64]]) Try.underlying73 (FlatFs.cons rfl fd3 (FlatFs.cons rfl fd3 (FlatFs.cons rfl fd3 (FlatFs.cons rfl fd57 FlatFs.nil)))) (by kernel_rfl)
theorem fd76 : FlatTy Try.prog 76 [some .i64, some .i64] := FlatTy.struct (kss := [[some .i64], [some .i64]]) Try.underlying76 (FlatFs.cons rfl fd3 (FlatFs.cons rfl fd3 FlatFs.nil)) (by kernel_rfl)
theorem as_desc {H : Type} {enc : TypeId × Value → H} {w : World} {held : Bool} {cs : Array Value} {d : DataW H} {p : List MemPlace} (hc : cs.size = 7) (h : DataW.Trod enc Try.prog w 0 (fun _ => true) held 30 (.agg cs) d p) : ∃ (D : Dd) (v1 v2 v3 v4 v5 v6 v7 : Value), cs = #[v1, v2, v3, v4, v5, v6, v7] ∧ DA (allHp w) D v1 v2 v3 v4 v5 v6 v7 := by
 have hF := trod_fields Try.underlying30 h
 obtain ⟨x1, x2, x3, x4, x5, x6, x7, rfl⟩ := arr7 hc
 obtain ⟨f1, y1, h1⟩ := hF 0 _ rfl
 have k1 : DataW.trod enc Try.prog w 0 (fun _ => true) held f1 22 (List.take (Try.prog.cellsOf 22) (List.drop 0 [x1, x2, x3, x4, x5, x6, x7])) = some y1 := h1
 rw [show Try.prog.cellsOf 22 = 1 by kernel_rfl] at k1
 obtain ⟨v1, l1, e1, g1⟩ := as_field (cs := [x1]) fsO Try.underlying22 fd53 rfl (by decide) k1
 cases e1
 obtain ⟨f2, y2, h2⟩ := hF 1 _ rfl
 have k2 : DataW.trod enc Try.prog w 0 (fun _ => true) held f2 23 (List.take (Try.prog.cellsOf 23) (List.drop 1 [x1, x2, x3, x4, x5, x6, x7])) = some y2 := h2
 rw [show Try.prog.cellsOf 23 = 1 by kernel_rfl] at k2
 obtain ⟨v2, l2, e2, g2⟩ := as_field (cs := [x2]) fsP Try.underlying23 fd61 rfl (by decide) k2
 cases e2
 obtain ⟨f3, y3, h3⟩ := hF 2 _ rfl
 have k3 : DataW.trod enc Try.prog w 0 (fun _ => true) held f3 24 (List.take (Try.prog.cellsOf 24) (List.drop 2 [x1, x2, x3, x4, x5, x6, x7])) = some y3 := h3
 rw [show Try.prog.cellsOf 24 = 1 by kernel_rfl] at k3
 obtain ⟨v3, l3, e3, g3⟩ := as_field (cs := [x3]) fsM Try.underlying24 fd64 rfl (by decide) k3
 cases e3
 obtain ⟨f4, y4, h4⟩ := hF 3 _ rfl
 have k4 : DataW.trod enc Try.prog w 0 (fun _ => true) held f4 25 (List.take (Try.prog.cellsOf 25) (List.drop 3 [x1, x2, x3, x4, x5, x6, x7])) = some y4 := h4
 rw [show Try.prog.cellsOf 25 = 1 by kernel_rfl] at k4
 obtain ⟨v4, l4, e4, g4⟩ := as_field (cs := [x4]) fsF Try.underlying25 fd67 rfl (by decide) k4
 cases e4
 obtain ⟨f5, y5, h5⟩ := hF 4 _ rfl
 have k5 : DataW.trod enc Try.prog w 0 (fun _ => true) held f5 26 (List.take (Try.prog.cellsOf 26) (List.drop 4 [x1, x2, x3, x4, x5, x6, x7])) = some y5 := h5
 rw [show Try.prog.cellsOf 26 = 1 by kernel_rfl] at k5
 obtain ⟨v5, l5, e5, g5⟩ := as_field (cs := [x5]) fsT Try.underlying26 fd70 rfl (by decide) k5
 cases e5
 obtain ⟨f6, y6, h6⟩ := hF 5 _ rfl
 have k6 : DataW.trod enc Try.prog w 0 (fun _ => true) held f6 27 (List.take (Try.prog.cellsOf 27) (List.drop 5 [x1, x2, x3, x4, x5, x6, x7])) = some y6 := h6
 rw [show Try.prog.cellsOf 27 = 1 by kernel_rfl] at k6
 obtain ⟨v6, l6, e6, g6⟩ := as_field (cs := [x6]) fsW Try.underlying27 fd73 rfl (by decide) k6
 cases e6
 obtain ⟨f7, y7, h7⟩ := hF 6 _ rfl
 have k7 : DataW.trod enc Try.prog w 0 (fun _ => true) held f7 28 (List.take (Try.prog.cellsOf 28) (List.drop 6 [x1, x2, x3, x4, x5, x6, x7])) = some y7 := h7
 rw [show Try.prog.cellsOf 28 = 1 by kernel_rfl] at k7
 obtain ⟨v7, l7, e7, g7⟩ := as_field (cs := [x7]) fsS Try.underlying28 fd76 rfl (by decide) k7
 cases e7
 exact ⟨⟨l1, l2, l3, l4, l5, l6, l7⟩, _, _, _, _, _, _, _, rfl, ⟨g1, g2, g3, g4, g5, g6, g7⟩⟩
end Go.Proofs.Ytkldjadpoknejaa
end
