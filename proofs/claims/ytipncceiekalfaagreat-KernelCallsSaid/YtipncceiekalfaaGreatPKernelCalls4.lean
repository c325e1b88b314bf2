/- KernelCalls. Laid together by pack.py out of the texts in wip. -/
import Derived.Test.YtipncceiekalfaaGreatPKernelCalls3
set_option linter.unusedVariables false
set_option linter.unusedSimpArgs false
set_option linter.unusedSectionVars false
section
set_option linter.unusedVariables false
set_option linter.unusedSimpArgs false
set_option linter.unusedSectionVars false
namespace Go.Proofs.YtipncceiekalfaaGreat
open Go.SL
theorem tr_pUnpackI (x : Int) (h : U64 x) : TrR Tryz.prog 174 [.int .u64 x] [] (.tuple #[(pteI x).1.v, .int .i64 (pteI x).2]) := by
 obtain ⟨w, rfl⟩ : ∃ w : Nat, x = (w : Int) := ⟨x.toNat, by unfold U64 at h; omega⟩
 exact tr_pUnpack w (by unfold U64 at h; omega)
theorem tr_wThere (ws : List Int) (mb wb N : Nat) (hl : ws.length = N) (hN : N ≤ 65536) (a : Int) : TrR Tryz.prog 212 [memP mb, .int .i64 a] (memB mb wb N ws) (.bool (decide (thereW N a))) := by
 refine Tr.enter Tryz.func212 rfl Tryz.ntmps212 rfl (fun W F => ?_)
 refine Wp.app ?_
 refine zq [3,4,1,2,5,3,4,0,43,0] ?_
 refine Ops.split (t := 7) rfl (fun h1 => ?_) (fun h1 => ?_)
 ·
  refine zq [21,21] ?_
  refine Ops.efg ⟨_, _, rfl, rfl, rfl⟩ (ef_callr (tr_memSize ws mb wb N) rfl rfl) ?_
  rintro _ _ ⟨rfl, rfl⟩
  refine Ops.pvg ⟨_, _, rfl, rfl, rfl⟩ (pv_sub rfl rfl (w64 (by omega) (by omega))) rfl ?_
  refine Ops.pvg ⟨_, _, rfl, rfl, rfl⟩ (pv_leq rfl rfl) rfl ?_
  refine zq [24,1,2,5,10] ?_
  exact Ends.ret (res1 rfl rfl) ⟨by simp [thereW, *], rfl⟩
 refine zq [13,13,13,13,13,26,1,2,5,10] ?_
 exact Ends.ret (res1 rfl rfl) ⟨by simp [thereW, *], rfl⟩
theorem tr_sThere (ws : List Int) (mb wb N : Nat) (hl : ws.length = N) (hN : N ≤ 65536) (a : Int) : TrR Tryz.prog 171 [memP mb, .int .i64 a] (memB mb wb N ws) (.bool (decide (thereS N a))) := by
 refine Tr.enter Tryz.func171 rfl Tryz.ntmps171 rfl (fun W F => ?_)
 refine Wp.app ?_
 refine zq [3,4,1,2,5,3,4,0,43,0] ?_
 refine Ops.pvc rfl rfl (fun hg => pv_move rfl) rfl ?_
 refine Ops.pvc rfl rfl (fun hg => Pv.setE (t := 8) rfl (cv_pos hg) (pv_rem rfl rfl (by decide) (Int.tmod_eq_emod_of_nonneg (by omega)))) rfl ?_
 refine Ops.pvc rfl rfl (fun hg => Pv.setE (t := 8) rfl (cv_pos hg) (Pv.setE (t := 9) rfl (cv_pos hg) (pv_eql rfl rfl))) rfl ?_
 refine zq [46,0] ?_
 refine Ops.split (t := 12) rfl (fun h1 => ?_) (fun h1 => ?_)
 ·
  refine zq [21,21] ?_
  refine Ops.efg ⟨_, _, rfl, rfl, rfl⟩ (ef_callr (tr_memSize ws mb wb N) rfl rfl) ?_
  rintro _ _ ⟨rfl, rfl⟩
  refine Ops.pvg ⟨_, _, rfl, rfl, rfl⟩ (pv_sub rfl rfl (w64 (by omega) (by omega))) rfl ?_
  refine Ops.pvg ⟨_, _, rfl, rfl, rfl⟩ (pv_leq rfl rfl) rfl ?_
  refine zq [24,1,2,5,10] ?_
  exact Ends.ret (res1 rfl rfl) ⟨by simp [thereS, *], rfl⟩
 refine zq [13,13,13,13,13,26,1,2,5,10] ?_
 exact Ends.ret (res1 rfl rfl) ⟨by simp [thereS, *], rfl⟩
theorem tr_sEntry (a : Int) (wr : Bool) : TrR Tryz.prog 173 [.int .i64 a, .bool wr] ([]) (.int .u64 (entW a wr)) := by
 refine Tr.enter Tryz.func173 rfl Tryz.ntmps173 rfl (fun W F => ?_)
 refine Wp.app ?_
 refine zq [3,4,1,2,5,3,4,0,0,23] ?_
 refine zC (tr_pPack ⟨true, wr, a⟩) ?_
 refine zq [0,7,7,1,1,2,5,3,4,0,1,2,5,10] ?_
 exact zr ⟨rfl, rfl⟩
set_option maxHeartbeats 2000000 in
theorem tr_sFirst (ws : List Int) (mb wb N : Nat) (hl : ws.length = N) (hN : N ≤ 65536) (dir a ot : Int) (ha : I64 a) : TrR Tryz.prog 127 [memP mb, .int .i64 dir, .int .i64 a, .int .i64 ot] (memB mb wb N ws) (.tuple #[.int .i64 (firstM ws dir a ot).1, .int .i64 (firstM ws dir a ot).2]) := by
 subst hl
 refine Tr.enter Tryz.func127 rfl Tryz.ntmps127 rfl (fun W F => ?_)
 refine Wp.app ?_
 refine zq [3,4,1,1,2,5,3,4,0] ?_
 refine zC (tr_pSplit a ha) ?_
 refine zq [0,7,7,7,7,1,1,1,1,2,5,3,20,3,4,0,27,1,2,5] ?_
 refine Wp.cond_dect rfl (fun h1 => ?_) (fun h1 => ?_)
 ·
  have he : firstM ws dir a ot = (0, (splitM a).2.2.2) := if_pos (by assumption)
  refine zq [3,4,0,1,1,2,5,10,15,12] ?_
  exact Ends.ret (res2 rfl rfl rfl) ⟨by rw [he], rfl⟩
 have h0 : ¬ (splitM a).2.2.2 ≠ 0 := by assumption
 refine zq [3,4,0,0] ?_
 refine zC (tr_sThere ws mb wb ws.length rfl hN dir) ?_
 refine zq [55,0] ?_
 refine Ops.split (t := 30) rfl (fun h2 => ?_) (fun h2 => ?_)
 ·
  refine zq [13,13,13,13,24,1,2,5,18,3,4,1,1,2,5,10,15,12] ?_
  have hc : ¬ thereS ws.length dir ∨ ¬ thereS ws.length ot := by first | exact .inl (by assumption) | exact .inr (by assumption)
  have he : firstM ws dir a ot = (0, 9) := (if_neg h0).trans (if_pos hc)
  exact Ends.ret (res2 rfl rfl rfl) ⟨by rw [he], rfl⟩
 refine zq [21,21] ?_
 refine Ops.efg ⟨_, _, rfl, rfl, rfl⟩ (ef_callr (tr_sThere ws mb wb ws.length rfl hN ot) rfl rfl) ?_
 rintro _ _ ⟨rfl, rfl⟩
 refine Ops.pvg ⟨_, _, rfl, rfl, rfl⟩ (pv_not_dec rfl) rfl ?_
 refine zq [26,1,2,5] ?_
 refine Wp.cond_dect rfl (fun h3 => ?_) (fun h3 => ?_)
 ·
  refine zq [3,4,1,1,2,5,10,15,12] ?_
  have hc : ¬ thereS ws.length dir ∨ ¬ thereS ws.length ot := by first | exact .inl (by assumption) | exact .inr (by assumption)
  have he : firstM ws dir a ot = (0, 9) := (if_neg h0).trans (if_pos hc)
  exact Ends.ret (res2 rfl rfl rfl) ⟨by rw [he], rfl⟩
 have hc : ¬ (¬ thereS ws.length dir ∨ ¬ thereS ws.length ot) := by simp_all
 have he : firstM ws dir a ot = (dir + (splitM a).1, 0) := (if_neg h0).trans (if_neg hc)
 have hd : thereS ws.length dir := by simp_all
 have hsl := splitM_lt (a := a) (by omega)
 unfold thereS at hd
 refine zq [11,19,5,3,4,0,0,52,1,1,2,5,10] ?_
 exact Ends.ret (res2 rfl rfl rfl) ⟨by rw [he], rfl⟩
set_option maxHeartbeats 4000000 in
theorem tr_sSecond (ws : List Int) (mb wb N : Nat) (hl : ws.length = N) (hN : N ≤ 65536) (hw : WdOk ws) (dir a ot : Int) (ha : I64 a) : TrR Tryz.prog 130 [memP mb, .int .i64 dir, .int .i64 a, .int .i64 ot] (memB mb wb N ws) (.tuple #[.int .i64 (secondM ws dir a ot).1, .int .i64 (secondM ws dir a ot).2]) := by
 subst hl
 obtain ⟨x, hx⟩ : ∃ x, secE ws dir a ot = x := ⟨_, rfl⟩
 refine Tr.enter Tryz.func130 rfl Tryz.ntmps130 rfl (fun W F => ?_)
 refine Wp.app ?_
 refine zq [3,4,1,1,2,5,3,4,0,0,0,0] ?_
 refine zC (tr_sFirst ws mb wb ws.length rfl hN dir a ot ha) ?_
 refine zq [0,7,7,1,1,2,5,3,3,4,0,27,2,5] ?_
 refine Wp.cond_dect rfl (fun h1 => ?_) (fun h1 => ?_)
 ·
  have he : secondM ws dir a ot = (0, (firstM ws dir a ot).2) := if_pos (by assumption)
  refine zq [3,4,0,1,1,2,5,10,12] ?_
  exact Ends.ret (res2 rfl rfl rfl) ⟨by rw [he], rfl⟩
 have h0 : ¬ (firstM ws dir a ot).2 ≠ 0 := by assumption
 refine zq [11,5,3,4,0,0] ?_
 refine zC (tr_memGet ws mb wb ws.length (firstM ws dir a ot).1 rfl hN) ?_
 refine zq [0,7,7,1,1,2,5,3,4,0] ?_
 refine zC ((tr_pUnpackI (memGet ws (firstM ws dir a ot).1).1 (hw.get _)).eq (r' := .tuple #[x.1.v, .int .i64 x.2]) (by rw [← hx]; rfl)) ?_
 refine zq [0,7,7] ?_
 refine zA fun b1 => ?_
 refine zq [14,1,2,5,3,3,4,0,27,0] ?_
 refine Ops.split (t := 43) rfl (fun h2 => ?_) (fun h2 => ?_)
 ·
  refine zq [13,13,13,24,0,13,13,24,0,13,13,13,13,13,24,2,5,18,3,4,1,1,2,5,10,12] ?_
  have hno : ¬ secOk ws.length x := by unfold secOk; simp_all
  have he : secondM ws dir a ot = (0, 12) := (if_neg h0).trans (if_pos (by rw [hx]; exact hno))
  exact Ends.ret (res2 rfl rfl rfl) ⟨by rw [he], rfl⟩
 refine zq [50,51,54,26,0] ?_
 refine Ops.splitb (t := 48) rfl (fun h3 => ?_) (fun h3 => ?_)
 ·
  refine zq [13,13,24,0,13,13,13,13,13,24,2,5,18,3,4,1,1,2,5,10,12] ?_
  have hno : ¬ secOk ws.length x := by unfold secOk; simp_all
  have he : secondM ws dir a ot = (0, 12) := (if_neg h0).trans (if_pos (by rw [hx]; exact hno))
  exact Ends.ret (res2 rfl rfl rfl) ⟨by rw [he], rfl⟩
 refine zq [50,51,26,0] ?_
 refine Ops.splitb (t := 52) rfl (fun h4 => ?_) (fun h4 => ?_)
 ·
  refine zq [13,13,13,13,13,24,2,5,18,3,4,1,1,2,5,10,12] ?_
  have hno : ¬ secOk ws.length x := by unfold secOk; simp_all
  have he : secondM ws dir a ot = (0, 12) := (if_neg h0).trans (if_pos (by rw [hx]; exact hno))
  exact Ends.ret (res2 rfl rfl rfl) ⟨by rw [he], rfl⟩
 refine zq [21,50,51] ?_
 refine Ops.efg ⟨_, _, rfl, rfl, rfl⟩ (ef_callr (tr_sThere ws mb wb ws.length rfl hN x.1.at_) rfl rfl) ?_
 rintro _ _ ⟨rfl, rfl⟩
 refine Ops.pvg ⟨_, _, rfl, rfl, rfl⟩ (pv_not_dec rfl) rfl ?_
 refine zq [26,2,5] ?_
 refine Wp.cond_dect rfl (fun h5 => ?_) (fun h5 => ?_)
 ·
  have hno : ¬ secOk ws.length x := by unfold secOk; simp_all
  have he : secondM ws dir a ot = (0, 12) := (if_neg h0).trans (if_pos (by rw [hx]; exact hno))
  refine zq [3,4,1,1,2,5,10,12] ?_
  have hno : ¬ secOk ws.length x := by unfold secOk; simp_all
  have he : secondM ws dir a ot = (0, 12) := (if_neg h0).trans (if_pos (by rw [hx]; exact hno))
  exact Ends.ret (res2 rfl rfl rfl) ⟨by rw [he], rfl⟩
 have hok : secOk ws.length x := by unfold secOk; simp_all
 have he : secondM ws dir a ot = (x.1.at_ + (splitM a).2.1, 0) := by unfold secondM; rw [if_neg h0, hx, if_neg (not_not_intro hok)]
 have hd := hok.2
 unfold thereS at hd
 have hsp : (splitM a).2.2.2 = 0 := Classical.byContradiction fun hc => by have : firstM ws dir a ot = (0, (splitM a).2.2.2) := if_pos hc; rw [this] at h0; exact h0 hc
 have hsl := splitM_lt (a := a) hsp
 refine zq [11,5,3,4,0] ?_
 refine zC (tr_pSplit a ha) ?_
 refine zq [0,7,7,7,7,1,1,1,1,2,5,3,4,6,8,0,52,1,1,2,5,10] ?_
 exact Ends.ret (res2 rfl rfl rfl) ⟨by rw [he], rfl⟩
theorem tr_sSet1 (sa sb : Nat) (o : Int) (wr : Bool) (w : Int) : TrR Tryz.prog 172 [.int .u64 w, .pointer (some ⟨sa, 0, none⟩), .pointer (some ⟨sb, 0, none⟩)] ((sa, .cells [.int .i64 o].toArray 3) :: (sb, .cells [.bool wr].toArray 4) :: []) (.tuple #[.int .u64 (setF o wr w).1, .int .i64 (setF o wr w).2]) := by
 refine Tr.enter Tryz.func172 rfl Tryz.ntmps172 rfl (fun W F => ?_)
 refine Wp.app ?_
 refine zq [3,4,1,1,2,5,3,3,4,0,27,2,5] ?_
 refine Wp.cond_dect rfl (fun h1 => ?_) (fun h1 => ?_)
 ·
  refine zq [3,4,1,1,2,5,10,12] ?_
  exact Ends.ret (res2 rfl rfl rfl) ⟨by rw [setF, if_pos (by assumption)], rfl⟩
 refine zq [11,5,3,4,8,8] ?_
 refine zC (tr_sEntry o wr) ?_
 refine zq [1,1,2,5,10] ?_
 exact Ends.ret (res2 rfl rfl rfl) ⟨by rw [setF, if_neg (by assumption)], rfl⟩
theorem tr_sSet (o : Int) (wr : Bool) : Tr Tryz.prog 129 [.int .i64 o, .bool wr] ([]) (fun u L' => ∃ sa sb, u = .func (.func 172) #[] #[.pointer (some ⟨sa, 0, none⟩), .pointer (some ⟨sb, 0, none⟩)] ∧ L' = (sa, .cells [.int .i64 o].toArray 3) :: (sb, .cells [.bool wr].toArray 4) :: []) := by
 refine Tr.enter Tryz.func129 rfl Tryz.ntmps129 rfl (fun W F => ?_)
 refine Wp.app ?_
 refine Wr ?_
 refine Ops.ef rfl (ef_box1 rfl rfl rfl) ?_
 rintro _ _ ⟨b1, rfl, rfl⟩
 refine Ops.ef rfl (ef_box1 rfl rfl rfl) ?_
 rintro _ _ ⟨b2, rfl, rfl⟩
 refine zq [1,2,5,3,4,73,1,2,5,10] ?_
 exact Ends.ret (L' := (b1, .cells [.int .i64 o].toArray 3) :: (b2, .cells [.bool wr].toArray 4) :: []) (res1 rfl rfl) ⟨b1, b2, rfl, rfl⟩
set_option maxHeartbeats 2000000 in
theorem tr_sApplySet (ws : List Int) (mb wb N : Nat) (hl : ws.length = N) (hN : N ≤ 65536) (at_ : Int) (sa sb : Nat) (o : Int) (wr : Bool) : Tr Tryz.prog 128 [memP mb, .int .i64 at_, .func (.func 172) #[] #[.pointer (some ⟨sa, 0, none⟩), .pointer (some ⟨sb, 0, none⟩)]] ((mb, .cells [.slice (some ⟨wb, 0, none⟩) N N].toArray 193) :: (wb, .cells (wordsC (ws)).toArray 22) :: (sa, .cells [.int .i64 o].toArray 3) :: (sb, .cells [.bool wr].toArray 4) :: []) (fun u L' => u = .int .i64 (applyE ws at_ (setF o wr)) ∧ L' = (mb, .cells [.slice (some ⟨wb, 0, none⟩) N N].toArray 193) :: (wb, .cells (wordsC (applyW ws at_ (setF o wr))).toArray 22) :: (sa, .cells [.int .i64 o].toArray 3) :: (sb, .cells [.bool wr].toArray 4) :: []) := by
 subst hl
 refine Tr.enter Tryz.func128 rfl Tryz.ntmps128 rfl (fun W F => ?_)
 refine Wp.app ?_
 refine zq [3,4,1,2,5,3,4,0,0] ?_
 refine zC (tr_memGet ws mb wb ws.length at_ rfl hN) ?_
 refine zq [0,7,7,1,1,2,5,3,4,0,0] ?_
 refine Ops.ef rfl (ef_callf rfl rfl (tr_sSet1 sa sb o wr (memGet ws at_).1) rfl) ?_
 rintro _ _ ⟨_, _, ⟨rfl, rfl⟩, rfl, rfl⟩
 refine Ops.app ?_
 refine zq [0,7,7,1,1,2,5,3,3,4,0,27,2,5] ?_
 refine Wp.cond_dect rfl (fun h1 => ?_) (fun h1 => ?_)
 ·
  have he : applyE ws at_ (setF o wr) = ((setF o wr) (memGet ws at_).1).2 := if_pos (by assumption)
  have he2 : applyW ws at_ (setF o wr) = ws := if_pos (by assumption)
  refine zq [3,4,0,1,2,5,10,12] ?_
  exact Ends.ret (L' := (mb, .cells [.slice (some ⟨wb, 0, none⟩) ws.length ws.length].toArray 193) :: (wb, .cells (wordsC (ws)).toArray 22) :: (sa, .cells [.int .i64 o].toArray 3) :: (sb, .cells [.bool wr].toArray 4) :: []) (res1 rfl rfl) ⟨by rw [he], by rw [he2] <;> rfl⟩
 have he : applyE ws at_ (setF o wr) = memPutE ws at_ := if_neg (by assumption)
 have he2 : applyW ws at_ (setF o wr) = memPut ws at_ ((setF o wr) (memGet ws at_).1).1 := if_neg (by assumption)
 refine zq [11,5,3,4,0,0,0] ?_
 refine zD (tr_memPut ws mb wb ws.length at_ ((setF o wr) (memGet ws at_).1).1 rfl hN) ?_
 rintro _ _ ⟨rfl, rfl⟩
 refine Ops.app ?_
 refine zq [1,2,5,10] ?_
 exact Ends.ret (L' := (mb, .cells [.slice (some ⟨wb, 0, none⟩) ws.length ws.length].toArray 193) :: (wb, .cells (wordsC (memPut ws at_ ((setF o wr) (memGet ws at_).1).1)).toArray 22) :: (sa, .cells [.int .i64 o].toArray 3) :: (sb, .cells [.bool wr].toArray 4) :: []) (res1 rfl rfl) ⟨by rw [he], by rw [he2] <;> rfl⟩
set_option maxHeartbeats 2000000 in
theorem tr_sTable (ws : List Int) (mb wb N : Nat) (hl : ws.length = N) (hN : N ≤ 65536) (hw : WdOk ws) (dir a t : Int) (ha : I64 a) : Tr Tryz.prog 68 [memP mb, .int .i64 dir, .int .i64 a, .int .i64 t] (memB mb wb N ws) (fun u L' => u = .int .i64 (tableE ws dir a t) ∧ L' = memB mb wb N (tableW ws dir a t)) := by
 subst hl
 refine Tr.enter Tryz.func68 rfl Tryz.ntmps68 rfl (fun W F => ?_)
 refine Wp.app ?_
 refine zq [3,4,1,2,5,3,4,0,0,0,0] ?_
 refine zC (tr_sFirst ws mb wb ws.length rfl hN dir a t ha) ?_
 refine zq [0,7,7,1,1,2,5,3,3,4,0,27,2,5] ?_
 refine Wp.cond_dect rfl (fun h1 => ?_) (fun h1 => ?_)
 ·
  have he : tableE ws dir a t = (firstM ws dir a t).2 := if_pos (by assumption)
  have he2 : tableW ws dir a t = ws := if_pos (by assumption)
  refine zq [3,4,0,1,2,5,10,12] ?_
  exact Ends.ret (L' := (mb, .cells [.slice (some ⟨wb, 0, none⟩) ws.length ws.length].toArray 193) :: (wb, .cells (wordsC (ws)).toArray 22) :: []) (res1 rfl rfl) ⟨by rw [he], by rw [he2] <;> rfl⟩
 have he : tableE ws dir a t = applyE ws (firstM ws dir a t).1 (setF t false) := if_neg (by assumption)
 have he2 : tableW ws dir a t = applyW ws (firstM ws dir a t).1 (setF t false) := if_neg (by assumption)
 refine zq [11,5,3,4,0,0,0] ?_
 refine zD (tr_sSet t false) ?_
 rintro _ _ ⟨sa1, sb1, rfl, rfl⟩
 refine Ops.app ?_
 refine zD (tr_sApplySet ws mb wb ws.length rfl hN (firstM ws dir a t).1 sa1 sb1 t false) ?_
 rintro _ _ ⟨rfl, rfl⟩
 refine Ops.app ?_
 refine zq [1,2,5,10] ?_
 exact Ends.ret (L' := (mb, .cells [.slice (some ⟨wb, 0, none⟩) ws.length ws.length].toArray 193) :: (wb, .cells (wordsC (applyW ws (firstM ws dir a t).1 (setF t false))).toArray 22) :: []) (res1 rfl rfl) ⟨by rw [he], by rw [he2] <;> rfl⟩
set_option maxHeartbeats 2000000 in
theorem tr_sMap (ws : List Int) (mb wb N : Nat) (hl : ws.length = N) (hN : N ≤ 65536) (hw : WdOk ws) (dir a t : Int) (wr : Bool) (ha : I64 a) : Tr Tryz.prog 69 [memP mb, .int .i64 dir, .int .i64 a, .int .i64 t, .bool wr] (memB mb wb N ws) (fun u L' => u = .int .i64 (smapE ws dir a t wr) ∧ L' = memB mb wb N (smapW ws dir a t wr)) := by
 subst hl
 refine Tr.enter Tryz.func69 rfl Tryz.ntmps69 rfl (fun W F => ?_)
 refine Wp.app ?_
 refine zq [3,4,1,2,5,3,4,0,0,0,0] ?_
 refine zC (tr_sSecond ws mb wb ws.length rfl hN hw dir a t ha) ?_
 refine zq [0,7,7,1,1,2,5,3,3,4,0,27,2,5] ?_
 refine Wp.cond_dect rfl (fun h1 => ?_) (fun h1 => ?_)
 ·
  have he : smapE ws dir a t wr = (secondM ws dir a t).2 := if_pos (by assumption)
  have he2 : smapW ws dir a t wr = ws := if_pos (by assumption)
  refine zq [3,4,0,1,2,5,10,12] ?_
  exact Ends.ret (L' := (mb, .cells [.slice (some ⟨wb, 0, none⟩) ws.length ws.length].toArray 193) :: (wb, .cells (wordsC (ws)).toArray 22) :: []) (res1 rfl rfl) ⟨by rw [he], by rw [he2] <;> rfl⟩
 have he : smapE ws dir a t wr = applyE ws (secondM ws dir a t).1 (setF t wr) := if_neg (by assumption)
 have he2 : smapW ws dir a t wr = applyW ws (secondM ws dir a t).1 (setF t wr) := if_neg (by assumption)
 refine zq [11,5,3,4,0,0,0,0] ?_
 refine zD (tr_sSet t wr) ?_
 rintro _ _ ⟨sa1, sb1, rfl, rfl⟩
 refine Ops.app ?_
 refine zD (tr_sApplySet ws mb wb ws.length rfl hN (secondM ws dir a t).1 sa1 sb1 t wr) ?_
 rintro _ _ ⟨rfl, rfl⟩
 refine Ops.app ?_
 refine zq [1,2,5,10] ?_
 exact Ends.ret (L' := (mb, .cells [.slice (some ⟨wb, 0, none⟩) ws.length ws.length].toArray 193) :: (wb, .cells (wordsC (applyW ws (secondM ws dir a t).1 (setF t wr))).toArray 22) :: []) (res1 rfl rfl) ⟨by rw [he], by rw [he2] <;> rfl⟩
set_option maxHeartbeats 8000000 in
theorem tr_wPage (ws : List Int) (mb wb N : Nat) (hl : ws.length = N) (hN : N ≤ 65536) (hw : WdOk ws) (dir a : Int) (ha : I64 a) : TrR Tryz.prog 177 [memP mb, .int .i64 dir, .int .i64 a] (memB mb wb N ws) (.tuple #[(pageM ws dir a).1.v, .int .i64 (pageM ws dir a).2]) := by
 subst hl
 refine Tr.enter Tryz.func177 rfl Tryz.ntmps177 rfl (fun W F => ?_)
 refine Wp.app ?_
 refine Wr ?_
 refine zA fun b1 => ?_
 refine zq [1,2,5] ?_
 refine Wp.scope1 (σ := Nat × Nat) 0 (by rfl) [(0, memP mb), (6, .pointer (some ⟨b1, 0, none⟩))] (fun s => [(12, .int .i64 (page1 ws dir a).1.at_), (13, .pointer (some ⟨s.1, 0, none⟩)), (14, .pointer (some ⟨s.2, 0, none⟩)), (15, .int .i64 1)]) (fun s => (s.2, .cells [.bool (page1 ws dir a).1.valid, .bool (page1 ws dir a).1.write, .int .i64 (page1 ws dir a).1.at_].toArray 276) :: (s.1, .cells [.int .i64 (splitM a).1, .int .i64 (splitM a).2.1].toArray 335) :: (b1, .cells [.bool false, .bool false, .int .i64 0].toArray 276) :: (mb, .cells [.slice (some ⟨wb, 0, none⟩) ws.length ws.length].toArray 193) :: (wb, .cells (wordsC (ws)).toArray 22) :: F) (fun s => leads ws.length (page1 ws dir a) ∧ (page1 ws dir a).1.write = false ∧ ¬ (splitM a).2.2.2 ≠ 0 ∧ ¬ (¬ thereW ws.length dir ∨ dir % 16 ≠ 0)) (fun JJ hJ => ?_) ?_
 ·
  dsimp only [List.cons_append, List.nil_append] at hJ ⊢
  refine zq [3,4,0] ?_
  refine zC (tr_pSplit a ha) ?_
  refine zq [0,7,7,7,7,1,1,1,1,2,5,3,20,3,4,0,27,1,2,5] ?_
  refine Wp.cond_dect rfl (fun h1 => ?_) (fun h1 => ?_)
  ·
   have he : pageM ws dir a = (.zero, (splitM a).2.2.2) := if_pos (by assumption)
   refine zq [3,4,23,0,14,1,2,5,10,15,12] ?_
   refine Ends.jump_ret ?_
   exact Ends.ret (res_list (rs := [.cell 6 276, .tmp 7]) rfl ⟨_, _, rfl, rv_cellK [_, _, _] rfl rfl rfl ⟨rfl, rfl, rfl, trivial⟩, ⟨_, _, rfl, rv_tmp rfl, rfl⟩⟩ rfl) ⟨by rw [he], rfl⟩
  have h0 : ¬ (splitM a).2.2.2 ≠ 0 := by assumption
  have hsl := splitM_lt (a := a) (by omega)
  refine zq [3,4,0,0] ?_
  refine zC (tr_wThere ws mb wb ws.length rfl hN dir) ?_
  refine zq [55,0] ?_
  refine Ops.pvcn rfl rfl (fun hg => pv_move rfl) rfl ?_
  refine Ops.pvcn rfl rfl (fun hg => Pv.setE (t := 36) rfl (cv_pos hg) (pv_rem rfl rfl (by decide) (Int.tmod_eq_emod_of_nonneg (by unfold thereW at *; omega)))) rfl ?_
  refine Ops.pvcn rfl rfl (fun hg => Pv.setE (t := 36) rfl (cv_pos hg) (Pv.setE (t := 37) rfl (cv_pos hg) (pv_neq rfl rfl))) rfl ?_
  refine zq [47,1,2,5] ?_
  refine Wp.cond_dect rfl (fun h2 => ?_) (fun h2 => ?_)
  ·
   have hq : ¬ thereW ws.length dir ∨ dir % 16 ≠ 0 := by simp_all
   have he : pageM ws dir a = (.zero, 9) := (if_neg h0).trans (if_pos hq)
   refine zq [3,4,23,14,1,2,5,10,15,12] ?_
   refine Ends.jump_ret ?_
   exact Ends.ret (res_list (rs := [.cell 6 276, .tmp 7]) rfl ⟨_, _, rfl, rv_cellK [_, _, _] rfl rfl rfl ⟨rfl, rfl, rfl, trivial⟩, ⟨_, _, rfl, rv_tmp rfl, rfl⟩⟩ rfl) ⟨by rw [he], rfl⟩
  have hq : ¬ (¬ thereW ws.length dir ∨ dir % 16 ≠ 0) := by simp_all
  have hd : thereW ws.length dir := by simp_all
  have hd2 := hd
  unfold thereW at hd2
  refine zq [11,19,5,3,4,0,0,0] ?_
  refine Ops.pv (pv_buildA (zs := [.int .i64 0, .int .i64 0]) (cs := [.int .i64 (splitM a).1, .int .i64 (splitM a).2.1]) rfl rfl) rfl ?_
  refine zA fun b2 => ?_
  refine zq [1,14,2,5,3,4] ?_
  refine zA fun b3 => ?_
  refine zq [2,5,3,4,1,2,5,3] ?_
  refine Wp.label ?_
  refine zq [5,3,4,0,0,0] ?_
  refine Ops.pv ((by first | exact pv_indexAddrN (i := 0) (o2 := 0) rfl rfl rfl (by decide) (by rfl) | exact pv_indexAddrN (i := 1) (o2 := 1) rfl rfl rfl (by decide) (by rfl))) rfl ?_
  refine zq [8,52] ?_
  refine zC (tr_memGet ws mb wb ws.length (dir + (splitM a).1) rfl hN) ?_
  refine zq [0,7,7,1,1,2,5,3,4,0] ?_
  refine zC ((tr_pUnpackI (memGet ws (dir + (splitM a).1)).1 (hw.get _)).eq (r' := .tuple #[(page1 ws dir a).1.v, .int .i64 (page1 ws dir a).2]) rfl) ?_
  refine zq [0,7,7,14,1,2,5,3,3,4,0,27,0] ?_
  refine Ops.split (t := 62) rfl (fun h3 => ?_) (fun h3 => ?_)
  ·
   refine zq [13,13,13,24,0,13,13,13,13,13,24,2,5,18,3,4,23,14,1,2,5,10,12] ?_
   refine Ends.jump_ret ?_
   have hno : ¬ leads ws.length (page1 ws dir a) := by unfold leads; simp_all
   have he : pageM ws dir a = (.zero, 12) := by unfold pageM; rw [if_neg h0, if_neg hq, if_pos hno]
   exact Ends.ret (res_list (rs := [.cell 6 276, .tmp 7]) rfl ⟨_, _, rfl, rv_cellK [_, _, _] rfl rfl rfl ⟨rfl, rfl, rfl, trivial⟩, ⟨_, _, rfl, rv_tmp rfl, rfl⟩⟩ rfl) ⟨by rw [he], rfl⟩
  refine zq [50,51,54,26,0] ?_
  refine Ops.splitb (t := 67) rfl (fun h4 => ?_) (fun h4 => ?_)
  ·
   refine zq [13,13,13,13,13,24,2,5,18,3,4,23,14,1,2,5,10,12] ?_
   refine Ends.jump_ret ?_
   have hno : ¬ leads ws.length (page1 ws dir a) := by unfold leads; simp_all
   have he : pageM ws dir a = (.zero, 12) := by unfold pageM; rw [if_neg h0, if_neg hq, if_pos hno]
   exact Ends.ret (res_list (rs := [.cell 6 276, .tmp 7]) rfl ⟨_, _, rfl, rv_cellK [_, _, _] rfl rfl rfl ⟨rfl, rfl, rfl, trivial⟩, ⟨_, _, rfl, rv_tmp rfl, rfl⟩⟩ rfl) ⟨by rw [he], rfl⟩
  refine zq [21,50,51] ?_
  refine Ops.efg ⟨_, _, rfl, rfl, rfl⟩ (ef_callr (tr_wThere ws mb wb ws.length rfl hN (page1 ws dir a).1.at_) rfl rfl) ?_
  rintro _ _ ⟨rfl, rfl⟩
  refine Ops.pvg ⟨_, _, rfl, rfl, rfl⟩ (pv_not_dec rfl) rfl ?_
  refine zq [26,2,5] ?_
  refine Wp.cond_dect rfl (fun h5 => ?_) (fun h5 => ?_)
  ·
   refine zq [3,4,23,14,1,2,5,10,12] ?_
   refine Ends.jump_ret ?_
   have hno : ¬ leads ws.length (page1 ws dir a) := by unfold leads; simp_all
   have he : pageM ws dir a = (.zero, 12) := by unfold pageM; rw [if_neg h0, if_neg hq, if_pos hno]
   exact Ends.ret (res_list (rs := [.cell 6 276, .tmp 7]) rfl ⟨_, _, rfl, rv_cellK [_, _, _] rfl rfl rfl ⟨rfl, rfl, rfl, trivial⟩, ⟨_, _, rfl, rv_tmp rfl, rfl⟩⟩ rfl) ⟨by rw [he], rfl⟩
  have hl2 : leads ws.length (page1 ws dir a) := by unfold leads; simp_all
  refine zq [11,5,3,3,4,0,66,2,5,18,3,3,4,6,8,2,5] ?_
  refine Wp.cond_t rfl (fun h6 => ?_) (fun h6 => ?_)
  ·
   refine zq [3,4,23,14,1,2,5,10,12,12] ?_
   refine Ends.jump_ret ?_
   have he : pageM ws dir a = (.zero, 12) := by unfold pageM; rw [if_neg h0, if_neg hq, if_neg (not_not_intro hl2), if_pos (by assumption)]
   exact Ends.ret (res_list (rs := [.cell 6 276, .tmp 7]) rfl ⟨_, _, rfl, rv_cellK [_, _, _] rfl rfl rfl ⟨rfl, rfl, rfl, trivial⟩, ⟨_, _, rfl, rv_tmp rfl, rfl⟩⟩ rfl) ⟨by rw [he], rfl⟩
  have hwr : (page1 ws dir a).1.write = false := by assumption
  refine zq [11,5,3,4,6,8,1,1,2,5] ?_
  refine Wp.goto ?_
  refine Ends.then_goto ?_
  refine Ends.jump_goto ?_
  refine Goes.back (hJ (b2, b3) ⟨hl2, hwr, h0, hq⟩) ⟨rfl, rfl, rfl, rfl, rfl, rfl, trivial⟩
 rintro ⟨b2, b3⟩ ⟨hl1, hwr, h0, hq⟩
 dsimp only [List.cons_append, List.nil_append]
 have hsl := splitM_lt (a := a) (by omega)
 have hd2 := hl1.2
 unfold thereW at hd2
 refine zq [3,11,5,3,4,0,0,0] ?_
 refine Ops.pv ((by first | exact pv_indexAddrN (i := 0) (o2 := 0) rfl rfl rfl (by decide) (by rfl) | exact pv_indexAddrN (i := 1) (o2 := 1) rfl rfl rfl (by decide) (by rfl))) rfl ?_
 refine zq [8,52] ?_
 refine zC (tr_memGet ws mb wb ws.length ((page1 ws dir a).1.at_ + (splitM a).2.1) rfl hN) ?_
 refine zq [0,7,7,1,1,2,5,3,4,0] ?_
 refine zC ((tr_pUnpackI (memGet ws ((page1 ws dir a).1.at_ + (splitM a).2.1)).1 (hw.get _)).eq (r' := .tuple #[(page2 ws dir a).1.v, .int .i64 (page2 ws dir a).2]) rfl) ?_
 refine zq [0,7,7,14,1,2,5,3,3,4,0,27,0] ?_
 refine Ops.split (t := 62) rfl (fun h7 => ?_) (fun h7 => ?_)
 ·
  refine zq [13,13,13,24,0,13,13,13,13,13,24,2,5,18,3,4,23,14,1,2,5,10,12] ?_
  refine Ends.jump_ret ?_
  have hno : ¬ leads ws.length (page2 ws dir a) := by unfold leads; simp_all
  have he : pageM ws dir a = (.zero, 12) := by unfold pageM; rw [if_neg h0, if_neg hq, if_neg (not_not_intro hl1), if_neg (by simp [hwr]), if_pos hno]
  exact Ends.ret (res_list (rs := [.cell 6 276, .tmp 7]) rfl ⟨_, _, rfl, rv_cellK [_, _, _] rfl rfl rfl ⟨rfl, rfl, rfl, trivial⟩, ⟨_, _, rfl, rv_tmp rfl, rfl⟩⟩ rfl) ⟨by rw [he], rfl⟩
 refine zq [50,51,54,26,0] ?_
 refine Ops.splitb (t := 67) rfl (fun h8 => ?_) (fun h8 => ?_)
 ·
  refine zq [13,13,13,13,13,24,2,5,18,3,4,23,14,1,2,5,10,12] ?_
  refine Ends.jump_ret ?_
  have hno : ¬ leads ws.length (page2 ws dir a) := by unfold leads; simp_all
  have he : pageM ws dir a = (.zero, 12) := by unfold pageM; rw [if_neg h0, if_neg hq, if_neg (not_not_intro hl1), if_neg (by simp [hwr]), if_pos hno]
  exact Ends.ret (res_list (rs := [.cell 6 276, .tmp 7]) rfl ⟨_, _, rfl, rv_cellK [_, _, _] rfl rfl rfl ⟨rfl, rfl, rfl, trivial⟩, ⟨_, _, rfl, rv_tmp rfl, rfl⟩⟩ rfl) ⟨by rw [he], rfl⟩
 refine zq [21,50,51] ?_
 refine Ops.efg ⟨_, _, rfl, rfl, rfl⟩ (ef_callr (tr_wThere ws mb wb ws.length rfl hN (page2 ws dir a).1.at_) rfl rfl) ?_
 rintro _ _ ⟨rfl, rfl⟩
 refine Ops.pvg ⟨_, _, rfl, rfl, rfl⟩ (pv_not_dec rfl) rfl ?_
 refine zq [26,2,5] ?_
 refine Wp.cond_dect rfl (fun h9 => ?_) (fun h9 => ?_)
 ·
  refine zq [3,4,23,14,1,2,5,10,12] ?_
  refine Ends.jump_ret ?_
  have hno : ¬ leads ws.length (page2 ws dir a) := by unfold leads; simp_all
  have he : pageM ws dir a = (.zero, 12) := by unfold pageM; rw [if_neg h0, if_neg hq, if_neg (not_not_intro hl1), if_neg (by simp [hwr]), if_pos hno]
  exact Ends.ret (res_list (rs := [.cell 6 276, .tmp 7]) rfl ⟨_, _, rfl, rv_cellK [_, _, _] rfl rfl rfl ⟨rfl, rfl, rfl, trivial⟩, ⟨_, _, rfl, rv_tmp rfl, rfl⟩⟩ rfl) ⟨by rw [he], rfl⟩
 have hl2 : leads ws.length (page2 ws dir a) := by unfold leads; simp_all
 refine zq [11,5,3,3,4,0,65,2,5,17,11,5,3,4,29,14,1,2,5,10] ?_
 refine Ends.jump_ret ?_
 have he : pageM ws dir a = ((page2 ws dir a).1, 0) := by unfold pageM; rw [if_neg h0, if_neg hq, if_neg (not_not_intro hl1), if_neg (by simp [hwr]), if_neg (not_not_intro hl2)]
 exact Ends.ret (res_list (rs := [.cell 6 276, .tmp 7]) rfl ⟨_, _, rfl, rv_cellK [_, _, _] rfl rfl rfl ⟨rfl, rfl, rfl, trivial⟩, ⟨_, _, rfl, rv_tmp rfl, rfl⟩⟩ rfl) ⟨by rw [he], rfl⟩
end Go.Proofs.YtipncceiekalfaaGreat
end
section
set_option linter.unusedVariables false
set_option linter.unusedSimpArgs false
set_option linter.unusedSectionVars false
namespace Go.Proofs.YtipncceiekalfaaGreat
open Go.SL
theorem setL_mid {A B B' C : List Value} (h : B'.length = B.length) : SetL (A ++ (B ++ C)) A.length B' (A ++ (B' ++ C)) := by
 refine ⟨by simp [h], by simp; omega, fun j => ?_⟩
 by_cases h1 : j < A.length
 ·
  rw [if_neg (by omega), List.getElem?_append_left h1, List.getElem?_append_left h1]
 ·
  by_cases h2 : j - A.length < B.length
  ·
   rw [if_pos (by omega), List.getElem?_append_right (by omega), List.getElem?_append_left (by omega)]
  ·
   rw [if_neg (by omega), List.getElem?_append_right (by omega), List.getElem?_append_right (by omega), List.getElem?_append_right (by omega), List.getElem?_append_right (by omega), h]
section el
variable {α : Type} {f : α → List Value} {k : Nat}
theorem el_reads [he : Enc f k] {pre sp : List Value} {l : List α} {i : Nat} {a : α} (hi : l[i]? = some a) : Reads (pre ++ cel f l ++ sp) (pre.length + i * k) (f a) := by
 have h : Reads (pre ++ cel f l ++ sp) pre.length (cel f l) := reads_split
 exact cel_reads h hi
theorem el_set [he : Enc f k] {pre sp : List Value} {l : List α} {i : Nat} (a : α) (hi : i < l.length) : SetL (pre ++ cel f l ++ sp) (pre.length + i * k) (f a) (pre ++ cel f (l.set i a) ++ sp) := by
 have e1 : cel f l = cel f (l.take i) ++ (f l[i] ++ cel f (l.drop (i + 1))) := by
  have hd := List.drop_eq_getElem_cons hi
  rw [← cel_cons, ← cel_app, ← hd, List.take_append_drop]
 have e2 : cel f (l.set i a) = cel f (l.take i) ++ (f a ++ cel f (l.drop (i + 1))) := by
  rw [List.set_eq_take_append_cons_drop, if_pos hi, cel_app, cel_cons]
 have e3 : (cel f (l.take i)).length = i * k := by rw [cel_len, List.length_take, Nat.min_eq_left (by omega)]
 have hm := setL_mid (A := pre ++ cel f (l.take i)) (B := f l[i]) (B' := f a) (C := cel f (l.drop (i + 1)) ++ sp) (by rw [he.len, he.len])
 rw [List.length_append, e3] at hm
 rw [e1, e2]
 simpa only [List.append_assoc] using hm
theorem slc_open {T : TypeId} {sz n : Nat} {v : Value} {cs : List Value} {H : Hp} (h : Slc T sz v n cs H) (hn : 0 < n) :
    ∃ b pre sp cap, v = .slice (some ⟨b, pre.length, none⟩) n cap ∧ n ≤ cap ∧ (cap - n) * sz ≤ sp.length ∧ H = [(b, .cells (pre ++ cs ++ sp : List Value).toArray T)] := by
  rcases h.2 with ⟨_, h0, _⟩ | h
  · omega
  · exact h
theorem del_cells [he : Enc f k] {pre sp Z : List Value} {m : List α} {i n : Nat} (hm : m.length = n) (hi : i ≤ n) : (pre ++ cel f m ++ sp).take (pre.length + i * k) ++ Z ++ (pre ++ cel f m ++ sp).drop (pre.length + i * k + (n - i) * k) = pre ++ cel f (m.take i) ++ (Z ++ sp) := by
 have h1 : i * k + (n - i) * k = n * k := by rw [← Nat.add_mul]; congr 1; omega
 have h2 : (cel f m).length = n * k := by rw [cel_len, hm]
 have h3 : i * k ≤ n * k := Nat.mul_le_mul_right _ hi
 rw [Nat.add_assoc, h1, List.append_assoc pre, List.take_append, List.drop_append, List.take_of_length_le (by omega), List.drop_of_length_le (by omega), show pre.length + i * k - pre.length = i * k by omega, show pre.length + n * k - pre.length = n * k by omega,
  List.take_append_of_le_length (by omega), cel_take, List.drop_append_of_le_length (by omega), List.drop_of_length_le (by omega)]
 simp
end el
section idx
variable {α : Type} (p : α → Bool)
def idxP : List α → Int
  | [] => -1
  | a :: l => if p a then 0 else if idxP l < 0 then -1 else idxP l + 1
theorem idxP_hit : ∀ {l : List α} {i : Nat} {a : α}, l[i]? = some a → p a = true → (∀ (j : Nat) (b : α), j < i → l[j]? = some b → p b = false) → idxP p l = i
  | [], i, a, h, _, _ => by simp at h
  | b :: l, 0, a, h, hp, _ => by simp at h; subst h; simp [idxP, hp]
  | b :: l, i + 1, a, h, hp, hn => by
    have h0 : p b = false := hn 0 b (by omega) rfl
    have ih := idxP_hit (l := l) (i := i) (by simpa using h) hp (fun j c hj hc => hn (j + 1) c (by omega) (by simpa using hc))
    rw [idxP, h0, ih]
    simp only [Bool.false_eq_true, if_false]
    rw [if_neg (by omega)]; push_cast; rfl
theorem idxP_miss : ∀ {l : List α}, (∀ (j : Nat) (b : α), l[j]? = some b → p b = false) → idxP p l = -1
  | [], _ => rfl
  | b :: l, hn => by
    have h0 : p b = false := hn 0 b rfl
    have ih := idxP_miss (l := l) (fun j c hc => hn (j + 1) c (by simpa using hc))
    rw [idxP, h0, ih]; rfl
theorem idxP_cases (l : List α) : (idxP p l = -1 ∧ ∀ a, a ∈ l → p a = false) ∨ ∃ (i : Nat) (a : α), idxP p l = (i : Nat) ∧ l[i]? = some a ∧ p a = true ∧ ∀ (j : Nat) (b : α), j < i → l[j]? = some b → p b = false := by
 induction l with
 | nil => exact .inl ⟨rfl, fun a h => by cases h⟩
 | cons b l ih =>
  cases hb : p b with
  | true => exact .inr ⟨0, b, by simp [idxP, hb], rfl, hb, fun j c hj => by omega⟩
  | false =>
   rcases ih with ⟨h1, h2⟩ | ⟨i, a, h1, h2, h3, h4⟩
   ·
    exact .inl ⟨by simp [idxP, hb, h1], fun a ha => by rcases List.mem_cons.1 ha with rfl | ha; exact hb; exact h2 a ha⟩
   ·
    refine .inr ⟨i + 1, a, ?_, by simpa using h2, h3, fun j c hj hc => ?_⟩
    ·
     rw [idxP, hb, h1]
     simp only [Bool.false_eq_true, if_false]
     rw [if_neg (by omega)]; push_cast; rfl
    ·
     cases j with
     | zero => simp at hc; subst hc; exact hb
     | succ j => exact h4 j c (by omega) (by simpa using hc)
theorem find_idx {l : List α} {i : Nat} {a : α} (h : l[i]? = some a) (hp : p a = true) (hn : ∀ (j : Nat) (b : α), j < i → l[j]? = some b → p b = false) : l.find? p = some a := by
 induction l generalizing i with
 | nil => simp at h
 | cons b l ih =>
  cases i with
  | zero => simp at h; subst h; rw [List.find?_cons, hp]
  | succ i => rw [List.find?_cons, hn 0 b (by omega) rfl]; exact ih (by simpa using h) (fun j c hj hc => hn (j + 1) c (by omega) (by simpa using hc))
structure DelI (l m : List α) (i j : Nat) : Prop where
  le : i < j
  len : m.length = l.length
  take : m.take i = (l.take j).filter fun x => !p x
  drop : m.drop j = l.drop j
theorem DelI.start {l : List α} {i : Nat} {a : α} (h : l[i]? = some a) (hp : p a = true) (hn : ∀ (j : Nat) (b : α), j < i → l[j]? = some b → p b = false) : DelI p l l i (i + 1) := by
 refine ⟨by omega, rfl, ?_, rfl⟩
 rw [List.take_add_one, h, List.filter_append]
 have h1 : (l.take i).filter (fun x => !p x) = l.take i := by
  rw [List.filter_eq_self]
  intro x hx
  obtain ⟨j, hj⟩ := List.mem_iff_getElem?.1 hx
  have hlt : j < i := by have := (List.getElem?_eq_some_iff.1 hj).1; rw [List.length_take] at this; omega
  rw [List.getElem?_take_of_lt hlt] at hj
  rw [hn j x hlt hj]; rfl
 rw [h1]; simp [hp]
theorem DelI.get {l m : List α} {i j : Nat} (h : DelI p l m i j) {a : α} (hj : l[j]? = some a) : m[j]? = some a := by
 have h1 : (m.drop j)[0]? = (l.drop j)[0]? := by rw [h.drop]
 simpa [hj] using h1
theorem DelI.skip {l m : List α} {i j : Nat} (h : DelI p l m i j) {a : α} (hj : l[j]? = some a) (hp : p a = true) : DelI p l m i (j + 1) := by
 refine ⟨by have := h.le; omega, h.len, ?_, ?_⟩
 ·
  rw [List.take_add_one, hj, List.filter_append, h.take]; simp [hp]
 ·
  rw [← List.drop_drop, ← List.drop_drop, h.drop]
theorem DelI.keep {l m : List α} {i j : Nat} (h : DelI p l m i j) {a : α} (hj : l[j]? = some a) (hp : p a = false) : DelI p l (m.set i a) (i + 1) (j + 1) := by
 have hl := h.len
 have hle := h.le
 have hlt := (List.getElem?_eq_some_iff.1 hj).1
 refine ⟨by omega, by simp [hl], ?_, ?_⟩
 ·
  rw [List.take_add_one, List.take_add_one, hj, List.filter_append, ← h.take, List.take_set_of_le (by omega), List.getElem?_set_self (by omega)]
  simp [hp]
 ·
  rw [List.drop_set_of_lt (by omega), ← List.drop_drop, ← List.drop_drop, h.drop]
theorem DelI.fin {l m : List α} {i j : Nat} (h : DelI p l m i j) (hj : j = l.length) : m.take i = l.filter fun x => !p x := by rw [h.take, hj, List.take_length]
end idx
theorem slc_del {T b cp i n : Nat} {pre sp Z : List Value} {m : List KeptM} {l : List KeptM} (hf : m.take i = l) (hm : m.length = n) (hi : i ≤ n) (hc : (cp - n) * 5 ≤ sp.length) (hz : Z.length = (n - i) * 5) (hcp : n ≤ cp) :
    Slc T 5 (.slice (some ⟨b, pre.length, none⟩) i cp) l.length (cel keptC l) [(b, .cells (pre ++ cel keptC (m.take i) ++ (Z ++ sp)).toArray T)] := by
  have hl : l.length = i := by rw [← hf, List.length_take]; omega
  refine ⟨cel_len (f := keptC) (k := 5) l, .inr ⟨b, pre, Z ++ sp, cp, by rw [hl], by omega, ?_, by rw [hf]⟩⟩
  rw [List.length_append, hz, hl]
  have : (cp - i) * 5 = (n - i) * 5 + (cp - n) * 5 := by rw [← Nat.add_mul]; congr 1; omega
  omega
end Go.Proofs.YtipncceiekalfaaGreat
end
section
set_option linter.unusedVariables false
set_option linter.unusedSimpArgs false
set_option linter.unusedSectionVars false
namespace Go.Proofs.YtipncceiekalfaaGreat
open Go.SL
abbrev KeptM.v (x : KeptM) : Value := .agg #[.int .i64 x.sp, .int .i64 x.pg, .bool x.e.valid, .bool x.e.write, .int .i64 x.e.at_]
abbrev tlbP (tb : Nat) : Value := .pointer (some ⟨tb, 0, none⟩)
def TlbH (l : List KeptM) (tb : Nat) (L : Hp) : Prop := ∃ v H, Slc 278 5 v l.length (cel keptC l) H ∧ L = (tb, .cells [v].toArray 212) :: H
theorem tr_kRight (sp pg : Int) : TrR Tryz.prog 175 [.agg #[.int .i64 sp, .int .i64 pg]] ([]) (.bool (decide (keyOk sp pg))) := by
 refine Tr.enter Tryz.func175 rfl Tryz.ntmps175 rfl (fun W F => ?_)
 refine Wp.app ?_
 refine Wr ?_
 refine zB fun b1 => ?_
 refine zq [1,2,5,3,4,6,8,43,0] ?_
 refine Ops.pvc rfl rfl (fun hg => pv_fieldAddr0 rfl rfl) rfl ?_
 refine Ops.pvc rfl rfl (fun hg => Pv.setE (t := 7) rfl (cv_pos hg) (pv_load rfl rfl rfl)) rfl ?_
 refine Ops.pvc rfl rfl (fun hg => Pv.setE (t := 7) rfl (cv_pos hg) (Pv.setE (t := 8) rfl (cv_pos hg) (pv_lss rfl rfl))) rfl ?_
 refine zq [46,0] ?_
 refine Ops.pvc rfl rfl (fun hg => pv_fieldAddr0 rfl rfl) rfl ?_
 refine Ops.pvc rfl rfl (fun hg => Pv.setE (t := 12) rfl (cv_pos hg) (pv_load rfl rfl rfl)) rfl ?_
 refine Ops.pvc rfl rfl (fun hg => Pv.setE (t := 12) rfl (cv_pos hg) (Pv.setE (t := 13) rfl (cv_pos hg) (pv_geq rfl rfl))) rfl ?_
 refine zq [46,0] ?_
 refine Ops.pvc rfl rfl (fun hg => pv_fieldAddr0 rfl rfl) rfl ?_
 refine Ops.pvc rfl rfl (fun hg => Pv.setE (t := 17) rfl (cv_pos hg) (pv_load rfl rfl rfl)) rfl ?_
 refine Ops.pvc rfl rfl (fun hg => Pv.setE (t := 17) rfl (cv_pos hg) (Pv.setE (t := 18) rfl (cv_pos hg) (pv_lss rfl rfl))) rfl ?_
 refine zq [46,1,2,5,10] ?_
 exact zr ⟨rfl, rfl⟩
set_option maxHeartbeats 2000000 in
theorem tr_kIndex (fn : Nat) [hG : GoFn Tryz.prog fn] (cap : List Value) (Hc : Hp) (p : KeptM → Bool) (hf : ∀ x : KeptM, TrR Tryz.prog fn (x.v :: cap) Hc (.bool (p x))) (v : Value) (H : Hp) (l : List KeptM) (hs : Slc 278 5 v l.length (cel keptC l) H) (hl : l.length ≤ 2 ^ 20) : TrR Tryz.prog 200 [v, .func (.func fn) #[] cap.toArray] (H ++ Hc) (.int .i64 (idxP p l)) := by
 obtain ⟨sa, sc, rfl⟩ := hs.form
 refine Tr.enter Tryz.func200 rfl Tryz.ntmps200 rfl (fun W F => ?_)
 refine Wp.app ?_
 refine zq [3,4,1,2,5,3,3,4,0] ?_
 refine Ops.pv (pv_len_slice (T := 210) rfl rfl) rfl ?_
 refine zq [0,2,5,20] ?_
 refine Wp.loopK (σ := Nat) [(0, _), (1, _), (7, _)] (fun s => [(8, .int .i64 s)]) (fun s => H ++ (Hc ++ F)) (fun s => s ≤ l.length ∧ ∀ (j : Nat) (b : KeptM), j < s → l[j]? = some b → p b = false) (fun s => l.length - s) 0 ⟨Nat.zero_le _, fun j b h => absurd h (Nat.not_lt_zero j)⟩ ⟨rfl, rfl, rfl, trivial⟩ ⟨rfl, trivial⟩ (by intro w ho; (try dsimp only [List.nil_append, List.cons_append]); exact Drop.own ho) ?_
 rintro i KK hI hK
 dsimp only [List.cons_append, List.nil_append] at hK ⊢
 refine zq [3,4,42,2,5,3] ?_
 refine Wp.cond_dect rfl (fun h1 => ?_) (fun h1 => ?_)
 ·
  obtain ⟨a, ha⟩ : ∃ a, l[i]? = some a := ⟨_, List.getElem?_eq_getElem (by omega)⟩
  obtain ⟨b, pre, sp2, cp, hv, hc1, hc2, rfl⟩ := slc_open hs (by omega)
  cases hv
  refine zq [11,5,3,20,3,4,0,1,2,5,3,4,0,0,0] ?_
  refine Ops.pv (pv_indexAddr (i := i) rfl rfl rfl (by omega)) rfl ?_
  refine Ops.pv (pv_loadK a.cells rfl rfl rfl (el_reads (f := keptC) ha)) rfl ?_
  refine Ops.ef rfl (ef_callf rfl rfl (hf a) rfl) ?_
  rintro _ _ ⟨_, _, ⟨rfl, rfl⟩, rfl, rfl⟩
  refine Ops.app ?_
  refine On ?_
  refine Wp.cond_t rfl (fun h2 => ?_) (fun h2 => ?_)
  ·
   have he : idxP p l = i := idxP_hit p ha (by assumption) hI.2
   refine zq [3,4,0,1,2,5,10,15,12,12,15,12] ?_
   exact Ends.ret (res1 rfl rfl) ⟨by rw [he], rfl⟩
  have hpa : p a = false := by assumption
  refine zq [11,19,5,4] ?_
  refine Ops.pv (pv_add rfl rfl (w64n (k := i + 1) (by omega) (by omega))) rfl ?_
  refine zq [0,2,49] ?_
  refine Goes.back (hK (i + 1) ⟨by omega, fun j b hj hb => (Nat.lt_or_ge j i).elim (fun h => hI.2 j b h hb) (fun h => by rw [show j = i by omega, ha] at hb; cases hb; exact hpa)⟩ (by omega)) ⟨rfl, rfl, rfl, rfl, trivial⟩
 have he : idxP p l = -1 := idxP_miss p (fun j b hb => hI.2 j b (by have := (List.getElem?_eq_some_iff.1 hb).1; omega) hb)
 refine zq [41,16,16,40,5,3,4,1,2,5,10] ?_
 exact Ends.ret (res1 rfl rfl) ⟨by rw [he], rfl⟩
set_option maxHeartbeats 4000000 in
theorem tr_kDelete (fn : Nat) [hG : GoFn Tryz.prog fn] (cap : List Value) (Hc : Hp) (p : KeptM → Bool) (hf : ∀ x : KeptM, TrR Tryz.prog fn (x.v :: cap) Hc (.bool (p x))) (v : Value) (H : Hp) (l : List KeptM) (hs : Slc 278 5 v l.length (cel keptC l) H) (hl : l.length ≤ 2 ^ 20) : Tr Tryz.prog 153 [v, .func (.func fn) #[] cap.toArray] (H ++ Hc) (fun u L' => ∃ H', Slc 278 5 u (l.filter fun x => !p x).length (cel keptC (l.filter fun x => !p x)) H' ∧ L' = H' ++ Hc) := by
 have hs0 := hs
 obtain ⟨sa, sc, rfl⟩ := hs.form
 refine Tr.enter Tryz.func153 rfl Tryz.ntmps153 rfl (fun W F => ?_)
 refine Wp.app ?_
 refine zq [3,4,1,2,5,3,4,0,0] ?_
 refine zC (tr_kIndex fn cap Hc p hf _ H l hs hl) ?_
 refine zq [1,2,5,3,3,4,0,22,2,5] ?_
 refine Wp.cond_dect rfl (fun h1 => ?_) (fun h1 => ?_)
 ·
  have hall := ((idxP_cases p l).resolve_right (by rintro ⟨i0, a0, h1, _⟩; omega)).2
  have hfe : (l.filter fun x => !p x) = l := List.filter_eq_self.2 (fun x hx => by rw [hall x hx]; rfl)
  refine zq [3,4,0,1,2,5,10,12] ?_
  exact Ends.ret (L' := H ++ Hc) (res1 rfl rfl) ⟨H, by rw [hfe]; exact hs0, rfl⟩
 obtain ⟨i0, a0, hi0, ha0, hp0, hn0⟩ := (idxP_cases p l).resolve_left (fun h => absurd h.1 (by assumption))
 rw [hi0]
 have hlt0 := (List.getElem?_eq_some_iff.1 ha0).1
 obtain ⟨b, pre, sp2, cp, hv, hc1, hc2, rfl⟩ := slc_open hs (by omega)
 cases hv
 refine zq [11,5,3,3,4,0] ?_
 refine Ops.pv (pv_add rfl rfl (w64n (k := i0 + 1) (by omega) (by omega))) rfl ?_
 refine zq [1,2,5,20] ?_
 refine Wp.loopK (σ := Nat × Nat × List KeptM) [(0, _), (1, _)] (fun s => [(5, .int .i64 s.1), (6, .int .i64 s.2.1)]) (fun s => (b, .cells (pre ++ cel keptC s.2.2 ++ sp2).toArray 278) :: (Hc ++ F)) (fun s => s.2.1 ≤ l.length ∧ DelI p l s.2.2 s.1 s.2.1) (fun s => l.length - s.2.1) (i0, i0 + 1, l) ⟨by dsimp only; omega, DelI.start p ha0 hp0 hn0⟩ ⟨rfl, rfl, trivial⟩ ⟨rfl, rfl, trivial⟩ (by intro w ho; (try dsimp only [List.nil_append, List.cons_append]); exact Drop.own ho) ?_
 rintro ⟨i, j, m⟩ KK ⟨hj, hI⟩ hK
 dsimp only [List.cons_append, List.nil_append] at hK ⊢
 dsimp only at hj hI ⊢
 refine zq [3,3,4,0,0] ?_
 refine Ops.pv (pv_len_slice (T := 210) rfl rfl) rfl ?_
 refine zq [42,2,5] ?_
 refine Wp.cond_dect rfl (fun h2 => ?_) (fun h2 => ?_)
 ·
  obtain ⟨a, ha⟩ : ∃ a, l[j]? = some a := ⟨_, List.getElem?_eq_getElem (by omega)⟩
  have hm := hI.get p ha
  have hle := hI.le
  have hlen := hI.len
  refine zq [11,5,3,20,3,4,0,0] ?_
  refine Ops.pv (pv_indexAddr (i := j) rfl rfl rfl (by omega)) rfl ?_
  refine Ops.pv (pv_loadK a.cells rfl rfl rfl (el_reads (f := keptC) hm)) rfl ?_
  refine zA fun b1 => ?_
  refine zq [14,2,5,3,4,0,35] ?_
  refine Ops.ef rfl (ef_callf rfl rfl (hf a) rfl) ?_
  rintro _ _ ⟨_, _, ⟨rfl, rfl⟩, rfl, rfl⟩
  refine Ops.app ?_
  refine zq [39,2,5] ?_
  refine Wp.cond_t rfl (fun h3 => ?_) (fun h3 => ?_)
  ·
   have hpa : p a = false := by simpa using ‹(!p a) = true›
   have hset : SetL _ _ a.cells _ := el_set (f := keptC) (k := 5) (pre := pre) (sp := sp2) (l := m) (i := i) a (by omega)
   refine zq [3,4,0,0,35] ?_
   refine Ops.pv (pv_indexAddr (i := i) rfl rfl rfl (by omega)) rfl ?_
   refine zq [14,2,5,4,0] ?_
   refine Ops.pv (pv_add rfl rfl (w64n (k := i + 1) (by omega) (by omega))) rfl ?_
   refine zq [1,2,19,5,4,0] ?_
   refine Ops.pv (pv_add rfl rfl (w64n (k := j + 1) (by omega) (by omega))) rfl ?_
   refine zq [1,2,49] ?_
   refine Goes.back (hK (i + 1, j + 1, m.set i a) ⟨by dsimp only; omega, hI.keep p ha hpa⟩ (by dsimp only; omega)) ⟨rfl, rfl, rfl, rfl, trivial⟩
  have hpa : p a = true := by simpa using ‹(!p a) = false›
  refine zq [11,19,5,4,0] ?_
  refine Ops.pv (pv_add rfl rfl (w64n (k := j + 1) (by omega) (by omega))) rfl ?_
  refine zq [1,2,49] ?_
  refine Goes.back (hK (i, j + 1, m) ⟨by dsimp only; omega, hI.skip p ha hpa⟩ (by dsimp only; omega)) ⟨rfl, rfl, rfl, rfl, trivial⟩
 obtain rfl : j = l.length := by omega
 have hle := hI.le
 have hlen := hI.len
 have hfin := hI.fin p rfl
 refine zq [41,16,16,40,5,3,4,0,0] ?_
 refine Ops.pv ((pv_slice (i := i) (j := l.length) rfl (by exact ⟨_, rfl⟩) (by exact rfl) (by omega) (by omega)).is (u := .slice (some ⟨b, pre.length + i * 5, none⟩) (l.length - i) (sc - i)) (by rw [if_neg (by omega)]; simp [addr_add])) rfl ?_
 refine Ops.ef rfl (ef_clearK (T := 210) (k := 5) (zs := keptZ.cells) rfl (by omega) rfl rfl rfl rfl (by simp [cel_len (f := keptC) (k := 5)]; omega)) ?_
 rintro _ _ ⟨rfl, rfl⟩
 rw [del_cells (f := keptC) (k := 5) hlen (by omega)]
 refine zq [2,5,3,4,0,0] ?_
 refine Ops.pv (pv_sliceTo (j := i) rfl (by exact ⟨_, rfl⟩) (by omega)) rfl ?_
 refine zq [1,2,5,10] ?_
 exact Ends.ret (L' := (b, .cells (pre ++ cel keptC (m.take i) ++ ((List.replicate (l.length - i) keptZ.cells).flatten ++ sp2)).toArray 278) :: Hc) (res1 rfl rfl) ⟨_, slc_del hfin hlen (by omega) hc2 (by simp) hc1, rfl⟩
def tlbE (l : List KeptM) (sp pg : Int) : PteM := ((tlbGet l sp pg).map (·.e)).getD .zero
def tlbB (l : List KeptM) (sp pg : Int) : Bool := (tlbGet l sp pg).isSome
theorem key_kind (a b : Int) : KindV [some .i64, some .i64] [Value.int .i64 a, .int .i64 b] := kind_i (kind_i trivial)
theorem tr_kGet1 (sp pg : Int) (sa sb : Nat) (x : KeptM) : TrR Tryz.prog 211 [x.v, .pointer (some ⟨sa, 0, none⟩), .pointer (some ⟨sb, 0, none⟩)] ((sa, .cells [.int .i64 sp].toArray 3) :: (sb, .cells [.int .i64 pg].toArray 3) :: []) (.bool (keyP sp pg x)) := by
 refine Tr.enter Tryz.func211 rfl Tryz.ntmps211 rfl (fun W F => ?_)
 refine Wp.app ?_
 refine Wr ?_
 refine zB fun b1 => ?_
 refine zq [1,2,5,3,4,6,30,8,8,23] ?_
 refine Ops.pv (pv_eqlF (x.sp = sp ∧ x.pg = pg) (xs := [.int .i64 x.sp, .int .i64 x.pg]) (ys := [.int .i64 sp, .int .i64 pg]) rfl rfl (key_kind _ _) (key_kind _ _) (by simp) (by decide) (by kernel_rfl)) rfl ?_
 refine zq [1,2,5,10] ?_
 exact zr ⟨rfl, rfl⟩
theorem tr_kDrop1 (sp pg : Int) (sa sb : Nat) (x : KeptM) : TrR Tryz.prog 154 [x.v, .pointer (some ⟨sa, 0, none⟩), .pointer (some ⟨sb, 0, none⟩)] ((sa, .cells [.int .i64 sp].toArray 3) :: (sb, .cells [.int .i64 pg].toArray 3) :: []) (.bool (keyP sp pg x)) := by
 refine Tr.enter Tryz.func154 rfl Tryz.ntmps154 rfl (fun W F => ?_)
 refine Wp.app ?_
 refine Wr ?_
 refine zB fun b1 => ?_
 refine zq [1,2,5,3,4,6,30,8,8,23] ?_
 refine Ops.pv (pv_eqlF (x.sp = sp ∧ x.pg = pg) (xs := [.int .i64 x.sp, .int .i64 x.pg]) (ys := [.int .i64 sp, .int .i64 pg]) rfl rfl (key_kind _ _) (key_kind _ _) (by simp) (by decide) (by kernel_rfl)) rfl ?_
 refine zq [1,2,5,10] ?_
 exact zr ⟨rfl, rfl⟩
set_option maxHeartbeats 2000000 in
theorem tr_kGet (l : List KeptM) (tb : Nat) (L : Hp) (hT : TlbH l tb L) (hl : l.length ≤ 2 ^ 20) (sp pg : Int) : TrR Tryz.prog 176 [tlbP tb, .int .i64 sp, .int .i64 pg] (L) (.tuple #[(tlbE l sp pg).v, .bool (tlbB l sp pg)]) := by
 obtain ⟨v, H, hs, rfl⟩ := hT
 have hs0 := hs
 obtain ⟨sa, sc, rfl⟩ := hs.form
 refine Tr.enter Tryz.func176 rfl Tryz.ntmps176 rfl (fun W F => ?_)
 refine Wp.app ?_
 refine Wr ?_
 refine Ops.ef rfl (ef_box1 rfl rfl rfl) ?_
 rintro _ _ ⟨b1, rfl, rfl⟩
 refine Ops.ef rfl (ef_box1 rfl rfl rfl) ?_
 rintro _ _ ⟨b2, rfl, rfl⟩
 refine zA fun b3 => ?_
 refine zq [1,2,5,3,4,0,9,6,8,73] ?_
 refine zC (tr_kIndex 211 [.pointer (some ⟨b1, 0, none⟩), .pointer (some ⟨b2, 0, none⟩)] ((b1, .cells [.int .i64 sp].toArray 3) :: (b2, .cells [.int .i64 pg].toArray 3) :: []) (keyP sp pg) (fun x => tr_kGet1 sp pg b1 b2 x) _ H l hs hl) ?_
 refine zq [1,2,5,3,3,4,0,42,2,5] ?_
 refine Wp.cond_dect rfl (fun h1 => ?_) (fun h1 => ?_)
 ·
  have hnn : tlbGet l sp pg = none := by
   rcases idxP_cases (keyP sp pg) l with ⟨h1, h2⟩ | ⟨i, a, h1, _⟩
   ·
    exact List.find?_eq_none.2 (fun x hx => by rw [h2 x hx]; simp)
   ·
    omega
  refine zq [3,4,23,14,1,2,5,10,12] ?_
  exact Ends.ret (res_list (rs := [.cell 6 276, .tmp 7]) rfl ⟨_, _, rfl, rv_cellK [_, _, _] rfl rfl rfl ⟨rfl, rfl, rfl, trivial⟩, ⟨_, _, rfl, rv_tmp rfl, rfl⟩⟩ rfl) ⟨by rw [tlbE, tlbB, hnn] <;> rfl, rfl⟩
 obtain ⟨i, a, hi, ha, hp, hn⟩ := (idxP_cases (keyP sp pg) l).resolve_left (fun h => by omega)
 have hsome : tlbGet l sp pg = some a := find_idx _ ha hp hn
 rw [hi]
 have hlt := (List.getElem?_eq_some_iff.1 ha).1
 obtain ⟨b, pre, sp2, cp, hv, hc1, hc2, rfl⟩ := slc_open hs (by omega)
 cases hv
 refine zq [11,5,3,4,0,9,6,8,0] ?_
 refine Ops.pv (pv_indexAddr (i := i) rfl rfl rfl (by omega)) rfl ?_
 refine zq [61] ?_
 refine Ops.pv (pv_loadK [.bool a.e.valid, .bool a.e.write, .int .i64 a.e.at_] rfl rfl rfl (el_reads (f := keptC) (k := 5) (pre := pre) (sp := sp2) ha).2.2) rfl ?_
 refine zq [14,1,2,5,10] ?_
 exact Ends.ret (res_list (rs := [.cell 6 276, .tmp 7]) rfl ⟨_, _, rfl, rv_cellK [_, _, _] rfl rfl rfl ⟨rfl, rfl, rfl, trivial⟩, ⟨_, _, rfl, rv_tmp rfl, rfl⟩⟩ rfl) ⟨by rw [tlbE, tlbB, hsome] <;> rfl, rfl⟩
set_option maxHeartbeats 2000000 in
theorem tr_kDrop (l : List KeptM) (tb : Nat) (L : Hp) (hT : TlbH l tb L) (hl : l.length ≤ 2 ^ 20) (sp pg : Int) : Tr Tryz.prog 98 [tlbP tb, .int .i64 sp, .int .i64 pg] (L) (fun u L' => u = .tuple #[] ∧ TlbH (tlbDrop l sp pg) tb L') := by
 obtain ⟨v, H, hs, rfl⟩ := hT
 have hs0 := hs
 obtain ⟨sa, sc, rfl⟩ := hs.form
 refine Tr.enter Tryz.func98 rfl Tryz.ntmps98 rfl (fun W F => ?_)
 refine Wp.app ?_
 refine Wr ?_
 refine Ops.ef rfl (ef_box1 rfl rfl rfl) ?_
 rintro _ _ ⟨b1, rfl, rfl⟩
 refine Ops.ef rfl (ef_box1 rfl rfl rfl) ?_
 rintro _ _ ⟨b2, rfl, rfl⟩
 refine zq [2,5,4,0,0,9,6,8,73] ?_
 refine zD (tr_kDelete 154 [.pointer (some ⟨b1, 0, none⟩), .pointer (some ⟨b2, 0, none⟩)] ((b1, .cells [.int .i64 sp].toArray 3) :: (b2, .cells [.int .i64 pg].toArray 3) :: []) (keyP sp pg) (fun x => tr_kDrop1 sp pg b1 b2 x) _ H l hs hl) ?_
 rintro _ _ ⟨K1, hk1, rfl⟩
 refine Ops.app ?_
 have hk0 := hk1
 obtain ⟨ka1, kc1, rfl⟩ := hk1.form
 refine zq [9,6,25,2] ?_
 exact zf (L' := (tb, .cells [.slice ka1 (l.filter fun x => !keyP sp pg x).length kc1].toArray 212) :: K1) ⟨rfl, _, K1, hk0, rfl⟩
def fillE (sp pg : Int) (e : PteM) : Int := if ¬ keyOk sp pg then 1 else if packE e ≠ 0 ∨ e.valid = false then 10 else 0
def fillS (l : List KeptM) (sp pg : Int) (e : PteM) : List KeptM := if fillE sp pg e = 0 then fillL l sp pg e else l
theorem fillL_room {l : List KeptM} {sp pg : Int} {e : PteM} (h : (tlbDrop l sp pg).length < 8) : fillL l sp pg e = tlbDrop l sp pg ++ [⟨sp, pg, e⟩] := by
 unfold fillL
 dsimp only
 rw [if_neg (by rw [List.length_append, List.length_singleton]; omega)]
theorem kept_snoc {v : Value} {m : List KeptM} {H : Hp} {sp pg : Int} {e : PteM} (h : Slc 278 5 v (m.length + 1) (cel keptC m ++ [.int .i64 sp, .int .i64 pg, .bool e.valid, .bool e.write, .int .i64 e.at_]) H) : Slc 278 5 v (m ++ [(⟨sp, pg, e⟩ : KeptM)]).length (cel keptC (m ++ [⟨sp, pg, e⟩])) H := by
 rw [cel_app, cel_one1, List.length_append]; exact h
set_option maxHeartbeats 4000000 in
theorem tr_kFill (l : List KeptM) (tb : Nat) (L : Hp) (hT : TlbH l tb L) (hl : l.length ≤ 2 ^ 20) (sp pg : Int) (e : PteM) (hr : (tlbDrop l sp pg).length < 8) : Tr Tryz.prog 178 [tlbP tb, .int .i64 sp, .int .i64 pg, e.v] (L) (fun u L' => u = .int .i64 (fillE sp pg e) ∧ TlbH (fillS l sp pg e) tb L') := by
 refine Tr.enter Tryz.func178 rfl Tryz.ntmps178 rfl (fun W F => ?_)
 refine Wp.app ?_
 refine Wr ?_
 refine zB fun b1 => ?_
 refine zq [1,2,5,3,4,0,0,23] ?_
 refine zA fun b2 => ?_
 refine zq [14,2,5,3,3,4,30] ?_
 refine zC (tr_kRight sp pg) ?_
 refine zq [55,2,5] ?_
 refine Wp.cond_dect rfl (fun h1 => ?_) (fun h1 => ?_)
 ·
  have he : fillE sp pg e = 1 := if_pos (by simp_all)
  have he2 : fillS l sp pg e = l := if_neg (by rw [he]; decide)
  refine zq [3,4,1,2,5,10,12] ?_
  exact Ends.ret (L' := L) (res1 rfl rfl) ⟨by rw [he], by rw [he2]; exact hT⟩
 have hk : ¬ ¬ keyOk sp pg := by simp_all
 refine zq [11,5,3,3,4,29] ?_
 refine zC (tr_pPack e) ?_
 refine zq [0,7,7,1,1,2,5,3,4,0,27,0] ?_
 refine Ops.split (t := 25) rfl (fun h2 => ?_) (fun h2 => ?_)
 ·
  refine zq [13,13,13,24,2,5,18,3,4,1,2,5,10,12] ?_
  have he : fillE sp pg e = 10 := (if_neg hk).trans (if_pos (by simp_all))
  have he2 : fillS l sp pg e = l := if_neg (by rw [he]; decide)
  exact Ends.ret (L' := L) (res1 rfl rfl) ⟨by rw [he], by rw [he2]; exact hT⟩
 refine zq [50,51,54,26,2,5] ?_
 refine Wp.cond_t rfl (fun h3 => ?_) (fun h3 => ?_)
 ·
  refine zq [3,4,1,2,5,10,12] ?_
  have he : fillE sp pg e = 10 := (if_neg hk).trans (if_pos (by simp_all))
  have he2 : fillS l sp pg e = l := if_neg (by rw [he]; decide)
  exact Ends.ret (L' := L) (res1 rfl rfl) ⟨by rw [he], by rw [he2]; exact hT⟩
 have he : fillE sp pg e = 0 := (if_neg hk).trans (if_neg (by simp_all))
 have he2 : fillS l sp pg e = tlbDrop l sp pg ++ [⟨sp, pg, e⟩] := (if_pos he).trans (fillL_room hr)
 refine zq [11,5,3,4,0,0,0] ?_
 refine zD (tr_kDrop l tb L hT hl sp pg) ?_
 rintro _ _ ⟨rfl, hD1⟩
 refine Ops.app ?_
 obtain ⟨v1, H1, hs1, rfl⟩ := hD1
 obtain ⟨ka1, kc1, rfl⟩ := hs1.form
 refine Ops.app ?_
 refine zq [2,5,3] ?_
 refine AnyH.start [(b2, .cells [.int .i64 sp, .int .i64 pg].toArray 274), (b1, .cells [.bool e.valid, .bool e.write, .int .i64 e.at_].toArray 276)] 13 rfl ?_
 refine zd [0,1,1,1,2,3,3,0,5,10,6,14,7,9] ?_
 refine AnyH.two 4 8 (by kernel_rfl) ?_ ?_
 ·
  refine Turn.ef rfl rfl (ef_pv (pv_load rfl rfl rfl) rfl) ?_ ?_
  ·
   rintro _ _ ⟨rfl, rfl⟩; infer_instance
  rintro _ _ ⟨rfl, rfl⟩
  refine AnyH.one 8 (by kernel_rfl) ?_
  refine Turn.ef rfl rfl (ef_buildSlice1 (k := 5) rfl rfl rfl rfl rfl) ?_ ?_
  ·
   rintro _ _ ⟨b3, rfl, rfl⟩; infer_instance
  rintro _ _ ⟨b3, rfl, rfl⟩
  refine AnyH.one 9 (by kernel_rfl) ?_
  refine Turn.ef rfl rfl (ef_append (H := H1) (xs := [.int .i64 sp, .int .i64 pg, .bool e.valid, .bool e.write, .int .i64 e.at_]) rfl hs1 rfl ⟨rfl, rfl, rfl, rfl, rfl, trivial⟩ rfl rfl rfl (by omega) (by omega) rfl rfl) ?_ ?_
  ·
   rintro _ _ ⟨vn1, Hn1, hn1, rfl, rfl⟩; infer_instance
  rintro _ _ ⟨vn1, Hn1, hn1, rfl, rfl⟩
  refine AnyH.app ?_
  have hn9 := hn1
  obtain ⟨na1, nc1, rfl⟩ := hn1.form
  refine zd [10,3,11,0] ?_
  refine z1 12 ?_
  refine AnyH.done (by kernel_rfl) ?_
  refine zq [5,3,3,4,0,9,6,8] ?_
  refine Ops.pv (pv_len_slice (T := 210) rfl rfl) rfl ?_
  refine zq [44,2,5] ?_
  refine Wp.cond_dect rfl (fun h4 => (by exfalso; omega)) (fun h4 => ?_)
  refine zq [11,5,3,4,1,2,5,10] ?_
  exact Ends.ret (L' := (tb, .cells [.slice na1 ((tlbDrop l sp pg).length + 1) nc1].toArray 212) :: Hn1) (res1 rfl rfl) ⟨by rw [he], by rw [he2]; exact ⟨_, Hn1, kept_snoc hn9, rfl⟩⟩
 refine Turn.ef rfl rfl (ef_buildSlice1 (k := 5) rfl rfl rfl rfl rfl) ?_ ?_
 ·
  rintro _ _ ⟨b4, rfl, rfl⟩; infer_instance
 rintro _ _ ⟨b4, rfl, rfl⟩
 refine AnyH.one 4 (by kernel_rfl) ?_
 refine Turn.ef rfl rfl (ef_pv (pv_load rfl rfl rfl) rfl) ?_ ?_
 ·
  rintro _ _ ⟨rfl, rfl⟩; infer_instance
 rintro _ _ ⟨rfl, rfl⟩
 refine AnyH.one 9 (by kernel_rfl) ?_
 refine Turn.ef rfl rfl (ef_append (H := H1) (xs := [.int .i64 sp, .int .i64 pg, .bool e.valid, .bool e.write, .int .i64 e.at_]) rfl hs1 rfl ⟨rfl, rfl, rfl, rfl, rfl, trivial⟩ rfl rfl rfl (by omega) (by omega) rfl rfl) ?_ ?_
 ·
  rintro _ _ ⟨vn2, Hn2, hn2, rfl, rfl⟩; infer_instance
 rintro _ _ ⟨vn2, Hn2, hn2, rfl, rfl⟩
 refine AnyH.app ?_
 have hn9 := hn2
 obtain ⟨na2, nc2, rfl⟩ := hn2.form
 refine zd [10,3,11,0] ?_
 refine z1 12 ?_
 refine AnyH.done (by kernel_rfl) ?_
 refine zq [5,3,3,4,0,9,6,8] ?_
 refine Ops.pv (pv_len_slice (T := 210) rfl rfl) rfl ?_
 refine zq [44,2,5] ?_
 refine Wp.cond_dect rfl (fun h5 => (by exfalso; omega)) (fun h5 => ?_)
 refine zq [11,5,3,4,1,2,5,10] ?_
 exact Ends.ret (L' := (tb, .cells [.slice na2 ((tlbDrop l sp pg).length + 1) nc2].toArray 212) :: Hn2) (res1 rfl rfl) ⟨by rw [he], by rw [he2]; exact ⟨_, Hn2, kept_snoc hn9, rfl⟩⟩
def KOk (l : List KeptM) : Prop := ∀ x, x ∈ l → 0 ≤ x.e.at_ ∧ x.e.at_ ≤ 65520
theorem KOk.e {l : List KeptM} (h : KOk l) (sp pg : Int) : 0 ≤ (tlbE l sp pg).at_ ∧ (tlbE l sp pg).at_ ≤ 65520 := by
 unfold tlbE tlbGet
 cases hf : l.find? (keyP sp pg) with
 | none => decide
 | some x => exact h x (List.mem_of_find?_eq_some hf)
theorem pageM_at (ws : List Int) (dir a : Int) : 0 ≤ (pageM ws dir a).1.at_ ∧ (pageM ws dir a).1.at_ ≤ 65520 := by
 have := pteI_at (memGet ws ((page1 ws dir a).1.at_ + (splitM a).2.1)).1
 unfold pageM
 repeat' split
 all_goals first | exact ⟨this.1, this.2.1⟩ | (dsimp only; decide)
def toX (l : List KeptM) (ws : List Int) (sp dir a : Int) : PteM × Int := if tlbB l sp (a / 16) = true then (tlbE l sp (a / 16), 0) else pageM ws dir a
def toL (l : List KeptM) (ws : List Int) (sp dir a : Int) : List KeptM := if tlbB l sp (a / 16) = true then l else if (pageM ws dir a).2 ≠ 0 then l else fillS l sp (a / 16) (pageM ws dir a).1
def toR (l : List KeptM) (ws : List Int) (sp dir a : Int) (wr : Bool) : Int × Int :=
  if (toX l ws sp dir a).2 ≠ 0 then (0, (toX l ws sp dir a).2) else if wr = true ∧ (toX l ws sp dir a).1.write = false then (0, 5) else ((toX l ws sp dir a).1.at_ + a % 16, 0)
theorem splitM_in {a : Int} (h : 0 ≤ a ∧ a < 4096) : splitM a = (a / 256, a / 16 % 16, a % 16, 0) := if_neg (by omega)
set_option maxHeartbeats 8000000 in
theorem tr_kTo (ws : List Int) (mb wb N : Nat) (hl : ws.length = N) (hN : N ≤ 65536) (hw : WdOk ws) (l : List KeptM) (tb : Nat) (L : Hp) (hT : TlbH l tb L) (hl1 : l.length ≤ 2 ^ 20) (sp dir a : Int) (wr : Bool) (ha : 0 ≤ a ∧ a < 4096) (hsp : 0 ≤ sp ∧ sp < 64) (hr : (tlbDrop l sp (a / 16)).length < 8) (hkp : KOk l) : Tr Tryz.prog 140 [tlbP tb, memP mb, .int .i64 sp, .int .i64 dir, .int .i64 a, .bool wr] ((mb, .cells [.slice (some ⟨wb, 0, none⟩) N N].toArray 193) :: (wb, .cells (wordsC ws).toArray 22) :: L) (fun u L' => u = .tuple #[.int .i64 (toR l ws sp dir a wr).1, .int .i64 (toR l ws sp dir a wr).2] ∧ ∃ T, TlbH (toL l ws sp dir a) tb T ∧ L' = (mb, .cells [.slice (some ⟨wb, 0, none⟩) N N].toArray 193) :: (wb, .cells (wordsC ws).toArray 22) :: T) := by
 subst hl
 have hsi := splitM_in ha
 have hko : keyOk sp (a / 16) := by unfold keyOk; omega
 have hq16 : IntKind.i64.wrap (a.tdiv 16) = a / 16 := by rw [Int.tdiv_eq_ediv_of_nonneg (by omega)]; exact w64 (by omega) (by omega)
 have hb1 := hkp.e sp (a / 16)
 have hb2 := pageM_at ws dir a
 refine Tr.enter Tryz.func140 rfl Tryz.ntmps140 rfl (fun W F => ?_)
 refine Wp.app ?_
 refine zq [3,4,1,1,2,5,3,4,0,0] ?_
 refine Ops.pv (pv_quo rfl rfl (by decide) hq16) rfl ?_
 refine zq [23] ?_
 refine zA fun b1 => ?_
 refine zq [14,2,5,3,4,0] ?_
 refine zC ((tr_pSplit a (by unfold I64; omega)).eq (r' := .tuple #[.int .i64 (a / 256), .int .i64 (a / 16 % 16), .int .i64 (a % 16), .int .i64 0]) (by rw [hsi])) ?_
 refine zq [0,7,7,7,7,1,1,1,1,2,5,3,3,4,0,67,0] ?_
 refine Ops.pvg ⟨_, _, rfl, rfl, rfl⟩ (pv_loadK [_, _] rfl rfl rfl ⟨rfl, rfl, trivial⟩) rfl ?_
 refine Ops.efg ⟨_, _, rfl, rfl, rfl⟩ (ef_callr ((tr_kRight sp (a / 16)).eq (r' := .bool true) (by rw [decide_eq_true hko])) rfl rfl) ?_
 rintro _ _ ⟨rfl, rfl⟩
 refine zq [54,26,2,5,17,11,5,3,4,0,0,6,8] ?_
 refine zC (tr_kGet l tb L hT hl1 sp (a / 16)) ?_
 refine zq [0,7,7] ?_
 refine zA fun b2 => ?_
 refine zq [14,1,2,5,3,3,4,0,39,2,5] ?_
 refine Wp.cond_t rfl (fun h1 => ?_) (fun h1 => ?_)
 ·
  have hb : ¬ tlbB l sp (a / 16) = true := by simp_all
  have hx0 : toX l ws sp dir a = pageM ws dir a := if_neg hb
  refine zq [3,4,0,0,0] ?_
  refine zC (tr_wPage ws mb wb ws.length rfl hN hw dir a (by unfold I64; omega)) ?_
  refine zq [0,7,7,14,1,2,5,3,3,4,0,27,2,5] ?_
  refine Wp.cond_dect rfl (fun h2 => ?_) (fun h2 => ?_)
  ·
   have hl2 : toL l ws sp dir a = l := (if_neg hb).trans (if_pos (by assumption))
   have he : toR l ws sp dir a wr = (0, (pageM ws dir a).2) := by rw [toR, hx0, if_pos (by assumption)]
   refine zq [3,4,0,1,1,2,5,10,12,12] ?_
   exact Ends.ret (L' := (mb, .cells [.slice (some ⟨wb, 0, none⟩) ws.length ws.length].toArray 193) :: (wb, .cells (wordsC ws).toArray 22) :: L) (res2 rfl rfl rfl) ⟨by rw [he], _, by rw [hl2]; exact hT, rfl⟩
  have hz : ¬ (pageM ws dir a).2 ≠ 0 := by assumption
  have hl2 : toL l ws sp dir a = fillS l sp (a / 16) (pageM ws dir a).1 := (if_neg hb).trans (if_neg hz)
  refine zq [11,5,4,0,0,6,8,29] ?_
  refine zD (tr_kFill l tb L hT hl1 sp (a / 16) (pageM ws dir a).1 hr) ?_
  rintro _ T1 ⟨rfl, hT1⟩
  refine Ops.app ?_
  skip
  refine zq [2,5,3,3,4,0,0] ?_
  refine Ops.splitb (t := 66) rfl (fun h3 => ?_) (fun h3 => ?_)
  ·
   refine zq [50,51,54,24,2,5] ?_
   refine Wp.cond_t rfl (fun h4 => ?_) (fun h4 => ?_)
   ·
    refine zq [3,4,1,1,2,5,10,12] ?_
    have he : toR l ws sp dir a wr = (0, 5) := by rw [toR, hx0, if_neg hz, if_pos ⟨by assumption, by simp_all⟩]
    exact Ends.ret (L' := (mb, .cells [.slice (some ⟨wb, 0, none⟩) ws.length ws.length].toArray 193) :: (wb, .cells (wordsC ws).toArray 22) :: T1) (res2 rfl rfl rfl) ⟨by rw [he], _, by rw [hl2]; exact hT1, rfl⟩
   refine zq [11,5,3,4,6,8,0,52,1,1,2,5,10] ?_
   have he : toR l ws sp dir a wr = ((pageM ws dir a).1.at_ + a % 16, 0) := by rw [toR, hx0, if_neg hz, if_neg (by rintro ⟨q1, q2⟩; simp_all)]
   exact Ends.ret (L' := (mb, .cells [.slice (some ⟨wb, 0, none⟩) ws.length ws.length].toArray 193) :: (wb, .cells (wordsC ws).toArray 22) :: T1) (res2 rfl rfl rfl) ⟨by rw [he], _, by rw [hl2]; exact hT1, rfl⟩
  refine zq [13,13,13,26,2,5,17,11,5,3,4,6,8,0,52,1,1,2,5,10] ?_
  have he : toR l ws sp dir a wr = ((pageM ws dir a).1.at_ + a % 16, 0) := by rw [toR, hx0, if_neg hz, if_neg (by rintro ⟨q1, q2⟩; simp_all)]
  exact Ends.ret (L' := (mb, .cells [.slice (some ⟨wb, 0, none⟩) ws.length ws.length].toArray 193) :: (wb, .cells (wordsC ws).toArray 22) :: T1) (res2 rfl rfl rfl) ⟨by rw [he], _, by rw [hl2]; exact hT1, rfl⟩
 have hb : tlbB l sp (a / 16) = true := by simp_all
 have hx0 : toX l ws sp dir a = (tlbE l sp (a / 16), 0) := if_pos hb
 have hl2 : toL l ws sp dir a = l := if_pos hb
 refine zq [11,5,3,3,4,0,0] ?_
 refine Ops.splitb (t := 66) rfl (fun h5 => ?_) (fun h5 => ?_)
 ·
  refine zq [50,51,54,24,2,5] ?_
  refine Wp.cond_t rfl (fun h6 => ?_) (fun h6 => ?_)
  ·
   refine zq [3,4,1,1,2,5,10,12] ?_
   have he : toR l ws sp dir a wr = (0, 5) := by rw [toR, hx0, if_neg (not_not_intro rfl), if_pos ⟨by assumption, by simp_all⟩]
   exact Ends.ret (L' := (mb, .cells [.slice (some ⟨wb, 0, none⟩) ws.length ws.length].toArray 193) :: (wb, .cells (wordsC ws).toArray 22) :: L) (res2 rfl rfl rfl) ⟨by rw [he], _, by rw [hl2]; exact hT, rfl⟩
  refine zq [11,5,3,4,6,8,0,52,1,1,2,5,10] ?_
  have he : toR l ws sp dir a wr = ((tlbE l sp (a / 16)).at_ + a % 16, 0) := by rw [toR, hx0, if_neg (not_not_intro rfl), if_neg (by rintro ⟨q1, q2⟩; simp_all)]
  exact Ends.ret (L' := (mb, .cells [.slice (some ⟨wb, 0, none⟩) ws.length ws.length].toArray 193) :: (wb, .cells (wordsC ws).toArray 22) :: L) (res2 rfl rfl rfl) ⟨by rw [he], _, by rw [hl2]; exact hT, rfl⟩
 refine zq [13,13,13,26,2,5,17,11,5,3,4,6,8,0,52,1,1,2,5,10] ?_
 have he : toR l ws sp dir a wr = ((tlbE l sp (a / 16)).at_ + a % 16, 0) := by rw [toR, hx0, if_neg (not_not_intro rfl), if_neg (by rintro ⟨q1, q2⟩; simp_all)]
 exact Ends.ret (L' := (mb, .cells [.slice (some ⟨wb, 0, none⟩) ws.length ws.length].toArray 193) :: (wb, .cells (wordsC ws).toArray 22) :: L) (res2 rfl rfl rfl) ⟨by rw [he], _, by rw [hl2]; exact hT, rfl⟩
end Go.Proofs.YtipncceiekalfaaGreat
end
section
set_option linter.unusedVariables false
set_option linter.unusedSimpArgs false
set_option linter.unusedSectionVars false
namespace Go.Proofs.YtipncceiekalfaaGreat
open Go.SL
theorem _root_.Go.SL.Blk.take {E : Hp} {b : Nat} {o : Obj} (h : Blk E b o) : ∃ R, Take E b o R := by
 obtain ⟨A, B, rfl⟩ := List.append_of_mem h.mem
 exact ⟨A ++ B, ⟨List.perm_middle⟩⟩
inductive Th
  | unt (used : Int)
  | node
  | thr (t : ThrM) (root : CapM) (space bound : Int)
  | ep (S : Ep)
  | nt (S : Nt)
  | page (of_ : Int) (mapped : Bool) (space at_ : Int)
  | spc
structure En where
  th : Th
  sp : Int × Int
structure Ad where
  ob : Nat
  tb : Nat
  nb : Nat
def Th.kind : Th → Int
  | .unt _ => 1
  | .node => 2
  | .thr .. => 3
  | .ep _ => 4
  | .nt _ => 5
  | .page o .. => o
  | .spc => 8
def Th.ty : Th → Nat
  | .unt _ => 107
  | .node => 224
  | .thr .. => 94
  | .ep _ => 114
  | .nt _ => 120
  | .page .. => 110
  | .spc => 229
abbrev thrC (t : ThrM) (c : CapM) (s b : Int) : List Value := [.int .i64 t.st, .int .i64 t.on, .int .u64 t.badge, .bool t.calls, .int .i64 t.caller, .int .i64 t.lvl, .int .i64 t.dom, .int .i64 t.pc,
  .int .u64 t.regs.r0, .int .u64 t.regs.r1, .int .u64 t.regs.r2, .int .u64 t.regs.r3, .int .u64 t.regs.r4, .int .u64 t.regs.r5, .int .u64 t.regs.r6, .int .u64 t.regs.r7,
  .int .i64 c.kind, .int .i64 c.object, .int .i64 c.rights, .int .u64 c.badge, .int .u64 c.guard, .int .i64 c.bits, .int .i64 s, .int .i64 b]
abbrev thrO (t : ThrM) (c : CapM) (s b : Int) : Obj := .cells (thrC t c s b).toArray 100
abbrev pageO (o : Int) (m : Bool) (s a : Int) : Obj := .cells [.int .i64 o, .bool m, .int .i64 s, .int .i64 a].toArray 112
def Th.obj (nb : Nat) : Th → Obj
  | .unt u => .cells [.int .i64 u].toArray 109
  | .node => .cells [].toArray 226
  | .thr t c s b => thrO t c s b
  | .ep _ => .cells [.pointer (some ⟨nb, 0, none⟩)].toArray 119
  | .nt _ => .cells [.pointer (some ⟨nb, 0, none⟩)].toArray 124
  | .page o m s a => pageO o m s a
  | .spc => .cells [].toArray 230
def Th.inn (nb : Nat) (H : Hp) : Th → Prop
  | .ep S => EpH S nb H
  | .nt S => NtH S nb H
  | _ => H = []
abbrev objO (ty tb : Nat) (sp : Int × Int) : Obj := .cells [.iface ty (.pointer (some ⟨tb, 0, none⟩)), .int .i64 sp.1, .int .i64 sp.2].toArray 106
def enB (ar : List En) (ad : Nat → Ad) (In : Nat → Hp) (i : Nat) : Hp :=
  match ar[i]? with
  | none => []
  | some en => ((ad i).ob, objO en.th.ty (ad i).tb en.sp) :: ((ad i).tb, en.th.obj (ad i).nb) :: In i
def EnH (ar : List En) (ad : Nat → Ad) (E : Hp) : Prop := ∃ In : Nat → Hp, (∀ (i : Nat) (en : En), ar[i]? = some en → en.th.inn (ad i).nb (In i)) ∧ E = segs (enB ar ad In) ar.length
theorem enB_some {ar : List En} {ad : Nat → Ad} {In : Nat → Hp} {i : Nat} {en : En} (he : ar[i]? = some en) :
    enB ar ad In i = ((ad i).ob, objO en.th.ty (ad i).tb en.sp) :: ((ad i).tb, en.th.obj (ad i).nb) :: In i := by unfold enB; rw [he]
theorem lt_of_some {α : Type} {l : List α} {i : Nat} {x : α} (h : l[i]? = some x) : i < l.length := (List.getElem?_eq_some_iff.1 h).1
theorem EnH.ob {ar : List En} {ad : Nat → Ad} {E : Hp} (h : EnH ar ad E) {i : Nat} {en : En} (he : ar[i]? = some en) : Blk E (ad i).ob (objO en.th.ty (ad i).tb en.sp) := by
 obtain ⟨In, _, rfl⟩ := h
 exact ⟨segs_mem (lt_of_some he) (by rw [enB_some he]; exact List.mem_cons_self ..)⟩
theorem EnH.tb {ar : List En} {ad : Nat → Ad} {E : Hp} (h : EnH ar ad E) {i : Nat} {en : En} (he : ar[i]? = some en) : Blk E (ad i).tb (en.th.obj (ad i).nb) := by
 obtain ⟨In, _, rfl⟩ := h
 exact ⟨segs_mem (lt_of_some he) (by rw [enB_some he]; exact List.mem_cons_of_mem _ (List.mem_cons_self ..))⟩
theorem segs_cut {h : Nat → Hp} {i : Nat} : ∀ {n : Nat}, i < n → ∃ A B, ∀ H, segs (fset h i H) n = A ++ (H ++ B)
  | 0, hi => by omega
  | n + 1, hi => by
    by_cases e : i = n
    · subst e
      refine ⟨segs h i, [], fun H => ?_⟩
      rw [segs_succ, fset_same, segs_congr (k := h) (fun j hj => fset_ne (by omega)), List.append_nil]
    · obtain ⟨A, B, hAB⟩ := segs_cut (h := h) (i := i) (n := n) (by omega)
      refine ⟨A, B ++ h n, fun H => ?_⟩
      rw [segs_succ, hAB, fset_ne (show n ≠ i by omega)]
      simp only [List.append_assoc]
theorem segs_same {h : Nat → Hp} {i n : Nat} : segs h n = segs (fset h i (h i)) n := segs_congr (fun j _ => by
 by_cases e : j = i
 ·
  subst e; rw [fset_same]
 ·
  rw [fset_ne e])
def Th.like : Th → Th → Prop
  | .unt _, .unt _ => True
  | .thr .., .thr .. => True
  | .page .., .page .. => True
  | _, _ => False
theorem Th.like_ty {a b : Th} (h : a.like b) : b.ty = a.ty := by
 cases a <;> cases b <;> first | rfl | exact h.elim
theorem Th.like_inn {a b : Th} (h : a.like b) {nb : Nat} {H : Hp} (hi : a.inn nb H) : b.inn nb H := by
 cases a <;> cases b <;> first | exact hi | exact h.elim
def setA (ar : List En) (i : Nat) (th : Th) : List En := ar.modify i (fun en => { en with th := th })
theorem setA_len (ar : List En) (i : Nat) (th : Th) : (setA ar i th).length = ar.length := by simp [setA]
theorem setA_same {ar : List En} {i : Nat} {en : En} (he : ar[i]? = some en) (th : Th) : (setA ar i th)[i]? = some { en with th := th } := by simp [setA, he]
theorem setA_ne {ar : List En} {i j : Nat} (h : j ≠ i) (th : Th) : (setA ar i th)[j]? = ar[j]? := by
 unfold setA
 simp [List.getElem?_modify, Ne.symm h]
theorem setA_B {ar : List En} {ad : Nat → Ad} {In : Nat → Hp} {i : Nat} {en : En} (he : ar[i]? = some en) (th : Th) (H : Hp) :
    segs (enB (setA ar i th) ad (fset In i H)) (setA ar i th).length = segs (fset (enB ar ad In) i (((ad i).ob, objO th.ty (ad i).tb en.sp) :: ((ad i).tb, th.obj (ad i).nb) :: H)) ar.length := by
  rw [setA_len]
  refine segs_congr (fun j hj => ?_)
  by_cases e : j = i
  · subst e
    rw [fset_same, enB_some (setA_same he th), fset_same]
  · unfold enB
    rw [fset_ne e, setA_ne e, fset_ne e]
theorem EnH.upd {ar : List En} {ad : Nat → Ad} {E : Hp} (h : EnH ar ad E) {i : Nat} {en : En} (he : ar[i]? = some en) :
    ∃ (G : Obj → Hp) (R : Hp), E = G (en.th.obj (ad i).nb) ∧ (∀ o o', Upd (G o) (ad i).tb o' (G o')) ∧ (∀ o, Blk (G o) (ad i).tb o) ∧ (∀ o, Take (G o) (ad i).tb o R) ∧
      ∀ th', en.th.like th' → EnH (setA ar i th') ad (G (th'.obj (ad i).nb)) := by
  obtain ⟨In, hin, rfl⟩ := h
  obtain ⟨A, B, hAB⟩ := segs_cut (h := enB ar ad In) (lt_of_some he)
  refine ⟨fun o => segs (fset (enB ar ad In) i (((ad i).ob, objO en.th.ty (ad i).tb en.sp) :: ((ad i).tb, o) :: In i)) ar.length, A ++ (((ad i).ob, objO en.th.ty (ad i).tb en.sp) :: (In i ++ B)), ?_, fun o o' => ⟨?_⟩, fun o => ⟨?_⟩, fun o => ⟨?_⟩, fun th' hl => ?_⟩
  · dsimp only
    rw [← enB_some he]; exact segs_same
  · refine ⟨A ++ [((ad i).ob, objO en.th.ty (ad i).tb en.sp)], In i ++ B, o, ?_, ?_⟩ <;> (dsimp only; rw [hAB]; simp)
  · dsimp only; rw [hAB]; simp
  · dsimp only; rw [hAB]
    simp only [List.cons_append]
    exact (List.Perm.append_left A (List.Perm.swap _ _ _)).trans List.perm_middle
  · refine ⟨In, fun j e hj => ?_, ?_⟩
    · by_cases e' : j = i
      · subst e'
        rw [setA_same he] at hj
        cases hj
        exact Th.like_inn hl (hin j en he)
      · rw [setA_ne e'] at hj; exact hin j e hj
    · have := setA_B (ad := ad) (In := In) he th' (In i)
      rw [Th.like_ty hl] at this
      rw [fset_self] at this
      exact this.symm
theorem EnH.ep {ar : List En} {ad : Nat → Ad} {E : Hp} (h : EnH ar ad E) {i : Nat} {S : Ep} {sp : Int × Int} (he : ar[i]? = some ⟨.ep S, sp⟩) :
    ∃ J R, EpH S (ad i).nb J ∧ E.Perm (J ++ R) ∧ Blk R (ad i).tb (.cells [.pointer (some ⟨(ad i).nb, 0, none⟩)].toArray 119) ∧ ∀ S' J', EpH S' (ad i).nb J' → ∃ E', EnH (setA ar i (.ep S')) ad E' ∧ (J' ++ R).Perm E' := by
  obtain ⟨In, hin, rfl⟩ := h
  obtain ⟨A, B, hAB⟩ := segs_cut (h := enB ar ad In) (lt_of_some he)
  have hh := hin i _ he
  refine ⟨In i, A ++ (((ad i).ob, objO 114 (ad i).tb sp) :: ((ad i).tb, .cells [.pointer (some ⟨(ad i).nb, 0, none⟩)].toArray 119) :: B), hh, ?_, ⟨by simp⟩, fun S' J' hJ => ?_⟩
  · rw [segs_same (i := i), hAB, enB_some he]
    refine List.Perm.trans ?_ (List.perm_append_comm_assoc ..)
    refine List.Perm.append_left A ?_
    exact ((List.perm_append_comm (l₁ := _ :: _ :: []) (l₂ := In i)).append_right B).trans (by simp [Th.ty, Th.obj])
  · refine ⟨segs (enB (setA ar i (.ep S')) ad (fset In i J')) (setA ar i (.ep S')).length, ⟨fset In i J', fun j e hj => ?_, rfl⟩, ?_⟩
    · by_cases e' : j = i
      · subst e'
        rw [setA_same he] at hj
        cases hj
        rw [fset_same]; exact hJ
      · rw [setA_ne e'] at hj; rw [fset_ne e']; exact hin j e hj
    · rw [setA_B he, hAB]
      refine List.Perm.symm ?_
      refine List.Perm.trans ?_ (List.perm_append_comm_assoc ..)
      refine List.Perm.append_left A ?_
      exact ((List.perm_append_comm (l₁ := _ :: _ :: []) (l₂ := J')).append_right B).trans (by simp [Th.ty, Th.obj])
theorem EnH.nt {ar : List En} {ad : Nat → Ad} {E : Hp} (h : EnH ar ad E) {i : Nat} {S : Nt} {sp : Int × Int} (he : ar[i]? = some ⟨.nt S, sp⟩) :
    ∃ J R, NtH S (ad i).nb J ∧ E.Perm (J ++ R) ∧ Blk R (ad i).tb (.cells [.pointer (some ⟨(ad i).nb, 0, none⟩)].toArray 124) ∧ ∀ S' J', NtH S' (ad i).nb J' → ∃ E', EnH (setA ar i (.nt S')) ad E' ∧ (J' ++ R).Perm E' := by
  obtain ⟨In, hin, rfl⟩ := h
  obtain ⟨A, B, hAB⟩ := segs_cut (h := enB ar ad In) (lt_of_some he)
  have hh := hin i _ he
  refine ⟨In i, A ++ (((ad i).ob, objO 120 (ad i).tb sp) :: ((ad i).tb, .cells [.pointer (some ⟨(ad i).nb, 0, none⟩)].toArray 124) :: B), hh, ?_, ⟨by simp⟩, fun S' J' hJ => ?_⟩
  · rw [segs_same (i := i), hAB, enB_some he]
    refine List.Perm.trans ?_ (List.perm_append_comm_assoc ..)
    refine List.Perm.append_left A ?_
    exact ((List.perm_append_comm (l₁ := _ :: _ :: []) (l₂ := In i)).append_right B).trans (by simp [Th.ty, Th.obj])
  · refine ⟨segs (enB (setA ar i (.nt S')) ad (fset In i J')) (setA ar i (.nt S')).length, ⟨fset In i J', fun j e hj => ?_, rfl⟩, ?_⟩
    · by_cases e' : j = i
      · subst e'
        rw [setA_same he] at hj
        cases hj
        rw [fset_same]; exact hJ
      · rw [setA_ne e'] at hj; rw [fset_ne e']; exact hin j e hj
    · rw [setA_B he, hAB]
      refine List.Perm.symm ?_
      refine List.Perm.trans ?_ (List.perm_append_comm_assoc ..)
      refine List.Perm.append_left A ?_
      exact ((List.perm_append_comm (l₁ := _ :: _ :: []) (l₂ := J')).append_right B).trans (by simp [Th.ty, Th.obj])
theorem EnH.more {ar : List En} {ad : Nat → Ad} {E : Hp} (h : EnH ar ad E) (a : Ad) (en : En) {H : Hp} (hH : en.th.inn a.nb H) :
    EnH (ar ++ [en]) (fset ad ar.length a) (E ++ ((a.ob, objO en.th.ty a.tb en.sp) :: (a.tb, en.th.obj a.nb) :: H)) := by
  obtain ⟨In, hin, rfl⟩ := h
  refine ⟨fset In ar.length H, fun i e hi => ?_, ?_⟩
  · rcases Nat.lt_or_ge i ar.length with hl | hl
    · rw [List.getElem?_append_left hl] at hi
      rw [fset_ne (by omega), fset_ne (by omega)]; exact hin i e hi
    · rw [List.getElem?_append_right hl] at hi
      obtain ⟨rfl, rfl⟩ : i = ar.length ∧ e = en := by
        have := lt_of_some hi
        have e0 : i = ar.length := by simp at this; omega
        subst e0
        simp at hi
        exact ⟨rfl, hi.symm⟩
      rw [fset_same, fset_same]; exact hH
  · rw [List.length_append, List.length_singleton, segs_succ]
    congr 1
    · refine segs_congr (fun j hj => ?_)
      unfold enB
      rw [List.getElem?_append_left hj, fset_ne (by omega), fset_ne (by omega)]
    · rw [enB_some (en := en) (by simp), fset_same, fset_same]
end Go.Proofs.YtipncceiekalfaaGreat
end
section
set_option linter.unusedVariables false
set_option linter.unusedSimpArgs false
set_option linter.unusedSectionVars false
namespace Go.Proofs.YtipncceiekalfaaGreat
open Go.SL
instance (x : Int) : Decidable (I64 x) := by unfold I64; infer_instance
structure WireM where
  on : Bool
  nt : Int
  badge : Int
abbrev WireM.zero : WireM := ⟨false, 0, 0⟩
structure LineM where
  owner : Int
  masked : Bool
  pend : Bool
abbrev LineM.new : LineM := ⟨-1, true, false⟩
structure Kn where
  ws : List Int
  p : PS
  nk : Nat
  ar : List En
  mp : List (Int × Nat × Nat)
  ck : Nat
  wi : Nat → WireM
  q : List LineM
  T : Ones
  e : Nat
  lf : Int
  L : Nat → Ones
  tl : List KeptM
structure KA where
  mb : Nat
  wb : Nat
  cb : Nat
  ob : Nat
  ib : Nat
  sb : Nat
  tb : Nat
abbrev kerO (A : KA) (wi : Nat → WireM) : Obj := .cells [.pointer (some ⟨A.mb, 0, none⟩), .pointer (some ⟨A.cb, 0, none⟩), .map (some A.ob), .pointer (some ⟨A.ib, 0, none⟩), .bool (wi 0).on, .int .i64 (wi 0).nt, .int .u64 (wi 0).badge, .bool (wi 1).on, .int .i64 (wi 1).nt, .int .u64 (wi 1).badge, .bool (wi 2).on, .int .i64 (wi 2).nt, .int .u64 (wi 2).badge, .bool (wi 3).on, .int .i64 (wi 3).nt, .int .u64 (wi 3).badge, .bool (wi 4).on, .int .i64 (wi 4).nt, .int .u64 (wi 4).badge, .bool (wi 5).on, .int .i64 (wi 5).nt, .int .u64 (wi 5).badge, .bool (wi 6).on, .int .i64 (wi 6).nt, .int .u64 (wi 6).badge, .bool (wi 7).on, .int .i64 (wi 7).nt, .int .u64 (wi 7).badge, .pointer (some ⟨A.sb, 0, none⟩), .pointer (some ⟨A.tb, 0, none⟩)].toArray 93
def kvM (ad : Nat → Ad) (mp : List (Int × Nat × Nat)) : List (Int × Value × Nat) := mp.map fun e => (e.1, .pointer (some ⟨(ad e.2.1).ob, 0, none⟩), e.2.2)
def chO (p : Bool) : Obj := .chan 1 (if p then #[.agg #[]] else #[]) false 0 0 false
def lineC (ch : Nat → Nat) (q : List LineM) : List Value := (List.range q.length).flatMap fun i => [.chan (some (ch i)), .int .i64 ((q[i]?.getD .new).owner), .bool ((q[i]?.getD .new).masked)]
def IrqH (q : List LineM) (ib : Nat) (L : Hp) : Prop := ∃ ch : Nat → Nat, L = (ib, .cells (lineC ch q).toArray 209) :: segs (fun i => [(ch i, chO ((q[i]?.getD .new).pend))]) q.length
def KH (k : Kn) (A : KA) (ad : Nat → Ad) (kb : Nat) (L : Hp) : Prop := ∃ Iq Lc Ls Lt E, IrqH k.q A.ib Iq ∧ CapsH k.nk k.p A.cb Lc ∧ SchH k.T k.e k.lf k.L A.sb Ls ∧ TlbH k.tl A.tb Lt ∧ EnH k.ar ad E ∧
  L = (kb, kerO A k.wi) :: (A.ob, mapO encI (kvM ad k.mp) k.ck) :: (A.mb, .cells [.slice (some ⟨A.wb, 0, none⟩) k.ws.length k.ws.length].toArray 193) :: (A.wb, .cells (wordsC k.ws).toArray 22) :: (Iq ++ (Lc ++ (Ls ++ (Lt ++ E))))
def Kn.ix (k : Kn) (n : Int) : Option Nat := (k.mp.find? fun e => decide (n = e.1)).map (·.2.1)
def Kn.en (k : Kn) (n : Int) : Option En := (k.ix n).bind fun i => k.ar[i]?
def kpV (ad : Nat → Ad) : Option Nat → Value
  | none => .pointer none
  | some i => .pointer (some ⟨(ad i).ob, 0, none⟩)
theorem kv_get (k : Kn) (ad : Nat → Ad) (n : Int) : (mget n (kvM ad k.mp)).getD (.pointer none) = kpV ad (k.ix n) := by
 unfold Kn.ix kvM
 induction k.mp with
 | nil => rfl
 | cons e l ih =>
  simp only [List.map_cons, mget, List.find?_cons]
  by_cases h : n = e.1
  ·
   rw [if_pos h, decide_eq_true h]; rfl
  ·
   rw [if_neg h, decide_eq_false h]; exact ih
theorem kv_mem {k : Kn} {n : Int} {i : Nat} (h : k.ix n = some i) : ∃ s, (n, i, s) ∈ k.mp := by
 unfold Kn.ix at h
 obtain ⟨e, he, rfl⟩ := Option.map_eq_some_iff.1 h
 have h1 := List.mem_of_find?_eq_some he
 have h2 := List.find?_some he
 simp only [decide_eq_true_eq] at h2
 subst h2
 exact ⟨_, h1⟩
def N64 (l : List Int) : Prop := l.Nodup ∧ ∀ x, x ∈ l → rightM x = true
theorem right_64 {x : Int} (h : rightM x = true) : 0 ≤ x ∧ x < 64 := by simpa [rightM] using h
theorem N64.len {l : List Int} (h : N64 l) : l.length ≤ 64 := by
 have h1 : (l.map Int.toNat).Nodup := by
  unfold List.Nodup
  rw [List.pairwise_map]
  refine List.Pairwise.imp_of_mem ?_ h.1
  intro a b ha hb hab
  have := right_64 (h.2 a ha); have := right_64 (h.2 b hb)
  omega
 have := nodup_len (n := 64) h1 (by
  intro y hy
  obtain ⟨x, hx, rfl⟩ := List.mem_map.1 hy
  have := right_64 (h.2 x hx); omega)
 simpa using this
theorem N64.nil : N64 [] := ⟨List.nodup_nil, fun x h => (List.not_mem_nil h).elim⟩
theorem N64.sub {l m : List Int} (h : N64 l) (hs : m.Sublist l) : N64 m := ⟨h.1.sublist hs, fun x hx => h.2 x (hs.subset hx)⟩
theorem N64.push {l : List Int} (h : N64 l) {x : Int} (hp : pushE l x = 0) : N64 (l ++ [x]) := by
 obtain ⟨h1, h2⟩ := push_right hp
 refine ⟨List.nodup_append.2 ⟨h.1, by simp, ?_⟩, fun y hy => ?_⟩
 ·
  intro a ha b hb; simp at hb; subst hb; rintro rfl; exact h2 ha
 ·
  rcases List.mem_append.1 hy with hy | hy
  ·
   exact h.2 y hy
  ·
   simp at hy; subst hy; exact h1
theorem remL_sub (l : List Int) (x : Int) : (remL l x).Sublist l := by
 unfold remL; split
 ·
  rw [show l.take _ ++ l.drop _ = l.eraseIdx _ from (List.eraseIdx_eq_take_drop_succ ..).symm]; exact List.eraseIdx_sublist ..
 ·
  exact List.Sublist.refl _
theorem N64.rem {l : List Int} (h : N64 l) (x : Int) : N64 (remL l x) := h.sub (remL_sub l x)
structure ThW (t : ThrM) : Prop where
  wf : t.Wf
  pc : 0 ≤ t.pc ∧ t.pc ≤ 4095
def ThOk : Th → Prop
  | .thr t _ s _ => ThW t ∧ (s = -1 ∨ (0 ≤ s ∧ s < 64))
  | .ep S => N64 S.l
  | .nt S => N64 S.l ∧ S.b.length ≤ 1 ∧ U64 S.w
  | _ => True
structure KW (k : Kn) : Prop where
  len : 64 ≤ k.ws.length ∧ k.ws.length ≤ 65536
  wok : WdOk k.ws
  nk : k.nk ≤ 2 ^ 18
  mp : ∀ e, e ∈ k.mp → 0 ≤ e.1 ∧ e.1 < 64 ∧ e.2.1 < k.ar.length ∧ e.2.2 < k.ck
  q : k.q.length = 8 ∧ (k.mp.map (·.2.2)).Nodup
  at_ : At k.T k.e k.lf
  rw : RdysW k.L
  rr : ∀ d, d < 4 → N64 ((k.L d).map (·.1))
  ths : ∀ (i : Nat) (en : En), k.ar[i]? = some en → ThOk en.th
  tk : KOk k.tl ∧ k.tl.length ≤ 8
theorem KW.rl {k : Kn} (h : KW k) {n : Nat} (hn : 64 ≤ n) : RdysL k.L n := fun d hd => by have := (h.rr d hd).len; rw [List.length_map] at this; omega
theorem KW.en {k : Kn} (h : KW k) {n : Int} {i : Nat} (hi : k.ix n = some i) : ∃ en, k.ar[i]? = some en := by
 obtain ⟨s, hs⟩ := kv_mem hi
 exact ⟨_, List.getElem?_eq_getElem (h.mp _ hs).2.2.1⟩
theorem KW.num {k : Kn} (h : KW k) {n : Int} {i : Nat} (hi : k.ix n = some i) : 0 ≤ n ∧ n < 64 := by
 obtain ⟨s, hs⟩ := kv_mem hi
 exact ⟨(h.mp _ hs).1, (h.mp _ hs).2.1⟩
def gIs (k : Kn) (n : Int) (ty : Nat) : Bool := match k.en n with
  | none => false
  | some en => decide (en.th.ty = ty)
def gPt (k : Kn) (ad : Nat → Ad) (n : Int) (ty : Nat) : Value := if gIs k n ty then .pointer (some ⟨(ad ((k.ix n).getD 0)).tb, 0, none⟩) else .pointer none
theorem gIs_some {k : Kn} {n : Int} {i : Nat} {en : En} (hi : k.ix n = some i) (he : k.ar[i]? = some en) (ty : Nat) : gIs k n ty = decide (en.th.ty = ty) := by
 unfold gIs Kn.en; rw [hi, Option.bind_some, he]
theorem gIs_none {k : Kn} {n : Int} (hi : k.ix n = none) (ty : Nat) : gIs k n ty = false := by
 unfold gIs Kn.en; rw [hi]; rfl
theorem gPt_yes {k : Kn} {ad : Nat → Ad} {n : Int} {i : Nat} {en : En} (hi : k.ix n = some i) (he : k.ar[i]? = some en) {ty : Nat} (h : en.th.ty = ty) : gPt k ad n ty = .pointer (some ⟨(ad i).tb, 0, none⟩) := by
 unfold gPt; rw [gIs_some hi he, decide_eq_true h, hi]; rfl
theorem gPt_no {k : Kn} {ad : Nat → Ad} {n : Int} {ty : Nat} (h : gIs k n ty = false) : gPt k ad n ty = .pointer none := by
 unfold gPt; rw [h]; rfl
theorem gIs_yes {k : Kn} {n : Int} {ty : Nat} (hk : KW k) (h : gIs k n ty = true) : ∃ i en, k.ix n = some i ∧ k.ar[i]? = some en ∧ en.th.ty = ty := by
 cases hi : k.ix n with
 | none => rw [gIs_none hi] at h; cases h
 | some i =>
  obtain ⟨en, he⟩ := hk.en hi
  rw [gIs_some hi he] at h
  exact ⟨i, en, rfl, he, of_decide_eq_true h⟩
def Kn.isK (k : Kn) (n kind : Int) : Bool := match k.en n with
  | none => false
  | some en => decide (en.th.kind = kind)
theorem isK_some {k : Kn} {n kind : Int} {i : Nat} {en : En} (hi : k.ix n = some i) (he : k.ar[i]? = some en) : k.isK n kind = decide (en.th.kind = kind) := by
 unfold Kn.isK Kn.en; rw [hi, Option.bind_some, he]
theorem isK_none {k : Kn} {n kind : Int} (hi : k.ix n = none) : k.isK n kind = false := by
 unfold Kn.isK Kn.en; rw [hi]; rfl
theorem EnH.thr {ar : List En} {ad : Nat → Ad} {E : Hp} (h : EnH ar ad E) {i : Nat} {t : ThrM} {c : CapM} {s b : Int} {sp : Int × Int} (he : ar[i]? = some ⟨.thr t c s b, sp⟩) :
    ∃ (G : Obj → Hp) (R : Hp), E = G (thrO t c s b) ∧ (∀ o o', Upd (G o) (ad i).tb o' (G o')) ∧ (∀ o, Blk (G o) (ad i).tb o) ∧ (∀ o, Take (G o) (ad i).tb o R) ∧
      ∀ t' c' s' b', EnH (setA ar i (.thr t' c' s' b')) ad (G (thrO t' c' s' b')) := by
  obtain ⟨G, R, h0, h1, h2, h3, h4⟩ := h.upd he
  exact ⟨G, R, h0, h1, h2, h3, fun t' c' s' b' => h4 (.thr t' c' s' b') trivial⟩
theorem EnH.page {ar : List En} {ad : Nat → Ad} {E : Hp} (h : EnH ar ad E) {i : Nat} {q : Int} {m : Bool} {s a : Int} {sp : Int × Int} (he : ar[i]? = some ⟨.page q m s a, sp⟩) :
    ∃ (G : Obj → Hp) (R : Hp), E = G (pageO q m s a) ∧ (∀ o o', Upd (G o) (ad i).tb o' (G o')) ∧ (∀ o, Blk (G o) (ad i).tb o) ∧ (∀ o, Take (G o) (ad i).tb o R) ∧
      ∀ q' m' s' a', EnH (setA ar i (.page q' m' s' a')) ad (G (pageO q' m' s' a')) := by
  obtain ⟨G, R, h0, h1, h2, h3, h4⟩ := h.upd he
  exact ⟨G, R, h0, h1, h2, h3, fun q' m' s' a' => h4 (.page q' m' s' a') trivial⟩
def Kn.thI (k : Kn) (i : Nat) : Option (ThrM × CapM × Int × Int) := match k.ar[i]? with
  | some ⟨.thr t c s b, _⟩ => some (t, c, s, b)
  | _ => none
def Kn.thr (k : Kn) (n : Int) : Option (ThrM × CapM × Int × Int) := (k.ix n).bind k.thI
def Kn.setI (k : Kn) (i : Nat) (f : ThrM → ThrM) : Kn := match k.thI i with
  | some (t, c, s, b) => { k with ar := setA k.ar i (.thr (f t) c s b) }
  | none => k
def Kn.setThr (k : Kn) (n : Int) (f : ThrM → ThrM) : Kn := match k.ix n with
  | some i => k.setI i f
  | none => k
def beL (L : Nat → Ones) (n : Int) (x : ThrM) : Nat → Ones := if x.st = 1 then spL (sdL L n) n x.dom x.lvl else sdL L n
def Kn.be (k : Kn) (n : Int) (x : ThrM) : Kn := { k.setThr n (fun _ => x) with L := beL k.L n x }
section thr
variable {k : Kn} {n : Int} {i : Nat} {t : ThrM} {c : CapM} {s b : Int} {sp : Int × Int}
theorem thI_eq (he : k.ar[i]? = some ⟨.thr t c s b, sp⟩) : k.thI i = some (t, c, s, b) := by unfold Kn.thI; rw [he]
theorem thI_ex {x : ThrM × CapM × Int × Int} (h : k.thI i = some x) : ∃ sp, k.ar[i]? = some ⟨.thr x.1 x.2.1 x.2.2.1 x.2.2.2, sp⟩ := by
 unfold Kn.thI at h
 split at h
 ·
  rename_i t c s b sp he; cases h; exact ⟨sp, he⟩
 ·
  cases h
theorem thr_eq (hi : k.ix n = some i) (he : k.ar[i]? = some ⟨.thr t c s b, sp⟩) : k.thr n = some (t, c, s, b) := by
 unfold Kn.thr; rw [hi, Option.bind_some, thI_eq he]
theorem thr_ex {x : ThrM × CapM × Int × Int} (h : k.thr n = some x) : ∃ i sp, k.ix n = some i ∧ k.ar[i]? = some ⟨.thr x.1 x.2.1 x.2.2.1 x.2.2.2, sp⟩ := by
 unfold Kn.thr at h
 cases hi : k.ix n with
 | none => rw [hi] at h; cases h
 | some i =>
  rw [hi, Option.bind_some] at h
  obtain ⟨sp, he⟩ := thI_ex h
  exact ⟨i, sp, rfl, he⟩
theorem thr_is (hw : KW k) (n : Int) : gIs k n 94 = (k.thr n).isSome := by
 cases hi : k.ix n with
 | none => rw [gIs_none hi]; unfold Kn.thr; rw [hi]; rfl
 | some i =>
  obtain ⟨⟨th, sp⟩, he⟩ := hw.en hi
  rw [gIs_some hi he]; unfold Kn.thr Kn.thI; rw [hi, Option.bind_some, he]
  cases th <;> rfl
theorem setI_eq (he : k.ar[i]? = some ⟨.thr t c s b, sp⟩) (f : ThrM → ThrM) : k.setI i f = { k with ar := setA k.ar i (.thr (f t) c s b) } := by
 unfold Kn.setI; rw [thI_eq he]
theorem setThr_eq (hi : k.ix n = some i) (he : k.ar[i]? = some ⟨.thr t c s b, sp⟩) (f : ThrM → ThrM) : k.setThr n f = { k with ar := setA k.ar i (.thr (f t) c s b) } := by
 unfold Kn.setThr; rw [hi]; exact setI_eq he f
theorem setThr_none (hx : k.thr n = none) (f : ThrM → ThrM) : k.setThr n f = k := by
 unfold Kn.setThr
 cases hi : k.ix n with
 | none => rfl
 | some i =>
  unfold Kn.thr at hx; rw [hi, Option.bind_some] at hx
  show k.setI i f = k
  unfold Kn.setI; rw [hx]
theorem be_eq (hi : k.ix n = some i) (he : k.ar[i]? = some ⟨.thr t c s b, sp⟩) (x : ThrM) : k.be n x = { k with ar := setA k.ar i (.thr x c s b), L := beL k.L n x } := by
 unfold Kn.be; rw [setThr_eq hi he]
end thr
structure Kp (k k' : Kn) : Prop where
  mp : k'.mp = k.mp
  th : ∀ (i : Nat) (t : ThrM) (c : CapM) (s b : Int) (sp : Int × Int), k.ar[i]? = some ⟨.thr t c s b, sp⟩ → ∃ t', k'.ar[i]? = some ⟨.thr t' c s b, sp⟩
theorem Kp.refl (k : Kn) : Kp k k := ⟨rfl, fun i t c s b sp h => ⟨t, h⟩⟩
theorem Kp.trans {a b c : Kn} (h : Kp a b) (g : Kp b c) : Kp a c := ⟨g.mp.trans h.mp, fun i t cc s bb sp he => by obtain ⟨t1, h1⟩ := h.th i t cc s bb sp he; exact g.th i t1 cc s bb sp h1⟩
theorem Kp.ix {a b : Kn} (h : Kp a b) (n : Int) : b.ix n = a.ix n := by unfold Kn.ix; rw [h.mp]
theorem setA_get {ar : List En} {i j : Nat} {th : Th} {en : En} (h : (setA ar i th)[j]? = some en) : (j = i ∧ en.th = th ∧ ∃ e0, ar[i]? = some e0 ∧ en.sp = e0.sp) ∨ (j ≠ i ∧ ar[j]? = some en) := by
 by_cases e : j = i
 ·
  subst e
  left
  cases h0 : ar[j]? with
  | none => unfold setA at h; simp [h0] at h
  | some e0 => rw [setA_same h0] at h; cases h; exact ⟨rfl, rfl, e0, rfl, rfl⟩
 ·
  rw [setA_ne e] at h; exact .inr ⟨e, h⟩
theorem KW.setA {k : Kn} (h : KW k) {i : Nat} {th : Th} (ht : ThOk th) : KW { k with ar := setA k.ar i th } := by
 obtain ⟨h1, h2, h3, h5, h6, h7, h8, h9, h10, h11⟩ := h
 refine ⟨h1, h2, h3, ?_, h6, h7, h8, h9, ?_, h11⟩
 ·
  dsimp only; rw [setA_len]; exact h5
 ·
  intro j en he
  rcases setA_get he with ⟨_, e2, _⟩ | ⟨_, e2⟩
  ·
   rw [e2]; exact ht
  ·
   exact h10 j en e2
theorem Kp.setThr' {k : Kn} {i : Nat} {t : ThrM} {c : CapM} {s b : Int} {sp : Int × Int} (he : k.ar[i]? = some ⟨.thr t c s b, sp⟩) (t' : ThrM) {k' : Kn} (hm : k'.mp = k.mp) (ha : k'.ar = setA k.ar i (.thr t' c s b)) : Kp k k' := by
 refine ⟨hm, fun j t1 c1 s1 b1 sp1 h1 => ?_⟩
 rw [ha]
 by_cases e : j = i
 ·
  subst e
  rw [he] at h1; cases h1
  exact ⟨t', setA_same he _⟩
 ·
  rw [setA_ne e]; exact ⟨t1, h1⟩
theorem KW.setI {k : Kn} (h : KW k) (i : Nat) {f : ThrM → ThrM} (hf : ∀ t, ThW t → ThW (f t)) : KW (k.setI i f) ∧ Kp k (k.setI i f) := by
 cases ht : k.thI i with
 | none => unfold Kn.setI; rw [ht]; exact ⟨h, Kp.refl _⟩
 | some x =>
  obtain ⟨t, c, s, b⟩ := x
  obtain ⟨sp, he⟩ := thI_ex ht
  rw [setI_eq he]
  have := h.ths i _ he
  exact ⟨h.setA ⟨hf _ this.1, this.2⟩, Kp.setThr' he (f t) rfl rfl⟩
theorem KW.setThr {k : Kn} (h : KW k) (n : Int) {f : ThrM → ThrM} (hf : ∀ t, ThW t → ThW (f t)) : KW (k.setThr n f) ∧ Kp k (k.setThr n f) := by
 unfold Kn.setThr
 split
 ·
  exact h.setI _ hf
 ·
  exact ⟨h, Kp.refl _⟩
theorem sdR {L : Nat → Ones} (h : ∀ d, d < 4 → N64 ((L d).map (·.1))) (n : Int) : ∀ d, d < 4 → N64 ((sdL L n d).map (·.1)) := by
 intro d hd
 cases hf : findM L n with
 | none => rw [show sdL L n = L by unfold sdL; rw [hf]]; exact h d hd
 | some dk =>
  obtain ⟨d', k'⟩ := dk
  rw [show sdL L n = fset L d' (dropR (L d') n) by unfold sdL; rw [hf]]
  by_cases e : d = d'
  ·
   subst e; rw [fset_same]; exact (h d hd).sub (List.filter_sublist.map _)
  ·
   rw [fset_ne e]; exact h d hd
theorem spR {L : Nat → Ones} (h : ∀ d, d < 4 → N64 ((L d).map (·.1))) (n dm k : Int) : ∀ d, d < 4 → N64 ((spL L n dm k d).map (·.1)) := by
 intro d hd
 unfold spL
 split
 ·
  by_cases e : d = dm.toNat
  ·
   subst e; rw [fset_same]
   unfold putR
   split
   ·
    rename_i hp
    rw [List.map_append]
    unfold putE at hp
    split at hp
    ·
     omega
    ·
     rename_i hr
     split at hp
     ·
      omega
     ·
      rename_i hin
      have hr2 : rightM n = true := by
       cases hq : rightM n with
       | true => rfl
       | false => rw [hq] at hr; exact absurd rfl hr
      have hnm : n ∉ (L dm.toNat).map (·.1) := by simpa [inR] using hin
      exact ⟨List.nodup_append.2 ⟨(h _ hd).1, by simp, fun a ha b hb => by simp at hb; subst hb; rintro rfl; exact hnm ha⟩, fun y hy => by
       rcases List.mem_append.1 hy with hy | hy
       ·
        exact (h _ hd).2 y hy
       ·
        simp at hy; subst hy; exact hr2⟩
   ·
    exact h _ hd
  ·
   rw [fset_ne e]; exact h d hd
 ·
  exact h d hd
theorem KW.setL {k : Kn} (h : KW k) {L : Nat → Ones} (h1 : RdysW L) (h2 : ∀ d, d < 4 → N64 ((L d).map (·.1))) : KW { k with L := L } :=
  ⟨h.len, h.wok, h.nk, h.mp, h.q, h.at_, h1, h2, h.ths, h.tk⟩
theorem KW.be {k : Kn} (h : KW k) (n : Int) {x : ThrM} (hx : ThW x) : KW (k.be n x) ∧ Kp k (k.be n x) := by
 obtain ⟨h1, h2⟩ := h.setThr n (f := fun _ => x) (fun _ _ => hx)
 have e1 : RdysW (beL k.L n x) := by
  unfold beL; split
  ·
   exact spW (sdW h.rw n) _ _ _
  ·
   exact sdW h.rw n
 have e2 : ∀ d, d < 4 → N64 ((beL k.L n x d).map (·.1)) := by
  unfold beL; split
  ·
   exact spR (sdR h.rr n) _ _ _
  ·
   exact sdR h.rr n
 exact ⟨h1.setL e1 e2, ⟨h2.mp, h2.th⟩⟩
def Kn.wake (k : Kn) (n : Int) (r : RegsM) : Kn := match k.thr n with
  | none => k
  | some x => if (wakeTM x.1 r).2 = 0 then k.be n (wakeTM x.1 r).1 else k
def Kn.excuse (k : Kn) (n e : Int) : Kn := match k.thr n with
  | none => k
  | some x => k.wake n (ansR x.1.regs e)
def Kn.orphan (k : Kn) (i : Nat) : Kn := match k.thI i with
  | none => k
  | some x => if x.1.caller ≠ -1 then (k.setI i (fun t => { t with caller := -1 })).excuse x.1.caller 8 else k
def Kn.allT (k : Kn) (f : ThrM → ThrM) : Nat → Kn
  | 0 => k
  | m + 1 => (k.allT f m).setThr m f
def Kn.cancelE (k : Kn) (on n : Int) : Kn := match k.ix on with
  | none => k
  | some j => match k.ar[j]? with
    | some ⟨.ep S, _⟩ => { k with ar := setA k.ar j (.ep ⟨S.w, remL S.l n⟩) }
    | _ => k
def Kn.cancelN (k : Kn) (on n : Int) : Kn := match k.ix on with
  | none => k
  | some j => match k.ar[j]? with
    | some ⟨.nt S, _⟩ => { k with ar := setA k.ar j (.nt ⟨S.w, remL S.l n, S.b⟩) }
    | _ => k
def forgetT (n : Int) (t : ThrM) : ThrM := if t.caller = n then { t with caller := -1 } else t
def Kn.halt (k : Kn) (n : Int) : Kn := match k.ix n, k.thr n with
  | some i, some x => ((((k.cancelE x.1.on n).cancelN x.1.on n).be n (stopT x.1)).orphan i).allT (forgetT n) 64
  | _, _ => k
theorem ThW.caller {t : ThrM} (h : ThW t) {v : Int} (hv : I64 v) : ThW { t with caller := v } := ⟨⟨h.wf.st, h.wf.on, h.wf.badge, hv, h.wf.lvl, h.wf.dom, h.wf.pc, h.wf.regs⟩, h.pc⟩
theorem ThW.still {t : ThrM} (h : ThW t) {s : Int} (hs : I64 s) : ThW (stillT t s) := ⟨⟨hs, show I64 0 by decide, show U64 0 by decide, h.wf.caller, h.wf.lvl, h.wf.dom, h.wf.pc, h.wf.regs⟩, h.pc⟩
theorem ThW.regs {t : ThrM} (h : ThW t) {r : RegsM} (hr : r.Ok) : ThW { t with regs := r } := ⟨⟨h.wf.st, h.wf.on, h.wf.badge, h.wf.caller, h.wf.lvl, h.wf.dom, h.wf.pc, hr⟩, h.pc⟩
theorem ans_ok {r : RegsM} (h : r.Ok) {e : Int} (he : U64 e) : (ansR r e).Ok := ⟨he, h.o1, h.o2, h.o3, h.o4, h.o5, h.o6, h.o7⟩
theorem KW.thrW {k : Kn} (h : KW k) {n : Int} {x : ThrM × CapM × Int × Int} (hx : k.thr n = some x) : ThW x.1 := by
 obtain ⟨i, sp, _, he⟩ := thr_ex hx
 exact (h.ths i _ he).1
theorem wake_w {t : ThrM} (h : ThW t) {r : RegsM} (hr : r.Ok) (h0 : (wakeTM t r).2 = 0) : ThW (wakeTM t r).1 := by
 unfold wakeTM at *
 split at h0
 ·
  rename_i hc; rw [if_pos hc]; exact (h.still (by decide : I64 1)).regs hr
 ·
  rename_i hc; exact absurd h0 hc
theorem KW.wake {k : Kn} (h : KW k) (n : Int) {r : RegsM} (hr : r.Ok) : KW (k.wake n r) ∧ Kp k (k.wake n r) := by
 unfold Kn.wake
 split
 ·
  exact ⟨h, Kp.refl _⟩
 ·
  rename_i x hx
  split
  ·
   rename_i h0; exact h.be n (wake_w (h.thrW hx) hr h0)
  ·
   exact ⟨h, Kp.refl _⟩
theorem KW.excuse {k : Kn} (h : KW k) (n : Int) {e : Int} (he : U64 e) : KW (k.excuse n e) ∧ Kp k (k.excuse n e) := by
 unfold Kn.excuse
 split
 ·
  exact ⟨h, Kp.refl _⟩
 ·
  rename_i x hx; exact h.wake n (ans_ok (h.thrW hx).wf.regs he)
theorem KW.orphan {k : Kn} (h : KW k) (i : Nat) : KW (k.orphan i) ∧ Kp k (k.orphan i) := by
 unfold Kn.orphan
 split
 ·
  exact ⟨h, Kp.refl _⟩
 ·
  rename_i x hx
  split
  ·
   obtain ⟨h1, h2⟩ := h.setI i (f := fun t => { t with caller := -1 }) (fun t ht => ht.caller (by decide))
   obtain ⟨h3, h4⟩ := h1.excuse x.1.caller (e := 8) (by decide)
   exact ⟨h3, h2.trans h4⟩
  ·
   exact ⟨h, Kp.refl _⟩
theorem KW.allT {k : Kn} (h : KW k) {f : ThrM → ThrM} (hf : ∀ t, ThW t → ThW (f t)) : ∀ m : Nat, KW (k.allT f m) ∧ Kp k (k.allT f m)
  | 0 => ⟨h, Kp.refl _⟩
  | m + 1 => by
    obtain ⟨h1, h2⟩ := h.allT hf m
    obtain ⟨h3, h4⟩ := h1.setThr m hf
    exact ⟨h3, h2.trans h4⟩
theorem Kp.other {k : Kn} {j : Nat} {en : En} {th : Th} (he : k.ar[j]? = some en) (hn : ∀ t c s b, en.th ≠ .thr t c s b) : Kp k { k with ar := Proofs.YtipncceiekalfaaGreat.setA k.ar j th } := by
 refine ⟨rfl, fun i t c s b sp h1 => ?_⟩
 by_cases e : i = j
 ·
  subst e; rw [he] at h1; cases h1; exact absurd rfl (hn t c s b)
 ·
  dsimp only; rw [setA_ne e]; exact ⟨t, h1⟩
theorem KW.cancelE {k : Kn} (h : KW k) (on n : Int) : KW (k.cancelE on n) ∧ Kp k (k.cancelE on n) := by
 unfold Kn.cancelE
 split
 ·
  exact ⟨h, Kp.refl _⟩
 ·
  split
  ·
   rename_i S sp he
   have := h.ths _ _ he
   exact ⟨h.setA (N64.rem this n), Kp.other he (by intro t c s b; simp)⟩
  ·
   exact ⟨h, Kp.refl _⟩
theorem KW.cancelN {k : Kn} (h : KW k) (on n : Int) : KW (k.cancelN on n) ∧ Kp k (k.cancelN on n) := by
 unfold Kn.cancelN
 split
 ·
  exact ⟨h, Kp.refl _⟩
 ·
  split
  ·
   rename_i S sp he
   have := h.ths _ _ he
   exact ⟨h.setA ⟨N64.rem this.1 n, this.2⟩, Kp.other he (by intro t c s b; simp)⟩
  ·
   exact ⟨h, Kp.refl _⟩
theorem forget_w (n : Int) (t : ThrM) (h : ThW t) : ThW (forgetT n t) := by
 unfold forgetT; split
 ·
  exact h.caller (by decide)
 ·
  exact h
theorem KW.halt {k : Kn} (h : KW k) (n : Int) : KW (k.halt n) ∧ Kp k (k.halt n) := by
 unfold Kn.halt
 split
 ·
  rename_i i x hi hx
  obtain ⟨a1, b1⟩ := h.cancelE x.1.on n
  obtain ⟨a2, b2⟩ := a1.cancelN x.1.on n
  obtain ⟨a3, b3⟩ := a2.be n (x := stopT x.1) ((h.thrW hx).still (by decide))
  obtain ⟨a4, b4⟩ := a3.orphan i
  obtain ⟨a5, b5⟩ := a4.allT (forget_w n) 64
  exact ⟨a5, (((b1.trans b2).trans b3).trans b4).trans b5⟩
 ·
  exact ⟨h, Kp.refl _⟩
end Go.Proofs.YtipncceiekalfaaGreat
end
section
set_option linter.unusedVariables false
set_option linter.unusedSimpArgs false
set_option linter.unusedSectionVars false
namespace Go.Proofs.YtipncceiekalfaaGreat
open Go.SL
def spcAt (k : Kn) (s : Int) : Int := match k.en s with
  | some en => en.sp.1
  | none => 0
theorem spcAt_eq {k : Kn} {s : Int} {j : Nat} {en : En} (hj : k.ix s = some j) (he : k.ar[j]? = some en) : spcAt k s = en.sp.1 := by unfold spcAt Kn.en; rw [hj, Option.bind_some, he]
def noAt (s a : Int) : Prop := s = -1 ∨ a ≥ 4096
instance (s a : Int) : Decidable (noAt s a) := by unfold noAt; infer_instance
def Kn.atR (k : Kn) (s a : Int) (wr : Bool) : Int × Int := if noAt s a then (0, 12) else toR k.tl k.ws s (spcAt k s) a wr
def Kn.atK (k : Kn) (s a : Int) : Kn := { k with tl := if noAt s a then k.tl else toL k.tl k.ws s (spcAt k s) a }
def Kn.loadR (k : Kn) (s a : Int) : Int × Int := if (k.atR s a false).2 ≠ 0 then (0, (k.atR s a false).2) else memGet k.ws (k.atR s a false).1
theorem tlb_len (l : List KeptM) (sp pg : Int) : (tlbDrop l sp pg).length ≤ l.length := List.length_filter_le _ _
theorem fill_len (l : List KeptM) (sp pg : Int) (e : PteM) (h : l.length ≤ 7) : (fillS l sp pg e).length ≤ l.length + 1 := by
 unfold fillS
 split
 ·
  (unfold fillL; have := tlb_len l sp pg; simp only [List.length_append, List.length_singleton]; split <;> simp <;> omega)
 ·
  omega
theorem to_len (l : List KeptM) (ws : List Int) (sp dir a : Int) (h : l.length ≤ 7) : (toL l ws sp dir a).length ≤ l.length + 1 := by
 unfold toL
 split
 ·
  omega
 ·
  split
  ·
   omega
  ·
   exact fill_len _ _ _ _ h
theorem fill_ok {l : List KeptM} (h : KOk l) (sp pg : Int) {e : PteM} (he : 0 ≤ e.at_ ∧ e.at_ ≤ 65520) (hr : l.length ≤ 7) : KOk (fillS l sp pg e) := by
 have hd : KOk (tlbDrop l sp pg) := fun x hx => h x (List.mem_filter.1 hx).1
 intro x hx
 unfold fillS at hx
 split at hx
 ·
  have hlen := tlb_len l sp pg
  have hx2 : x ∈ tlbDrop l sp pg ++ [⟨sp, pg, e⟩] := by
   (unfold fillL at hx; dsimp only at hx; split at hx; exact List.mem_of_mem_tail hx; exact hx)
  rcases List.mem_append.1 hx2 with h1 | h1
  ·
   exact hd x h1
  ·
   simp at h1; subst h1; exact he
 ·
  exact h x hx
theorem to_ok {l : List KeptM} (h : KOk l) (ws : List Int) (sp dir a : Int) (hr : l.length ≤ 7) : KOk (toL l ws sp dir a) := by
 unfold toL
 split
 ·
  exact h
 ·
  split
  ·
   exact h
  ·
   exact fill_ok h _ _ (pageM_at _ _ _) hr
theorem KW.atK {k : Kn} (h : KW k) (s a : Int) (hr : k.tl.length ≤ 7) : KW (k.atK s a) := by
 refine ⟨h.len, h.wok, h.nk, h.mp, h.q, h.at_, h.rw, h.rr, h.ths, ?_⟩
 unfold Kn.atK
 dsimp only
 split
 ·
  exact h.tk
 ·
  exact ⟨to_ok h.tk.1 _ _ _ _ hr, by have := to_len k.tl k.ws s (spcAt k s) a hr; omega⟩
theorem atK_len {k : Kn} (s a : Int) (hr : k.tl.length ≤ 7) : (k.atK s a).tl.length ≤ k.tl.length + 1 := by
 unfold Kn.atK
 dsimp only
 split
 ·
  omega
 ·
  exact to_len _ _ _ _ _ hr
theorem KW.setM {k : Kn} (h : KW k) (a : Int) {v : Int} (hv : U64 v) : KW { k with ws := memPut k.ws a v } :=
  ⟨by dsimp only; rw [memPut_len]; exact h.len, h.wok.put a hv, h.nk, h.mp, h.q, h.at_, h.rw, h.rr, h.ths, h.tk⟩
theorem EffM.setr {x : EffM} {i : Nat} {v : Int} (h : i < 8) : SetL [.int .u64 x.regs.r0, .int .u64 x.regs.r1, .int .u64 x.regs.r2, .int .u64 x.regs.r3, .int .u64 x.regs.r4, .int .u64 x.regs.r5, .int .u64 x.regs.r6, .int .u64 x.regs.r7,
    .int .i64 x.pc, .int .i64 x.asks, .int .u64 x.at_, .int .i64 x.reg, .int .u64 x.val] i [.int .u64 v]
    [.int .u64 (x.regs.set v i).r0, .int .u64 (x.regs.set v i).r1, .int .u64 (x.regs.set v i).r2, .int .u64 (x.regs.set v i).r3, .int .u64 (x.regs.set v i).r4, .int .u64 (x.regs.set v i).r5, .int .u64 (x.regs.set v i).r6, .int .u64 (x.regs.set v i).r7,
    .int .i64 x.pc, .int .i64 x.asks, .int .u64 x.at_, .int .i64 x.reg, .int .u64 x.val] := by
  match i, h with
  | 0, _ | 1, _ | 2, _ | 3, _ | 4, _ | 5, _ | 6, _ | 7, _ => exact SetL.set1 (by simp)
theorem next_pc {pc : Int} (h : 0 ≤ pc ∧ pc ≤ 4095) : 0 ≤ nextPc pc ∧ nextPc pc ≤ 4095 := by unfold nextPc; split <;> omega
theorem u64_wrap (x : Int) : U64 (IntKind.u64.wrap x) := by
 have h : IntKind.u64.wrap x = x % 18446744073709551616 := rfl
 rw [h]; unfold U64; omega
theorem sumV_u64 {op : Nat} {a b : Int} (ha : U64 a) (hb : U64 b) : U64 (sumV op a b) := by
 have hw := fun x => u64_wrap x
 have hbit : ∀ (f : BinOp), U64 (bitsI f .u64 a b) := fun f => by cases f <;> exact u64_wrap _
 have hs : U64 (a.fdiv (2 ^ (b.toNat % 64))) := by
  have h1 : (0 : Int) < 2 ^ (b.toNat % 64) := Int.pow_pos (by decide)
  rw [Int.fdiv_eq_ediv_of_nonneg _ (by omega)]
  unfold U64 at *
  refine ⟨Int.ediv_nonneg ha.1 (by omega), Int.lt_of_le_of_lt (Int.ediv_le_self _ ha.1) ha.2⟩
 unfold sumV
 repeat' split
 all_goals first | assumption | exact hw _ | exact hbit _
structure EffM.Ok (x : EffM) : Prop where
  regs : x.regs.Ok
  pc : 0 ≤ x.pc ∧ x.pc ≤ 4095
  at_ : U64 x.at_
  reg : 0 ≤ x.reg ∧ x.reg < 8
  val : U64 x.val
theorem run_ok {i : InsM} (hi : i.Ok) {r : RegsM} (hr : r.Ok) {pc : Int} (hp : 0 ≤ pc ∧ pc ≤ 4095) : (runM i r pc).Ok := by
 obtain ⟨h1, h2, h3, h4⟩ := hi
 have hn := next_pc hp
 have hu0 : U64 0 := by decide
 have hui : U64 (i.imm : Int) := by unfold U64; omega
 have hw := fun x => u64_wrap x
 have hpi : (0 : Int) ≤ i.imm ∧ (i.imm : Int) ≤ 4095 := by omega
 have hz : (0 : Int) ≤ 0 ∧ (0 : Int) < 8 := by omega
 have ha : (0 : Int) ≤ i.a ∧ (i.a : Int) < 8 := by omega
 unfold runM
 repeat' split
 all_goals first
  | exact ⟨hr.set (sumV_u64 (hr.get _) (hr.get _)) _, hn, hu0, hz, hu0⟩
  | exact ⟨hr, hp, hu0, hz, hu0⟩
  | exact ⟨hr.set hui _, hn, hu0, hz, hu0⟩
  | exact ⟨hr.set (hw _) _, hn, hu0, hz, hu0⟩
  | exact ⟨hr, hn, hw _, ha, hu0⟩
  | exact ⟨hr, hn, hw _, hz, hr.get _⟩
  | exact ⟨hr, hn, hu0, hz, hui⟩
  | exact ⟨hr, hn, hu0, hz, hu0⟩
  | exact ⟨hr, hpi, hu0, hz, hu0⟩
theorem unpI_ok {w : Nat} (h : (unpM w).2 = 0) : (unpM w).1.Ok := by
 unfold unpM at *
 split at h
 ·
  rename_i hk; rw [if_pos hk]; exact ⟨hk.2, by unfold decM; dsimp only; omega, by unfold decM; dsimp only; omega, by unfold decM; dsimp only; omega⟩
 ·
  cases h
abbrev doneT (x : EffM) (t : ThrM) : ThrM := { t with regs := x.regs, pc := x.pc }
def badI (k : Kn) (t : ThrM) (s : Int) : Prop := (k.loadR s t.pc).2 ≠ 0 ∨ (unpM (k.loadR s t.pc).1.toNat).2 ≠ 0
instance (k : Kn) (t : ThrM) (s : Int) : Decidable (badI k t s) := by unfold badI; infer_instance
def effI (k : Kn) (t : ThrM) (s : Int) : EffM := runM (unpM (k.loadR s t.pc).1.toNat).1 t.regs t.pc
def Kn.run (callF : Kn → Int → Kn × Bool) (k : Kn) (i : Nat) (t : ThrM) (s : Int) : Kn × Bool :=
  let k1 := k.atK s t.pc
  let x := effI k t s
  if badI k t s then (k1, false)
  else if x.asks = 4 then (k1, false)
  else if x.asks = 1 then
    (if (k1.loadR s x.at_).2 ≠ 0 then (k1.atK s x.at_, false) else ((k1.atK s x.at_).setI i (doneT { x with regs := x.regs.set (k1.loadR s x.at_).1 x.reg.toNat }), true))
  else if x.asks = 2 then
    (if (k1.atR s x.at_ true).2 ≠ 0 then (k1.atK s x.at_, false)
     else if memPutE k1.ws (k1.atR s x.at_ true).1 ≠ 0 then (k1.atK s x.at_, false)
     else (({ k1.atK s x.at_ with ws := memPut k1.ws (k1.atR s x.at_ true).1 x.val } : Kn).setI i (doneT x), true))
  else if x.asks = 3 then
    (let q := callF (k1.setI i (doneT x)) x.val
     (if q.2 = true then q.1.setI i (fun u => { u with pc := t.pc }) else q.1, true))
  else (k1.setI i (doneT x), true)
end Go.Proofs.YtipncceiekalfaaGreat
end
section
set_option linter.unusedVariables false
set_option linter.unusedSimpArgs false
set_option linter.unusedSectionVars false
namespace Go.Proofs.YtipncceiekalfaaGreat
open Go.SL
def Kn.cur (k : Kn) : Int := nextV (k.L (domN k.T k.e))
def Kn.curB (k : Kn) : Bool := nextB (k.L (domN k.T k.e))
def Kn.step (callF : Kn → Int → Nat → Int → Kn × Bool) (k : Kn) : Kn × Bool :=
  if k.curB = true then
    match k.ix k.cur, k.thr k.cur with
    | some i, some x =>
      let q := k.run (fun k' c => callF k' k.cur i c) i x.1 x.2.2.1
      (if q.2 = true then q.1 else q.1.halt k.cur, true)
    | _, _ => (k, true)
  else (k, false)
def Kn.named (k : Kn) (c : CapM) : Bool := if c.kind = 0 ∨ c.kind = 10 ∨ c.kind = 11 then true else if c.kind = 9 then decide (0 ≤ c.object ∧ c.object < 8) else k.isK c.object c.kind
def Kn.plant (k : Kn) (s : SlotM) (c : CapM) : Int × Kn := if k.named c = false then (3, k) else ((mPlant k.p s c).1, { k with p := (mPlant k.p s c).2, nk := k.nk + 1 })
def Kn.startE (k : Kn) (n : Int) : Int := match k.thr n with
  | none => 3
  | some x => (startTM x.1).2
def Kn.start (k : Kn) (n : Int) : Kn := match k.thr n with
  | none => k
  | some x => if (startTM x.1).2 = 0 then k.be n (startTM x.1).1 else k
def setupE (k : Kn) (n lvl dom pc : Int) (root : CapM) (space : Int) : Int := match k.thr n with
  | none => 3
  | some x => if (newTM lvl dom).2 ≠ 0 then (newTM lvl dom).2 else if pc < 0 ∨ pc ≥ 4096 then 1 else if x.1.st ≠ 0 then 8
    else if root.kind ≠ 2 ∨ k.named root = false ∨ (space ≠ -1 ∧ k.isK space 8 = false) then 2 else 0
def Kn.setup (k : Kn) (n lvl dom pc : Int) (root : CapM) (space : Int) (r : RegsM) : Kn :=
  if setupE k n lvl dom pc root space ≠ 0 then k else
  match k.ix n, k.thr n with
  | some i, some x => { k with ar := setA k.ar i (.thr { newT lvl dom with pc := pc, regs := r, caller := x.1.caller } root space x.2.2.2) }
  | _, _ => k
def Kn.page (k : Kn) (n : Int) : Option (Int × Bool × Int × Int) := match k.en n with
  | some ⟨.page q m s a, _⟩ => some (q, m, s, a)
  | _ => none
def mapE (k : Kn) (n into a : Int) (wr : Bool) : Int := match k.page n with
  | none => 3
  | some x => if k.isK into 8 = false then 3 else if x.2.1 = true then 4
    else if x.1 = 7 then tableE k.ws (spcAt k into) a (spcAt k n) else smapE k.ws (spcAt k into) a (spcAt k n) wr
def Kn.map (k : Kn) (n into a : Int) (wr : Bool) : Kn := match k.ix n, k.page n with
  | some i, some x => if mapE k n into a wr ≠ 0 then k else
      { k with ws := if x.1 = 7 then tableW k.ws (spcAt k into) a (spcAt k n) else smapW k.ws (spcAt k into) a (spcAt k n) wr, ar := setA k.ar i (.page x.1 true into a) }
  | _, _ => k
end Go.Proofs.YtipncceiekalfaaGreat
end
section
set_option linter.unusedVariables false
set_option linter.unusedSimpArgs false
set_option linter.unusedSectionVars false
namespace Go.SL
attribute [local semireducible] Ops Wp Ends Goes Ef AnyH Turn Tr Pv Res RVal
def TrPostE (R : Value → Hp → Prop) (X : List PanicEntry → Hp → Prop) (W : World) (F : Hp) : Ending → World → Prop := fun e w' =>
  (∃ v L', e = .returned v ∧ R v L' ∧ Own W w' (L' ++ F)) ∨ ∃ c L', e = .panicked c ∧ X c L' ∧ Own W w' (L' ++ F)
def TrE (P : Program) (f : FuncId) (args : List Value) (L : Hp) (R : Value → Hp → Prop) (X : List PanicEntry → Hp → Prop) : Prop :=
  ∀ W w F, Own W w (L ++ F) → Calls P f args.toArray w (TrPostE R X W F)
theorem TrE.enter {P : Program} {f : FuncId} {fn : Func} {c : Code} {n : Nat} {args : List Value} {L : Hp} {R : Value → Hp → Prop} {X : List PanicEntry → Hp → Prop}
    (hf : P.funcs[f]? = some fn) (hb : fn.body = some c) (hn : fn.ntmps = n) (hle : Nat.ble args.length n = true)
    (h : ∀ W F, Wp P W (bodyPost P fn (TrPostE R X W F)) n [] c (argsEnv 0 args) (L ++ F)) : TrE P f args L R X := fun W w F ho =>
  calls_of_wp hf hb (by
    subst hn
    exact h W F _ w (sees_start hle) ho)
theorem TrE.mono {P : Program} {f : FuncId} {args : List Value} {L : Hp} {R R' : Value → Hp → Prop} {X X' : List PanicEntry → Hp → Prop} (h : TrE P f args L R X) (hr : ∀ v L', R v L' → R' v L') (hx : ∀ c L', X c L' → X' c L') : TrE P f args L R' X' :=
  fun W w F ho => (h W w F ho).mono fun _ _ h => by
    rcases h with ⟨v, L', he, hR, ho'⟩ | ⟨c, L', he, hX, ho'⟩
    · exact .inl ⟨v, L', he, hr _ _ hR, ho'⟩
    · exact .inr ⟨c, L', he, hx _ _ hX, ho'⟩
class PT (W : World) (D : List Deferred) (Q : Exit → Act → World → Prop) (X : outParam (List PanicEntry → Hp → Prop)) (F : outParam Hp) : Prop where
  pt : ∀ c a w L', a.defers = D → X c L' → Own W w (L' ++ F) → Q (.panic c) a w
instance PT.body {P : Program} {W : World} {fn : Func} {R : Value → Hp → Prop} {X : List PanicEntry → Hp → Prop} {F : Hp} : PT W [] (bodyPost P fn (TrPostE R X W F)) X F :=
  ⟨fun c a w L' hd hx ho => ⟨hd, .inr ⟨c, L', rfl, hx, ho⟩⟩⟩
instance PT.then_ {W : World} {D : List Deferred} {Q : Exit → Act → World → Prop} {K : Act → World → Prop} {X : List PanicEntry → Hp → Prop} {F : Hp} [h : PT W D Q X F] : PT W D (Exit.then K Q) X F := ⟨h.pt⟩
instance PT.block_ {W : World} {D : List Deferred} {Q : Exit → Act → World → Prop} {id : Nat} {X : List PanicEntry → Hp → Prop} {F : Hp} [h : PT W D Q X F] : PT W D (Exit.inBlock id Q) X F := ⟨h.pt⟩
section
variable {P : Program} {W : World} {ops : Array Oper} {Q : Exit → Act → World → Prop} {n : Nat} {D : List Deferred} {E : Env} {L : Hp} {rest : List Oper} {ty : TypeId} {pos : String} {aft : Array Edge} {g : Option (Nat × Bool)} {K : Env → Hp → Prop} {X Y : List PanicEntry → Hp → Prop} {G : Hp}
def EfX (P : Program) (W : World) (n : Nat) (D : List Deferred) (o : Oper) (E : Env) (L : Hp) (K : Env → Hp → Prop) (X : List PanicEntry → Hp → Prop) : Prop :=
  ∀ (Q : Exit → Act → World → Prop) a w (next : Act → World → Prop), Sees n D E a → Own W w L →
    (∀ E' L' a' w', K E' L' → Sees n D E' a' → Own W w' L' → next a' w') → (∀ c L' w', X c L' → Own W w' L' → Q (.panic c) a w') → o.wp P a w next Q
theorem pv_iface {d : Option Tmp} {T : TypeId} {x : Operand} {v : Value} {S : Hp} {dsc : TypeDesc} [ht : TyD P T dsc] (hd : (match dsc with | .interface _ => false | _ => true) = true) (hx : ev E x = some v) : Pv P n D E S ⟨d, .makeInterface T x, ty, pos, aft, g⟩ (.iface T v) := fun a w hs _ => by
 simp only [execOp, hs.ev hx, Instr.makeInterface, Sem.run_bind, TyD.run, Result.andThen_ok, Sem.run_pure]
 cases dsc <;> simp_all
end
section
variable {P : Program} {W : World} {ops : Array Oper} {Q : Exit → Act → World → Prop} {n : Nat} {D : List Deferred} {E : Env} {L : Hp} {rest : List Oper} {ty : TypeId} {pos : String} {aft : Array Edge} {g : Option (Nat × Bool)} {K : Env → Hp → Prop} {X Y : List PanicEntry → Hp → Prop} {G : Hp}
end
attribute [irreducible] TrE EfX
end Go.SL
end
section
set_option linter.unusedVariables false
set_option linter.unusedSimpArgs false
set_option linter.unusedSectionVars false
namespace Go.Proofs.YtipncceiekalfaaGreat
open Go.SL
def Kn.free (k : Kn) (n : Int) : Bool := (k.ix n).isNone && decide (dradix k.p.l n = 0)
def clash (kd : Int) (s : Int × Int) (en : En) : Bool := !(decide (apartS s en.sp) || decide (en.th.kind = 1 ∧ kd = 1) || decide (en.th.kind = 1 ∧ inS s en.sp) || decide (kd = 1 ∧ inS en.sp s))
def clashI (k : Kn) (kd : Int) (s : Int × Int) (i : Nat) : Bool := match k.ar[i]? with
  | none => false
  | some en => clash kd s en
def Kn.taken (k : Kn) (kd : Int) (s : Int × Int) : Bool := k.mp.any fun e => clashI k kd s e.2.1
def seenI (k : Kn) (kd : Int) (s : Int × Int) (seen : Array Nat) : Prop := ∀ e, e ∈ k.mp → seen.contains e.2.2 = true → clashI k kd s e.2.1 = false
def unseen (k : Kn) (seen : Array Nat) : Nat := (k.mp.filter fun e => !seen.contains e.2.2).length
theorem stamp_inj {k : Kn} (hn : (k.mp.map (·.2.2)).Nodup) {a b : Int × Nat × Nat} (ha : a ∈ k.mp) (hb : b ∈ k.mp) (h : a.2.2 = b.2.2) : a = b := by
 generalize k.mp = l at *
 induction l with
 | nil => cases ha
 | cons x l ih =>
  simp only [List.map_cons, List.nodup_cons] at hn
  rcases List.mem_cons.1 ha with ea | ha2
  ·
   rcases List.mem_cons.1 hb with eb | hb2
   ·
    rw [ea, eb]
   ·
    exact (hn.1 (List.mem_map.2 ⟨b, hb2, by rw [← h, ea]⟩)).elim
  ·
   rcases List.mem_cons.1 hb with eb | hb2
   ·
    exact (hn.1 (List.mem_map.2 ⟨a, ha2, by rw [h, eb]⟩)).elim
   ·
    exact ih hn.2 ha2 hb2
theorem seen_start (k : Kn) (kd : Int) (s : Int × Int) : seenI k kd s #[] := fun e _ h => by simp at h
theorem seen_push {k : Kn} (hn : (k.mp.map (·.2.2)).Nodup) {kd : Int} {s : Int × Int} {seen : Array Nat} (h : seenI k kd s seen) {e : Int × Nat × Nat} (he : e ∈ k.mp) (hc : clashI k kd s e.2.1 = false) : seenI k kd s (seen.push e.2.2) := by
 intro x hx hs
 simp only [Array.contains_eq_mem, Array.mem_push, decide_eq_true_eq] at hs
 rcases hs with hs | hs
 ·
  exact h x hx (by simpa [Array.contains_eq_mem] using hs)
 ·
  rw [stamp_inj hn hx he hs]; exact hc
theorem seen_all {k : Kn} {kd : Int} {s : Int × Int} {seen : Array Nat} (h : seenI k kd s seen) (ha : ∀ e, e ∈ k.mp → seen.contains e.2.2 = true) : k.taken kd s = false := by
 unfold Kn.taken
 rw [List.any_eq_false]
 intro e he
 rw [h e he (ha e he)]; decide
theorem unseen_push (k : Kn) (seen : Array Nat) {e : Int × Nat × Nat} (he : e ∈ k.mp) (hs : seen.contains e.2.2 = false) : unseen k (seen.push e.2.2) < unseen k seen := by
 unfold unseen
 generalize k.mp = l at *
 induction l with
 | nil => cases he
 | cons x l ih =>
  have hle : ∀ m : List (Int × Nat × Nat), (m.filter fun y => !(seen.push e.2.2).contains y.2.2).length ≤ (m.filter fun y => !seen.contains y.2.2).length := by
   intro m
   induction m with
   | nil => exact Nat.le_refl _
   | cons y m ih =>
    simp only [List.filter_cons]
    by_cases h1 : seen.contains y.2.2 = true
    ·
     have h2 : (seen.push e.2.2).contains y.2.2 = true := by
      simp only [Array.contains_eq_mem, Array.mem_push, decide_eq_true_eq] at h1 ⊢; exact .inl h1
     simp only [h1, h2, Bool.not_true, Bool.false_eq_true, if_false]; exact ih
    ·
     have h1' : seen.contains y.2.2 = false := by simpa using h1
     simp only [h1', Bool.not_false, if_true]
     split
     ·
      simp only [List.length_cons]; omega
     ·
      simp only [List.length_cons]; omega
  rcases List.mem_cons.1 he with rfl | he
  ·
   have h2 : (seen.push e.2.2).contains e.2.2 = true := by simp [Array.contains_eq_mem]
   simp only [List.filter_cons, h2, hs, Bool.not_true, Bool.not_false, Bool.false_eq_true, if_false, if_true, List.length_cons]
   have := hle l; omega
  ·
   have := ih he
   simp only [List.filter_cons]
   by_cases h1 : seen.contains x.2.2 = true
   ·
    have h2 : (seen.push e.2.2).contains x.2.2 = true := by
     simp only [Array.contains_eq_mem, Array.mem_push, decide_eq_true_eq] at h1 ⊢; exact .inl h1
    simp only [h1, h2, Bool.not_true, Bool.false_eq_true, if_false]; exact this
   ·
    have h1' : seen.contains x.2.2 = false := by simpa using h1
    simp only [h1', Bool.not_false, if_true]
    split
    ·
     simp only [List.length_cons]; omega
    ·
     simp only [List.length_cons]; omega
theorem kv_of {k : Kn} {ad : Nat → Ad} {e : Int × Value × Nat} (h : e ∈ kvM ad k.mp) : ∃ n i st, (n, i, st) ∈ k.mp ∧ e = (n, .pointer (some ⟨(ad i).ob, 0, none⟩), st) := by
 obtain ⟨⟨n, i, st⟩, hm, rfl⟩ := List.mem_map.1 h
 exact ⟨n, i, st, hm, rfl⟩
theorem kv_nd {k : Kn} {ad : Nat → Ad} (h : (k.mp.map (·.2.2)).Nodup) : ((kvM ad k.mp).map (·.2.2)).Nodup := by
 have : (kvM ad k.mp).map (·.2.2) = k.mp.map (·.2.2) := by simp [kvM]
 rw [this]; exact h
theorem syR {L : Nat → Ones} (h : ∀ d, d < 4 → N64 ((L d).map (·.1))) (n : Int) : ∀ d, d < 4 → N64 ((syL L n d).map (·.1)) := by
 intro d hd
 cases hf : findM L n with
 | none => rw [show syL L n = L by unfold syL; rw [hf]]; exact h d hd
 | some dk =>
  obtain ⟨d', k'⟩ := dk
  rw [show syL L n = fset L d' (putR (dropR (L d') n) n k') by unfold syL; rw [hf]]
  by_cases e : d = d'
  ·
   subst e; rw [fset_same]
   have hs : N64 ((dropR (L d) n).map (·.1)) := (h d hd).sub (List.filter_sublist.map _)
   unfold putR
   split
   ·
    rename_i hp
    rw [List.map_append]
    unfold putE at hp
    split at hp
    ·
     omega
    ·
     rename_i hr
     have hr2 : rightM n = true := by
      cases hq : rightM n with
      | true => rfl
      | false => rw [hq] at hr; exact absurd rfl hr
     have hnm : n ∉ (dropR (L d) n).map (·.1) := by
      intro hm
      obtain ⟨x, hx, hxe⟩ := List.mem_map.1 hm
      have := (List.mem_filter.1 hx).2
      simp at this; exact this hxe
     exact ⟨List.nodup_append.2 ⟨hs.1, by simp, fun a ha b hb => by simp at hb; subst hb; rintro rfl; exact hnm ha⟩, fun y hy => by
      rcases List.mem_append.1 hy with hy | hy
      ·
       exact hs.2 y hy
      ·
       simp at hy; subst hy; exact hr2⟩
   ·
    exact hs
  ·
   rw [fset_ne e]; exact h d hd
end Go.Proofs.YtipncceiekalfaaGreat
end
section
set_option linter.unusedVariables false
set_option linter.unusedSimpArgs false
set_option linter.unusedSectionVars false
namespace Go.Proofs.YtipncceiekalfaaGreat
open Go.SL
abbrev pV (b : Nat) : Value := .pointer (some ⟨b, 0, none⟩)
theorem tr_kindUnt (b : Nat) : TrR Tryz.prog 303 [pV b] ([]) (.int .i64 1) := by
 refine Tr.enter Tryz.func303 rfl Tryz.ntmps303 rfl (fun W F => ?_)
 refine Wp.app ?_
 refine zq [3,4,1,2,5,3,4,1,2,5,10] ?_
 exact zr ⟨rfl, rfl⟩
theorem me_Unt : Meth Tryz.prog 107 "donjon/kernel.kind" 303 := ⟨fun b o w => by kernel_rfl⟩
theorem tr_kindThr (b : Nat) : TrR Tryz.prog 302 [pV b] ([]) (.int .i64 3) := by
 refine Tr.enter Tryz.func302 rfl Tryz.ntmps302 rfl (fun W F => ?_)
 refine Wp.app ?_
 refine zq [3,4,1,2,5,3,4,1,2,5,10] ?_
 exact zr ⟨rfl, rfl⟩
theorem me_Thr : Meth Tryz.prog 94 "donjon/kernel.kind" 302 := ⟨fun b o w => by kernel_rfl⟩
theorem tr_kindEp (b : Nat) : TrR Tryz.prog 305 [pV b] ([]) (.int .i64 4) := by
 refine Tr.enter Tryz.func305 rfl Tryz.ntmps305 rfl (fun W F => ?_)
 refine Wp.app ?_
 refine zq [3,4,1,2,5,3,4,1,2,5,10] ?_
 exact zr ⟨rfl, rfl⟩
theorem me_Ep : Meth Tryz.prog 114 "donjon/kernel.kind" 305 := ⟨fun b o w => by kernel_rfl⟩
theorem tr_kindNt (b : Nat) : TrR Tryz.prog 306 [pV b] ([]) (.int .i64 5) := by
 refine Tr.enter Tryz.func306 rfl Tryz.ntmps306 rfl (fun W F => ?_)
 refine Wp.app ?_
 refine zq [3,4,1,2,5,3,4,1,2,5,10] ?_
 exact zr ⟨rfl, rfl⟩
theorem me_Nt : Meth Tryz.prog 120 "donjon/kernel.kind" 306 := ⟨fun b o w => by kernel_rfl⟩
theorem tr_kindNode (b : Nat) : TrR Tryz.prog 309 [pV b] ([]) (.int .i64 2) := by
 refine Tr.enter Tryz.func309 rfl Tryz.ntmps309 rfl (fun W F => ?_)
 refine Wp.app ?_
 refine zq [3,4,1,2,5,3,4,1,2,5,10] ?_
 exact zr ⟨rfl, rfl⟩
theorem me_Node : Meth Tryz.prog 224 "donjon/kernel.kind" 309 := ⟨fun b o w => by kernel_rfl⟩
theorem tr_kindSpc (b : Nat) : TrR Tryz.prog 310 [pV b] ([]) (.int .i64 8) := by
 refine Tr.enter Tryz.func310 rfl Tryz.ntmps310 rfl (fun W F => ?_)
 refine Wp.app ?_
 refine zq [3,4,1,2,5,3,4,1,2,5,10] ?_
 exact zr ⟨rfl, rfl⟩
theorem me_Spc : Meth Tryz.prog 229 "donjon/kernel.kind" 310 := ⟨fun b o w => by kernel_rfl⟩
theorem tr_kindPage (b : Nat) (q : Int) (m : Bool) (s a : Int) : TrR Tryz.prog 304 [pV b] ((b, pageO q m s a) :: []) (.int .i64 q) := by
 refine Tr.enter Tryz.func304 rfl Tryz.ntmps304 rfl (fun W F => ?_)
 refine Wp.app ?_
 refine zq [3,4,1,2,5,3,4,0,9,6,8,1,2,5,10] ?_
 exact zr ⟨rfl, rfl⟩
theorem me_Page : Meth Tryz.prog 110 "donjon/kernel.kind" 304 := ⟨fun b o w => by kernel_rfl⟩
theorem gf_Unt : GoFn Tryz.prog 303 := inferInstance
theorem gf_Thr : GoFn Tryz.prog 302 := inferInstance
theorem gf_Ep : GoFn Tryz.prog 305 := inferInstance
theorem gf_Nt : GoFn Tryz.prog 306 := inferInstance
theorem gf_Node : GoFn Tryz.prog 309 := inferInstance
theorem gf_Spc : GoFn Tryz.prog 310 := inferInstance
theorem gf_Page : GoFn Tryz.prog 304 := inferInstance
theorem nil_has {L : Hp} : Has L [] := ⟨L, by simp⟩
theorem kind_of (th : Th) (b nb : Nat) : ∃ f, Meth Tryz.prog th.ty "donjon/kernel.kind" f ∧ GoFn Tryz.prog f ∧ TrR Tryz.prog f [pV b] ((b, th.obj nb) :: []) (.int .i64 th.kind) := by
 cases th with
 | unt u => exact ⟨_, me_Unt, gf_Unt, TrR.frame (hp := nil_has) (tr_kindUnt b)⟩
 | node => exact ⟨_, me_Node, gf_Node, TrR.frame (hp := nil_has) (tr_kindNode b)⟩
 | thr t c s d => exact ⟨_, me_Thr, gf_Thr, TrR.frame (hp := nil_has) (tr_kindThr b)⟩
 | ep S => exact ⟨_, me_Ep, gf_Ep, TrR.frame (hp := nil_has) (tr_kindEp b)⟩
 | nt S => exact ⟨_, me_Nt, gf_Nt, TrR.frame (hp := nil_has) (tr_kindNt b)⟩
 | spc => exact ⟨_, me_Spc, gf_Spc, TrR.frame (hp := nil_has) (tr_kindSpc b)⟩
 | page q m s a => exact ⟨_, me_Page, gf_Page, tr_kindPage b q m s a⟩
theorem tr_getThrN (k : Kn) (A : KA) (ad : Nat → Ad) (kb : Nat) (E : Hp) (hE : EnH k.ar ad E) (n : Int) (hi : k.ix n = none) : TrR Tryz.prog 33 [pV kb, .int .i64 n] ((kb, kerO A k.wi) :: (A.ob, mapO encI (kvM ad k.mp) k.ck) :: E) (.tuple #[.pointer none, .bool false]) := by
 refine Tr.enter Tryz.func33 rfl Tryz.ntmps33 rfl (fun W F => ?_)
 refine Wp.app ?_
 refine zq [3,4,1,1,2,5,3,4,1,2,5,3,4,0,9,6,8,0] ?_
 refine Ops.pv (pv_lookup_i (r := .pointer none) n rfl rfl ((kv_get k ad n).trans (by rw [hi]; rfl))) rfl ?_
 refine zq [1,2,5,3,3,4,0,59,2,5,18,3,4,0,1,1,2,5,10,12] ?_
 exact zr ⟨rfl, rfl⟩
theorem tr_getThrS (k : Kn) (A : KA) (ad : Nat → Ad) (kb : Nat) (E : Hp) (hE : EnH k.ar ad E) (n : Int) (i : Nat) (en : En) (hi : k.ix n = some i) (he : k.ar[i]? = some en) : TrR Tryz.prog 33 [pV kb, .int .i64 n] ((kb, kerO A k.wi) :: (A.ob, mapO encI (kvM ad k.mp) k.ck) :: E) (.tuple #[if en.th.ty = 94 then pV (ad i).tb else .pointer none, .bool (decide (en.th.ty = 94))]) := by
 refine Tr.enter Tryz.func33 rfl Tryz.ntmps33 rfl (fun W F => ?_)
 refine Wp.app ?_
 haveI hB := hE.ob he
 refine zq [3,4,1,1,2,5,3,4,1,2,5,3,4,0,9,6,8,0] ?_
 refine Ops.pv (pv_lookup_i (r := pV (ad i).ob) n rfl rfl ((kv_get k ad n).trans (by rw [hi]; rfl))) rfl ?_
 refine zq [1,2,5,3,3,4,0,59,2,5,17,11,5,3,4,0,9,6,8] ?_
 refine Ops.pv (pv_assert rfl rfl) rfl ?_
 refine zq [0,7,7,1,1,2,5,3,3,4,0,55,2,5] ?_
 refine Wp.cond_dect rfl (fun h1 => ?_) (fun h1 => ?_)
 ·
  refine zq [3,4,0,1,1,2,5,10,12] ?_
  rw [if_neg (by assumption), decide_eq_false (by assumption)]
  exact zr ⟨rfl, rfl⟩
 refine zq [11,5,3,4,0,1,1,2,5,10] ?_
 have hy : en.th.ty = 94 := Decidable.of_not_not (by assumption)
 rw [if_pos hy, decide_eq_true hy]
 exact Ends.ret (res2 rfl rfl rfl) ⟨by rw [asT, if_pos hy], rfl⟩
theorem tr_getThr (k : Kn) (A : KA) (ad : Nat → Ad) (kb : Nat) (E : Hp) (hE : EnH k.ar ad E) (hw : KW k) (n : Int) : TrR Tryz.prog 33 [pV kb, .int .i64 n] ((kb, kerO A k.wi) :: (A.ob, mapO encI (kvM ad k.mp) k.ck) :: E) (.tuple #[gPt k ad n 94, .bool (gIs k n 94)]) := by
 cases hi : k.ix n with
 | none => rw [gPt_no (gIs_none hi _), gIs_none hi]; exact tr_getThrN k A ad kb E hE n hi
 | some i =>
  obtain ⟨en, he⟩ := hw.en hi
  rw [gIs_some hi he]
  refine (tr_getThrS k A ad kb E hE n i en hi he).eq ?_
  by_cases h : en.th.ty = 94
  ·
   rw [if_pos h, gPt_yes hi he h]
  ·
   rw [if_neg h, gPt_no (by rw [gIs_some hi he, decide_eq_false h])]
theorem tr_getPageN (k : Kn) (A : KA) (ad : Nat → Ad) (kb : Nat) (E : Hp) (hE : EnH k.ar ad E) (n : Int) (hi : k.ix n = none) : TrR Tryz.prog 66 [pV kb, .int .i64 n] ((kb, kerO A k.wi) :: (A.ob, mapO encI (kvM ad k.mp) k.ck) :: E) (.tuple #[.pointer none, .bool false]) := by
 refine Tr.enter Tryz.func66 rfl Tryz.ntmps66 rfl (fun W F => ?_)
 refine Wp.app ?_
 refine zq [3,4,1,1,2,5,3,4,1,2,5,3,4,0,9,6,8,0] ?_
 refine Ops.pv (pv_lookup_i (r := .pointer none) n rfl rfl ((kv_get k ad n).trans (by rw [hi]; rfl))) rfl ?_
 refine zq [1,2,5,3,3,4,0,59,2,5,18,3,4,0,1,1,2,5,10,12] ?_
 exact zr ⟨rfl, rfl⟩
theorem tr_getPageS (k : Kn) (A : KA) (ad : Nat → Ad) (kb : Nat) (E : Hp) (hE : EnH k.ar ad E) (n : Int) (i : Nat) (en : En) (hi : k.ix n = some i) (he : k.ar[i]? = some en) : TrR Tryz.prog 66 [pV kb, .int .i64 n] ((kb, kerO A k.wi) :: (A.ob, mapO encI (kvM ad k.mp) k.ck) :: E) (.tuple #[if en.th.ty = 110 then pV (ad i).tb else .pointer none, .bool (decide (en.th.ty = 110))]) := by
 refine Tr.enter Tryz.func66 rfl Tryz.ntmps66 rfl (fun W F => ?_)
 refine Wp.app ?_
 haveI hB := hE.ob he
 refine zq [3,4,1,1,2,5,3,4,1,2,5,3,4,0,9,6,8,0] ?_
 refine Ops.pv (pv_lookup_i (r := pV (ad i).ob) n rfl rfl ((kv_get k ad n).trans (by rw [hi]; rfl))) rfl ?_
 refine zq [1,2,5,3,3,4,0,59,2,5,17,11,5,3,4,0,9,6,8] ?_
 refine Ops.pv (pv_assert rfl rfl) rfl ?_
 refine zq [0,7,7,1,1,2,5,3,3,4,0,55,2,5] ?_
 refine Wp.cond_dect rfl (fun h1 => ?_) (fun h1 => ?_)
 ·
  refine zq [3,4,0,1,1,2,5,10,12] ?_
  rw [if_neg (by assumption), decide_eq_false (by assumption)]
  exact zr ⟨rfl, rfl⟩
 refine zq [11,5,3,4,0,1,1,2,5,10] ?_
 have hy : en.th.ty = 110 := Decidable.of_not_not (by assumption)
 rw [if_pos hy, decide_eq_true hy]
 exact Ends.ret (res2 rfl rfl rfl) ⟨by rw [asT, if_pos hy], rfl⟩
theorem tr_getPage (k : Kn) (A : KA) (ad : Nat → Ad) (kb : Nat) (E : Hp) (hE : EnH k.ar ad E) (hw : KW k) (n : Int) : TrR Tryz.prog 66 [pV kb, .int .i64 n] ((kb, kerO A k.wi) :: (A.ob, mapO encI (kvM ad k.mp) k.ck) :: E) (.tuple #[gPt k ad n 110, .bool (gIs k n 110)]) := by
 cases hi : k.ix n with
 | none => rw [gPt_no (gIs_none hi _), gIs_none hi]; exact tr_getPageN k A ad kb E hE n hi
 | some i =>
  obtain ⟨en, he⟩ := hw.en hi
  rw [gIs_some hi he]
  refine (tr_getPageS k A ad kb E hE n i en hi he).eq ?_
  by_cases h : en.th.ty = 110
  ·
   rw [if_pos h, gPt_yes hi he h]
  ·
   rw [if_neg h, gPt_no (by rw [gIs_some hi he, decide_eq_false h])]
theorem tr_getEpN (k : Kn) (A : KA) (ad : Nat → Ad) (kb : Nat) (E : Hp) (hE : EnH k.ar ad E) (n : Int) (hi : k.ix n = none) : TrR Tryz.prog 80 [pV kb, .int .i64 n] ((kb, kerO A k.wi) :: (A.ob, mapO encI (kvM ad k.mp) k.ck) :: E) (.tuple #[.pointer none, .bool false]) := by
 refine Tr.enter Tryz.func80 rfl Tryz.ntmps80 rfl (fun W F => ?_)
 refine Wp.app ?_
 refine zq [3,4,1,1,2,5,3,4,1,2,5,3,4,0,9,6,8,0] ?_
 refine Ops.pv (pv_lookup_i (r := .pointer none) n rfl rfl ((kv_get k ad n).trans (by rw [hi]; rfl))) rfl ?_
 refine zq [1,2,5,3,3,4,0,59,2,5,18,3,4,0,1,1,2,5,10,12] ?_
 exact zr ⟨rfl, rfl⟩
theorem tr_getEpS (k : Kn) (A : KA) (ad : Nat → Ad) (kb : Nat) (E : Hp) (hE : EnH k.ar ad E) (n : Int) (i : Nat) (en : En) (hi : k.ix n = some i) (he : k.ar[i]? = some en) : TrR Tryz.prog 80 [pV kb, .int .i64 n] ((kb, kerO A k.wi) :: (A.ob, mapO encI (kvM ad k.mp) k.ck) :: E) (.tuple #[if en.th.ty = 114 then pV (ad i).tb else .pointer none, .bool (decide (en.th.ty = 114))]) := by
 refine Tr.enter Tryz.func80 rfl Tryz.ntmps80 rfl (fun W F => ?_)
 refine Wp.app ?_
 haveI hB := hE.ob he
 refine zq [3,4,1,1,2,5,3,4,1,2,5,3,4,0,9,6,8,0] ?_
 refine Ops.pv (pv_lookup_i (r := pV (ad i).ob) n rfl rfl ((kv_get k ad n).trans (by rw [hi]; rfl))) rfl ?_
 refine zq [1,2,5,3,3,4,0,59,2,5,17,11,5,3,4,0,9,6,8] ?_
 refine Ops.pv (pv_assert rfl rfl) rfl ?_
 refine zq [0,7,7,1,1,2,5,3,3,4,0,55,2,5] ?_
 refine Wp.cond_dect rfl (fun h1 => ?_) (fun h1 => ?_)
 ·
  refine zq [3,4,0,1,1,2,5,10,12] ?_
  rw [if_neg (by assumption), decide_eq_false (by assumption)]
  exact zr ⟨rfl, rfl⟩
 refine zq [11,5,3,4,0,1,1,2,5,10] ?_
 have hy : en.th.ty = 114 := Decidable.of_not_not (by assumption)
 rw [if_pos hy, decide_eq_true hy]
 exact Ends.ret (res2 rfl rfl rfl) ⟨by rw [asT, if_pos hy], rfl⟩
theorem tr_getEp (k : Kn) (A : KA) (ad : Nat → Ad) (kb : Nat) (E : Hp) (hE : EnH k.ar ad E) (hw : KW k) (n : Int) : TrR Tryz.prog 80 [pV kb, .int .i64 n] ((kb, kerO A k.wi) :: (A.ob, mapO encI (kvM ad k.mp) k.ck) :: E) (.tuple #[gPt k ad n 114, .bool (gIs k n 114)]) := by
 cases hi : k.ix n with
 | none => rw [gPt_no (gIs_none hi _), gIs_none hi]; exact tr_getEpN k A ad kb E hE n hi
 | some i =>
  obtain ⟨en, he⟩ := hw.en hi
  rw [gIs_some hi he]
  refine (tr_getEpS k A ad kb E hE n i en hi he).eq ?_
  by_cases h : en.th.ty = 114
  ·
   rw [if_pos h, gPt_yes hi he h]
  ·
   rw [if_neg h, gPt_no (by rw [gIs_some hi he, decide_eq_false h])]
theorem tr_getNtN (k : Kn) (A : KA) (ad : Nat → Ad) (kb : Nat) (E : Hp) (hE : EnH k.ar ad E) (n : Int) (hi : k.ix n = none) : TrR Tryz.prog 82 [pV kb, .int .i64 n] ((kb, kerO A k.wi) :: (A.ob, mapO encI (kvM ad k.mp) k.ck) :: E) (.tuple #[.pointer none, .bool false]) := by
 refine Tr.enter Tryz.func82 rfl Tryz.ntmps82 rfl (fun W F => ?_)
 refine Wp.app ?_
 refine zq [3,4,1,1,2,5,3,4,1,2,5,3,4,0,9,6,8,0] ?_
 refine Ops.pv (pv_lookup_i (r := .pointer none) n rfl rfl ((kv_get k ad n).trans (by rw [hi]; rfl))) rfl ?_
 refine zq [1,2,5,3,3,4,0,59,2,5,18,3,4,0,1,1,2,5,10,12] ?_
 exact zr ⟨rfl, rfl⟩
theorem tr_getNtS (k : Kn) (A : KA) (ad : Nat → Ad) (kb : Nat) (E : Hp) (hE : EnH k.ar ad E) (n : Int) (i : Nat) (en : En) (hi : k.ix n = some i) (he : k.ar[i]? = some en) : TrR Tryz.prog 82 [pV kb, .int .i64 n] ((kb, kerO A k.wi) :: (A.ob, mapO encI (kvM ad k.mp) k.ck) :: E) (.tuple #[if en.th.ty = 120 then pV (ad i).tb else .pointer none, .bool (decide (en.th.ty = 120))]) := by
 refine Tr.enter Tryz.func82 rfl Tryz.ntmps82 rfl (fun W F => ?_)
 refine Wp.app ?_
 haveI hB := hE.ob he
 refine zq [3,4,1,1,2,5,3,4,1,2,5,3,4,0,9,6,8,0] ?_
 refine Ops.pv (pv_lookup_i (r := pV (ad i).ob) n rfl rfl ((kv_get k ad n).trans (by rw [hi]; rfl))) rfl ?_
 refine zq [1,2,5,3,3,4,0,59,2,5,17,11,5,3,4,0,9,6,8] ?_
 refine Ops.pv (pv_assert rfl rfl) rfl ?_
 refine zq [0,7,7,1,1,2,5,3,3,4,0,55,2,5] ?_
 refine Wp.cond_dect rfl (fun h1 => ?_) (fun h1 => ?_)
 ·
  refine zq [3,4,0,1,1,2,5,10,12] ?_
  rw [if_neg (by assumption), decide_eq_false (by assumption)]
  exact zr ⟨rfl, rfl⟩
 refine zq [11,5,3,4,0,1,1,2,5,10] ?_
 have hy : en.th.ty = 120 := Decidable.of_not_not (by assumption)
 rw [if_pos hy, decide_eq_true hy]
 exact Ends.ret (res2 rfl rfl rfl) ⟨by rw [asT, if_pos hy], rfl⟩
theorem tr_getNt (k : Kn) (A : KA) (ad : Nat → Ad) (kb : Nat) (E : Hp) (hE : EnH k.ar ad E) (hw : KW k) (n : Int) : TrR Tryz.prog 82 [pV kb, .int .i64 n] ((kb, kerO A k.wi) :: (A.ob, mapO encI (kvM ad k.mp) k.ck) :: E) (.tuple #[gPt k ad n 120, .bool (gIs k n 120)]) := by
 cases hi : k.ix n with
 | none => rw [gPt_no (gIs_none hi _), gIs_none hi]; exact tr_getNtN k A ad kb E hE n hi
 | some i =>
  obtain ⟨en, he⟩ := hw.en hi
  rw [gIs_some hi he]
  refine (tr_getNtS k A ad kb E hE n i en hi he).eq ?_
  by_cases h : en.th.ty = 120
  ·
   rw [if_pos h, gPt_yes hi he h]
  ·
   rw [if_neg h, gPt_no (by rw [gIs_some hi he, decide_eq_false h])]
theorem tr_isN (k : Kn) (A : KA) (ad : Nat → Ad) (kb : Nat) (E : Hp) (hE : EnH k.ar ad E) (n kd : Int) (hi : k.ix n = none) : TrR Tryz.prog 67 [pV kb, .int .i64 n, .int .i64 kd] ((kb, kerO A k.wi) :: (A.ob, mapO encI (kvM ad k.mp) k.ck) :: E) (.bool false) := by
 refine Tr.enter Tryz.func67 rfl Tryz.ntmps67 rfl (fun W F => ?_)
 refine Wp.app ?_
 refine zq [3,4,1,2,5,3,4,0,9,6,8,0] ?_
 refine Ops.pv (pv_lookup_i (r := .pointer none) n rfl rfl ((kv_get k ad n).trans (by rw [hi]; rfl))) rfl ?_
 refine zq [1,2,5,3,4,0,60,0,13,13,13,13,13,13,13,26,1,2,5,10] ?_
 exact zr ⟨rfl, rfl⟩
theorem tr_isS (k : Kn) (A : KA) (ad : Nat → Ad) (kb : Nat) (E : Hp) (hE : EnH k.ar ad E) (n kd : Int) (i : Nat) (en : En) (hi : k.ix n = some i) (he : k.ar[i]? = some en) : TrR Tryz.prog 67 [pV kb, .int .i64 n, .int .i64 kd] ((kb, kerO A k.wi) :: (A.ob, mapO encI (kvM ad k.mp) k.ck) :: E) (.bool (decide (en.th.kind = kd))) := by
 refine Tr.enter Tryz.func67 rfl Tryz.ntmps67 rfl (fun W F => ?_)
 refine Wp.app ?_
 haveI hB := hE.ob he
 obtain ⟨R0, hR0⟩ := (hE.tb he).take
 obtain ⟨f, hm, hg, ht⟩ := kind_of en.th (ad i).tb (ad i).nb
 haveI := hm; haveI := hg; haveI := hR0
 refine zq [3,4,1,2,5,3,4,0,9,6,8,0] ?_
 refine Ops.pv (pv_lookup_i (r := pV (ad i).ob) n rfl rfl ((kv_get k ad n).trans (by rw [hi]; rfl))) rfl ?_
 refine zq [1,2,5,3,4,0,60,0,21,57,50,51] ?_
 refine Ops.efg ⟨_, _, rfl, rfl, rfl⟩ (ef_invr (ht) rfl rfl) ?_
 rintro _ _ ⟨rfl, rfl⟩
 refine zq [21] ?_
 refine Ops.pvg ⟨_, _, rfl, rfl, rfl⟩ (pv_eql rfl rfl) rfl ?_
 refine zq [24,1,2,5,10] ?_
 exact zr ⟨rfl, rfl⟩
theorem tr_is (k : Kn) (A : KA) (ad : Nat → Ad) (kb : Nat) (E : Hp) (hE : EnH k.ar ad E) (hw : KW k) (n kd : Int) : TrR Tryz.prog 67 [pV kb, .int .i64 n, .int .i64 kd] ((kb, kerO A k.wi) :: (A.ob, mapO encI (kvM ad k.mp) k.ck) :: E) (.bool (k.isK n kd)) := by
 cases hi : k.ix n with
 | none => rw [isK_none hi]; exact tr_isN k A ad kb E hE n kd hi
 | some i =>
  obtain ⟨en, he⟩ := hw.en hi
  rw [isK_some hi he]
  exact tr_isS k A ad kb E hE n kd i en hi he
end Go.Proofs.YtipncceiekalfaaGreat
end
section
set_option linter.unusedVariables false
set_option linter.unusedSimpArgs false
set_option linter.unusedSectionVars false
namespace Go.Proofs.YtipncceiekalfaaGreat
open Go.SL
theorem tr_getThrY (k : Kn) (A : KA) (ad : Nat → Ad) (kb : Nat) (E : Hp) (hE : EnH k.ar ad E) (n : Int) {i : Nat} {t : ThrM} {c : CapM} {s b : Int} {sp : Int × Int} (hi : k.ix n = some i) (he : k.ar[i]? = some ⟨.thr t c s b, sp⟩) : TrR Tryz.prog 33 [pV kb, .int .i64 n] ((kb, kerO A k.wi) :: (A.ob, mapO encI (kvM ad k.mp) k.ck) :: E) (.tuple #[pV (ad i).tb, .bool true]) := tr_getThrS k A ad kb E hE n i _ hi he
theorem tr_sDrop (sb : Nat) (H : Hp) (T : Ones) (e : Nat) (l : Int) (L : Nat → Ones) (hH : SchH T e l L sb H) (hA : At T e l) (hW : RdysW L) (hl : RdysL L (2 ^ 20)) (x : Int) : Tr Tryz.prog 132 [.pointer (some ⟨sb, 0, none⟩), .int .i64 x] (H) (fun u L' => u = .bool (sdB L x) ∧ SchH T e l (sdL L x) sb L') := by
 cases hf : findM L x with
 | none =>
  have e1 : sdB L x = false := by unfold sdB; rw [hf]
  have e2 : sdL L x = L := by unfold sdL; rw [hf]
  rw [e1, e2]; exact tr_sDrop_none sb H T e l L hH hA hW hl x hf
 | some dk =>
  obtain ⟨d, k⟩ := dk
  have e1 : sdB L x = inR (L d) x := by unfold sdB; rw [hf]
  have e2 : sdL L x = fset L d (dropR (L d) x) := by unfold sdL; rw [hf]
  rw [e1, e2]; exact tr_sDrop_some sb H T e l L hH hA hW hl x d k hf
theorem KW.drl {k : Kn} (h : KW k) (x : Int) : RdysL (sdL k.L x) (2 ^ 20) := (sdLen (h.rl (Nat.le_refl 64)) x).mono (by decide)
set_option maxHeartbeats 4000000 in
theorem tr_kBe (k : Kn) (A : KA) (ad : Nat → Ad) (kb : Nat) (L : Hp) (hK : KH k A ad kb L) (hw : KW k) (n : Int) {i : Nat} {t : ThrM} {c : CapM} {s b : Int} {sp : Int × Int} (hi : k.ix n = some i) (he : k.ar[i]? = some ⟨.thr t c s b, sp⟩) (x : ThrM) : Tr Tryz.prog 72 [pV kb, .int .i64 n, x.v] (L) (fun u L' => u = .tuple #[] ∧ KH (k.be n x) A ad kb L') := by
 obtain ⟨Iq, Lc, Ls, Lt, E, hI, hC, hS, hT, hE, rfl⟩ := hK
 have hE0 := hE
 obtain ⟨G, R, rfl, hU, hB, hP, hEb⟩ := hE.thr he
 haveI := hU; haveI := hB; haveI := hP
 refine Tr.enter Tryz.func72 rfl Tryz.ntmps72 rfl (fun W F => ?_)
 refine Wp.app ?_
 refine Wr ?_
 refine zB fun b1 => ?_
 refine zq [2,5,3,4,0,0] ?_
 refine zC (tr_getThrY k A ad kb _ hE0 n hi he) ?_
 refine zq [0,7,7,1,1,2,5,3,4,0,31,9,6,14,2,5,3,4,0,9,6,8,0] ?_
 refine zD (tr_sDrop _ Ls k.T k.e k.lf k.L hS hw.at_ hw.rw (hw.rl (by decide)) n) ?_
 rintro _ J1 ⟨rfl, hs1⟩
 refine Ops.app ?_
 refine zq [2,5,3,4,6,8,22,2,5] ?_
 refine Wp.cond_dect rfl (fun h1 => ?_) (fun h1 => ?_)
 ·
  refine AnyH.start [(kb, kerO A k.wi), (b1, .cells x.cells.toArray 35)] 10 rfl ?_
  refine zd [0,1,1,3,2,0,3,2,4,1,5,0,6,2,7,0,8,2] ?_
  refine AnyH.one 9 (by kernel_rfl) ?_
  refine Turn.ef rfl rfl (ef_call (tr_sPut _ J1 k.T k.e k.lf (sdL k.L n) hs1 hw.at_ (sdW hw.rw n) (hw.drl n) n x.dom x.lvl) rfl rfl) ?_ ?_
  ·
   rintro _ _ ⟨_, J2, ⟨rfl, hp1⟩, rfl, rfl⟩; infer_instance
  rintro _ _ ⟨_, J2, ⟨rfl, hp1⟩, rfl, rfl⟩
  refine AnyH.app ?_
  refine AnyH.done (by kernel_rfl) ?_
  rw [be_eq hi he]
  exact zf (L' := (kb, kerO A k.wi) :: (A.ob, mapO encI (kvM ad k.mp) k.ck) :: (A.mb, .cells [.slice (some ⟨A.wb, 0, none⟩) k.ws.length k.ws.length].toArray 193) :: (A.wb, .cells (wordsC k.ws).toArray 22) :: (Iq ++ (Lc ++ (J2 ++ (Lt ++ G (thrO x c s b)))))) ⟨rfl, Iq, Lc, J2, Lt, G (thrO x c s b), hI, hC, by unfold beL; rw [if_pos (by assumption)]; exact hp1, hT, hEb x c s b, rfl⟩
 refine Wp.skip ?_
 rw [be_eq hi he]
 exact zf (L' := (kb, kerO A k.wi) :: (A.ob, mapO encI (kvM ad k.mp) k.ck) :: (A.mb, .cells [.slice (some ⟨A.wb, 0, none⟩) k.ws.length k.ws.length].toArray 193) :: (A.wb, .cells (wordsC k.ws).toArray 22) :: (Iq ++ (Lc ++ (J1 ++ (Lt ++ G (thrO x c s b)))))) ⟨rfl, Iq, Lc, J1, Lt, G (thrO x c s b), hI, hC, by unfold beL; rw [if_neg (by assumption)]; exact hs1, hT, hEb x c s b, rfl⟩
theorem tr_getThrZ (k : Kn) (A : KA) (ad : Nat → Ad) (kb : Nat) (E : Hp) (hE : EnH k.ar ad E) (hw : KW k) (n : Int) (hn : k.thr n = none) : TrR Tryz.prog 33 [pV kb, .int .i64 n] ((kb, kerO A k.wi) :: (A.ob, mapO encI (kvM ad k.mp) k.ck) :: E) (.tuple #[.pointer none, .bool false]) := by
 have h : gIs k n 94 = false := by rw [thr_is hw, hn]; rfl
 exact (tr_getThr k A ad kb E hE hw n).eq (by rw [gPt_no h, h])
theorem wake_eq {k : Kn} {n : Int} {x : ThrM × CapM × Int × Int} (hx : k.thr n = some x) (r : RegsM) : k.wake n r = if (wakeTM x.1 r).2 = 0 then k.be n (wakeTM x.1 r).1 else k := by unfold Kn.wake; rw [hx]
theorem excuse_eq {k : Kn} {n : Int} {x : ThrM × CapM × Int × Int} (hx : k.thr n = some x) (e : Int) : k.excuse n e = k.wake n (ansR x.1.regs e) := by unfold Kn.excuse; rw [hx]
theorem orphan_eq {k : Kn} {i : Nat} {x : ThrM × CapM × Int × Int} (hx : k.thI i = some x) : k.orphan i = if x.1.caller ≠ -1 then (k.setI i (fun t => { t with caller := -1 })).excuse x.1.caller 8 else k := by unfold Kn.orphan; rw [hx]
theorem tr_answered (r : RegsM) (e : Int) (he : 0 ≤ e ∧ e < 100) : TrR Tryz.prog 189 [r.v, .int .i64 e] ([]) ((ansR r e).v) := by
 refine Tr.enter Tryz.func189 rfl Tryz.ntmps189 rfl (fun W F => ?_)
 refine Wp.app ?_
 refine Wr ?_
 refine zB fun b1 => ?_
 refine zA fun b2 => ?_
 refine zq [2,5,3,4,33,0] ?_
 refine zC (tr_gAnswer r e he) ?_
 refine zq [14,2,5,10] ?_
 exact Ends.ret (res_one rfl (rv_cellK [_, _, _, _, _, _, _, _] rfl rfl rfl ⟨rfl, rfl, rfl, rfl, rfl, rfl, rfl, rfl, trivial⟩)) ⟨rfl, rfl⟩
theorem tr_kWakeN (k : Kn) (A : KA) (ad : Nat → Ad) (kb : Nat) (L : Hp) (hK : KH k A ad kb L) (hw : KW k) (n : Int) (hn : k.thr n = none) (r : RegsM) : Tr Tryz.prog 181 [pV kb, .int .i64 n, r.v] (L) (fun u L' => u = .tuple #[] ∧ KH (k.wake n r) A ad kb L') := by
 obtain ⟨Iq, Lc, Ls, Lt, E, hI, hC, hS, hT, hE, rfl⟩ := hK
 refine Tr.enter Tryz.func181 rfl Tryz.ntmps181 rfl (fun W F => ?_)
 refine Wp.app ?_
 refine Wr ?_
 refine zB fun b1 => ?_
 refine zq [2,5,3,4,0,0] ?_
 refine zC (tr_getThrZ k A ad kb _ hE hw n hn) ?_
 refine zq [0,7,7,1,1,2,5,3,4,0,2,5,17,11] ?_
 have e1 : k.wake n r = k := by unfold Kn.wake; rw [hn]
 rw [e1]
 exact zf (L' := (kb, kerO A k.wi) :: (A.ob, mapO encI (kvM ad k.mp) k.ck) :: (A.mb, .cells [.slice (some ⟨A.wb, 0, none⟩) k.ws.length k.ws.length].toArray 193) :: (A.wb, .cells (wordsC k.ws).toArray 22) :: (Iq ++ (Lc ++ (Ls ++ (Lt ++ E))))) ⟨rfl, Iq, Lc, Ls, Lt, E, hI, hC, hS, hT, hE, rfl⟩
set_option maxHeartbeats 4000000 in
theorem tr_kWakeS (k : Kn) (A : KA) (ad : Nat → Ad) (kb : Nat) (L : Hp) (hK : KH k A ad kb L) (hw : KW k) (n : Int) {i : Nat} {t : ThrM} {c : CapM} {s b : Int} {sp : Int × Int} (hi : k.ix n = some i) (he : k.ar[i]? = some ⟨.thr t c s b, sp⟩) (r : RegsM) : Tr Tryz.prog 181 [pV kb, .int .i64 n, r.v] (L) (fun u L' => u = .tuple #[] ∧ KH (k.wake n r) A ad kb L') := by
 obtain ⟨Iq, Lc, Ls, Lt, E, hI, hC, hS, hT, hE, rfl⟩ := hK
 have hE0 := hE
 obtain ⟨G, R, rfl, hU, hB, hP, hEb⟩ := hE.thr he
 haveI := hU; haveI := hB; haveI := hP
 refine Tr.enter Tryz.func181 rfl Tryz.ntmps181 rfl (fun W F => ?_)
 refine Wp.app ?_
 refine Wr ?_
 refine zB fun b1 => ?_
 refine zq [2,5,3,4,0,0] ?_
 refine zC (tr_getThrY k A ad kb _ hE0 n hi he) ?_
 refine zq [0,7,7,1,1,2,5,3,4,0,2,5,18] ?_
 apply Wp.cutB1 [(0, _), (1, _)] (fun b2 => [(8, _), (9, _)]) _ ⟨rfl, rfl, trivial⟩
 ·
  intro KK hA0
  refine AnyH.start (G (thrO t c s b) ++ [(b1, .cells r.cells.toArray 33)]) 12 rfl ?_
  refine zd [0,1,1,3,2,0,3,13,4,12] ?_
  refine AnyH.two 5 9 (by kernel_rfl) ?_ ?_
  ·
   refine Turn.ef rfl rfl (ef_callr (tr_tWake t r) rfl rfl) ?_ ?_
   ·
    rintro _ _ ⟨rfl, rfl⟩; infer_instance
   rintro _ _ ⟨rfl, rfl⟩
   refine zd [6,1,7,4,8,4] ?_
   refine AnyH.one 9 (by kernel_rfl) ?_
   refine Turn.ef rfl rfl (ef_allocK tyZ35 rfl) ?_ ?_
   ·
    rintro _ _ ⟨b2, rfl, rfl⟩; infer_instance
   rintro _ _ ⟨b2, rfl, rfl⟩
   refine zK 10 ?_
   refine zd [11,5] ?_
   refine AnyH.done (by kernel_rfl) ?_
   refine zq [49] ?_
   refine Goes.same (hA0 b2) ⟨rfl, rfl, rfl, rfl, trivial⟩
  refine Turn.ef rfl rfl (ef_allocK tyZ35 rfl) ?_ ?_
  ·
   rintro _ _ ⟨b3, rfl, rfl⟩; infer_instance
  rintro _ _ ⟨b3, rfl, rfl⟩
  refine AnyH.one 5 (by kernel_rfl) ?_
  refine Turn.ef rfl rfl (ef_callr (tr_tWake t r) rfl rfl) ?_ ?_
  ·
   rintro _ _ ⟨rfl, rfl⟩; infer_instance
  rintro _ _ ⟨rfl, rfl⟩
  refine zd [6,1,7,4,8,4] ?_
  refine zK 10 ?_
  refine zd [11,5] ?_
  refine AnyH.done (by kernel_rfl) ?_
  refine zq [49] ?_
  refine Goes.back (hA0 b3) ⟨rfl, rfl, rfl, rfl, trivial⟩
 intro b2
 dsimp only [List.cons_append, List.nil_append]
 refine zq [3,4,0,22,2,5] ?_
 refine Wp.cond_dect rfl (fun h1 => ?_) (fun h1 => ?_)
 ·
  refine zq [4,0,0,31] ?_
  refine zD (tr_kBe k A ad kb _ ⟨Iq, Lc, Ls, Lt, _, hI, hC, hS, hT, hE0, rfl⟩ hw n hi he (wakeTM t r).1) ?_
  rintro _ J1 ⟨rfl, hk1⟩
  refine Ops.app ?_
  refine Ops.nil ?_
  rw [wake_eq (thr_eq hi he), if_pos (by assumption)]
  exact zf (L' := J1) ⟨rfl, hk1⟩
 refine Wp.skip ?_
 rw [wake_eq (thr_eq hi he), if_neg (by assumption)]
 exact zf (L' := (kb, kerO A k.wi) :: (A.ob, mapO encI (kvM ad k.mp) k.ck) :: (A.mb, .cells [.slice (some ⟨A.wb, 0, none⟩) k.ws.length k.ws.length].toArray 193) :: (A.wb, .cells (wordsC k.ws).toArray 22) :: (Iq ++ (Lc ++ (Ls ++ (Lt ++ (G (thrO t c s b))))))) ⟨rfl, Iq, Lc, Ls, Lt, _, hI, hC, hS, hT, hE0, rfl⟩
theorem tr_kWake (k : Kn) (A : KA) (ad : Nat → Ad) (kb : Nat) (L : Hp) (hK : KH k A ad kb L) (hw : KW k) (n : Int) (r : RegsM) : Tr Tryz.prog 181 [pV kb, .int .i64 n, r.v] L (fun u L' => u = .tuple #[] ∧ KH (k.wake n r) A ad kb L') := by
 cases hx : k.thr n with
 | none => exact tr_kWakeN k A ad kb L hK hw n hx r
 | some x =>
  obtain ⟨i, sp, hi, he⟩ := thr_ex hx
  exact tr_kWakeS k A ad kb L hK hw n hi he r
theorem tr_kExcuseN (k : Kn) (A : KA) (ad : Nat → Ad) (kb : Nat) (L : Hp) (hK : KH k A ad kb L) (hw : KW k) (n e : Int) (hn : k.thr n = none) : Tr Tryz.prog 150 [pV kb, .int .i64 n, .int .i64 e] (L) (fun u L' => u = .tuple #[] ∧ KH (k.excuse n e) A ad kb L') := by
 obtain ⟨Iq, Lc, Ls, Lt, E, hI, hC, hS, hT, hE, rfl⟩ := hK
 refine Tr.enter Tryz.func150 rfl Tryz.ntmps150 rfl (fun W F => ?_)
 refine Wp.app ?_
 refine zq [3,4,0,0] ?_
 refine zC (tr_getThrZ k A ad kb _ hE hw n hn) ?_
 refine zq [0,7,7,1,1,2,5,3,4,0,2,5,17,11] ?_
 have e1 : k.excuse n e = k := by unfold Kn.excuse; rw [hn]
 rw [e1]
 exact zf (L' := (kb, kerO A k.wi) :: (A.ob, mapO encI (kvM ad k.mp) k.ck) :: (A.mb, .cells [.slice (some ⟨A.wb, 0, none⟩) k.ws.length k.ws.length].toArray 193) :: (A.wb, .cells (wordsC k.ws).toArray 22) :: (Iq ++ (Lc ++ (Ls ++ (Lt ++ E))))) ⟨rfl, Iq, Lc, Ls, Lt, E, hI, hC, hS, hT, hE, rfl⟩
set_option maxHeartbeats 4000000 in
theorem tr_kExcuseS (k : Kn) (A : KA) (ad : Nat → Ad) (kb : Nat) (L : Hp) (hK : KH k A ad kb L) (hw : KW k) (n : Int) {i : Nat} {t : ThrM} {c : CapM} {s b : Int} {sp : Int × Int} (hi : k.ix n = some i) (he : k.ar[i]? = some ⟨.thr t c s b, sp⟩) (e : Int) (he9 : 0 ≤ e ∧ e < 100) : Tr Tryz.prog 150 [pV kb, .int .i64 n, .int .i64 e] (L) (fun u L' => u = .tuple #[] ∧ KH (k.excuse n e) A ad kb L') := by
 obtain ⟨Iq, Lc, Ls, Lt, E, hI, hC, hS, hT, hE, rfl⟩ := hK
 have hE0 := hE
 obtain ⟨G, R, rfl, hU, hB, hP, hEb⟩ := hE.thr he
 haveI := hU; haveI := hB; haveI := hP
 refine Tr.enter Tryz.func150 rfl Tryz.ntmps150 rfl (fun W F => ?_)
 refine Wp.app ?_
 refine zq [3,4,0,0] ?_
 refine zC (tr_getThrY k A ad kb _ hE0 n hi he) ?_
 refine zq [0,7,7,1,1,2,5,3,4,0,2,5,18,4,0,0,0,9,6,6,33,0] ?_
 refine zC (tr_answered t.regs e he9) ?_
 refine zD (tr_kWake k A ad kb _ ⟨Iq, Lc, Ls, Lt, _, hI, hC, hS, hT, hE0, rfl⟩ hw n (ansR t.regs e)) ?_
 rintro _ J1 ⟨rfl, hk1⟩
 refine Ops.app ?_
 refine Ops.nil ?_
 rw [excuse_eq (thr_eq hi he)]
 exact zf (L' := J1) ⟨rfl, hk1⟩
theorem tr_kExcuse (k : Kn) (A : KA) (ad : Nat → Ad) (kb : Nat) (L : Hp) (hK : KH k A ad kb L) (hw : KW k) (n e : Int) (he9 : 0 ≤ e ∧ e < 100) : Tr Tryz.prog 150 [pV kb, .int .i64 n, .int .i64 e] L (fun u L' => u = .tuple #[] ∧ KH (k.excuse n e) A ad kb L') := by
 cases hx : k.thr n with
 | none => exact tr_kExcuseN k A ad kb L hK hw n e hx
 | some x =>
  obtain ⟨i, sp, hi, he⟩ := thr_ex hx
  exact tr_kExcuseS k A ad kb L hK hw n hi he e he9
set_option maxHeartbeats 4000000 in
theorem tr_kOrphan (k : Kn) (A : KA) (ad : Nat → Ad) (kb : Nat) (L : Hp) (hK : KH k A ad kb L) (hw : KW k) {i : Nat} {t : ThrM} {c : CapM} {s b : Int} {sp : Int × Int} (he : k.ar[i]? = some ⟨.thr t c s b, sp⟩) : Tr Tryz.prog 85 [pV kb, pV (ad i).tb] (L) (fun u L' => u = .tuple #[] ∧ KH (k.orphan i) A ad kb L') := by
 obtain ⟨Iq, Lc, Ls, Lt, E, hI, hC, hS, hT, hE, rfl⟩ := hK
 have hE0 := hE
 obtain ⟨G, R, rfl, hU, hB, hP, hEb⟩ := hE.thr he
 haveI := hU; haveI := hB; haveI := hP
 refine Tr.enter Tryz.func85 rfl Tryz.ntmps85 rfl (fun W F => ?_)
 refine Wp.app ?_
 refine zq [3,4,0,9,6,6,8,1,2,5,3,4,0,27,2,5] ?_
 refine Wp.cond_dect rfl (fun h1 => ?_) (fun h1 => ?_)
 ·
  refine zq [3,4,0,9,6,6,25,2,5,4,0,0] ?_
  refine zD (tr_kExcuse (k.setI i (fun t => { t with caller := -1 })) A ad kb ((kb, kerO A k.wi) :: (A.ob, mapO encI (kvM ad k.mp) k.ck) :: (A.mb, .cells [.slice (some ⟨A.wb, 0, none⟩) k.ws.length k.ws.length].toArray 193) :: (A.wb, .cells (wordsC k.ws).toArray 22) :: (Iq ++ (Lc ++ (Ls ++ (Lt ++ (G (thrO { t with caller := -1 } c s b))))))) (by rw [setI_eq he]; exact ⟨Iq, Lc, Ls, Lt, _, hI, hC, hS, hT, hEb { t with caller := -1 } c s b, rfl⟩) (hw.setI i (fun t ht => ht.caller (by decide))).1 t.caller 8 (by decide)) ?_
  rintro _ J1 ⟨rfl, hk1⟩
  refine Ops.app ?_
  refine Ops.nil ?_
  rw [orphan_eq (thI_eq he), if_pos (by assumption)]
  exact zf (L' := J1) ⟨rfl, hk1⟩
 refine Wp.skip ?_
 rw [orphan_eq (thI_eq he), if_neg (by assumption)]
 exact zf (L' := (kb, kerO A k.wi) :: (A.ob, mapO encI (kvM ad k.mp) k.ck) :: (A.mb, .cells [.slice (some ⟨A.wb, 0, none⟩) k.ws.length k.ws.length].toArray 193) :: (A.wb, .cells (wordsC k.ws).toArray 22) :: (Iq ++ (Lc ++ (Ls ++ (Lt ++ (G (thrO t c s b))))))) ⟨rfl, Iq, Lc, Ls, Lt, _, hI, hC, hS, hT, hE0, rfl⟩
theorem setThr_ar (k : Kn) (n : Int) (f : ThrM → ThrM) : ∃ ar, k.setThr n f = { k with ar := ar } := by
 unfold Kn.setThr Kn.setI
 split
 ·
  split
  ·
   exact ⟨_, rfl⟩
  exact ⟨k.ar, rfl⟩
 exact ⟨k.ar, rfl⟩
theorem allT_ar (k : Kn) (f : ThrM → ThrM) : ∀ m : Nat, ∃ ar, k.allT f m = { k with ar := ar }
  | 0 => ⟨k.ar, rfl⟩
  | m + 1 => by
    obtain ⟨ar, e⟩ := allT_ar k f m
    obtain ⟨ar2, e2⟩ := setThr_ar (k.allT f m) m f
    exact ⟨ar2, by show (k.allT f m).setThr m f = _; rw [e2, e]⟩
set_option maxHeartbeats 4000000 in
theorem tr_kThreads (k : Kn) (A : KA) (ad : Nat → Ad) (kb : Nat) (L : Hp) (hK : KH k A ad kb L) (hw : KW k) (fn : Nat) [hG : GoFn Tryz.prog fn] (cap : List Value) (Hc : Hp) (f : ThrM → ThrM) (hf : ∀ (j b : Nat) (t : ThrM) (c : CapM) (s d : Int), Tr Tryz.prog fn (.int .i64 j :: pV b :: cap) ((b, thrO t c s d) :: Hc) (fun u L' => u = .tuple #[] ∧ L' = (b, thrO (f t) c s d) :: Hc)) (hfw : ∀ t, ThW t → ThW (f t)) : Tr Tryz.prog 86 [pV kb, .func (.func fn) #[] cap.toArray] (L ++ Hc) (fun u L' => u = .tuple #[] ∧ ∃ L1, KH (k.allT f 64) A ad kb L1 ∧ L' = L1 ++ Hc) := by
 obtain ⟨Iq, Lc, Ls, Lt, E, hI, hC, hS, hT, hE, rfl⟩ := hK
 refine Tr.enter Tryz.func86 rfl Tryz.ntmps86 rfl (fun W F => ?_)
 refine Wp.app ?_
 refine Wp.app ?_
 refine zq [3,4,0,2,5,20] ?_
 refine Wp.loopK (σ := Nat × Hp) [(0, _), (1, _)] (fun s => [(7, .int .i64 s.1)]) (fun s => (kb, kerO A k.wi) :: (A.ob, mapO encI (kvM ad k.mp) k.ck) :: (A.mb, .cells [.slice (some ⟨A.wb, 0, none⟩) k.ws.length k.ws.length].toArray 193) :: (A.wb, .cells (wordsC k.ws).toArray 22) :: (Iq ++ (Lc ++ (Ls ++ (Lt ++ (s.2 ++ (Hc ++ F))))))) (fun s => s.1 ≤ 64 ∧ EnH (k.allT f s.1).ar ad s.2) (fun s => 64 - s.1) (0, E) ⟨Nat.zero_le _, hE⟩ ⟨rfl, rfl, trivial⟩ ⟨rfl, trivial⟩ (by intro w ho; (try dsimp only [List.nil_append, List.cons_append]); exact Drop.own ho) ?_
 rintro ⟨j, E⟩ KK ⟨hj, hM⟩ hK
 dsimp only [List.cons_append, List.nil_append] at hK ⊢
 dsimp only at hj hM ⊢
 refine zq [3,4,42,2,5,3] ?_
 refine Wp.cond_dect rfl (fun h1 => ?_) (fun h1 => ?_)
 ·
  have hwj := (hw.allT hfw j).1
  obtain ⟨ar, ea⟩ := allT_ar k f j
  rw [ea] at hM hwj
  refine zq [11,5,3,20,3,4,0,1,2,5,3,4,0,0] ?_
  refine zC (tr_getThr { k with ar := ar } A ad kb _ hM hwj j) ?_
  refine zq [0,7,7,1,1,2,5,3,4,0,2,5] ?_
  refine Wp.cond_t rfl (fun h2 => ?_) (fun h2 => ?_)
  ·
   obtain ⟨⟨t, c, s, b⟩, hx⟩ : ∃ x, ({ k with ar := ar } : Kn).thr j = some x := Option.isSome_iff_exists.1 (by rw [← thr_is hwj]; assumption)
   obtain ⟨i, sp, hi, he⟩ := thr_ex hx
   dsimp only at he hM
   obtain ⟨G, R, rfl, hU, hB, hP, hEb⟩ := hM.thr he
   haveI := hU; haveI := hB; haveI := hP
   rw [gPt_yes (ty := 94) hi he rfl]
   refine zq [4,0,0,0] ?_
   refine Ops.ef rfl (ef_callf rfl rfl (hf j (ad i).tb t c s b) rfl) ?_
   rintro _ _ ⟨_, _, ⟨rfl, rfl⟩, rfl, rfl⟩
   refine Ops.app ?_
   refine Ops.heap (L' := (kb, kerO A k.wi) :: (A.ob, mapO encI (kvM ad k.mp) k.ck) :: (A.mb, .cells [.slice (some ⟨A.wb, 0, none⟩) k.ws.length k.ws.length].toArray 193) :: (A.wb, .cells (wordsC k.ws).toArray 22) :: (Iq ++ (Lc ++ (Ls ++ (Lt ++ (G (thrO (f t) c s b) ++ (Hc ++ F))))))) (fun w ho => ?_) ?_
   ·
    have h2 : Own W w (((ad i).tb, thrO (f t) c s b) :: (R ++ ((kb, kerO A k.wi) :: (A.ob, mapO encI (kvM ad k.mp) k.ck) :: (A.mb, .cells [.slice (some ⟨A.wb, 0, none⟩) k.ws.length k.ws.length].toArray 193) :: (A.wb, .cells (wordsC k.ws).toArray 22) :: (Iq ++ (Lc ++ (Ls ++ (Lt ++ (Hc ++ F)))))))) := Drop.own ho
    have h3 : Own W w (G (thrO (f t) c s b) ++ ((kb, kerO A k.wi) :: (A.ob, mapO encI (kvM ad k.mp) k.ck) :: (A.mb, .cells [.slice (some ⟨A.wb, 0, none⟩) k.ws.length k.ws.length].toArray 193) :: (A.wb, .cells (wordsC k.ws).toArray 22) :: (Iq ++ (Lc ++ (Ls ++ (Lt ++ (Hc ++ F))))))) := h2.perm ((hP _).perm.symm.append_right _)
    exact Drop.own h3
   refine zq [2,19,5,4] ?_
   refine Ops.pv (pv_add rfl rfl (w64n (k := j + 1) (by omega) (by omega))) rfl ?_
   refine zq [0,2,49] ?_
   refine Goes.back (hK (j + 1, G (thrO (f t) c s b)) ⟨by dsimp only; omega, by show EnH ((k.allT f j).setThr (j : Nat) f).ar _ _; rw [ea, setThr_eq hi he]; exact hEb (f t) c s b⟩ (by dsimp only; omega)) ⟨rfl, rfl, rfl, trivial⟩
  have hx : ({ k with ar := ar } : Kn).thr j = none := Option.not_isSome_iff_eq_none.1 (by rw [← thr_is hwj]; intro hc; simp_all)
  refine zq [11,19,5,4] ?_
  refine Ops.pv (pv_add rfl rfl (w64n (k := j + 1) (by omega) (by omega))) rfl ?_
  refine zq [0,2,49] ?_
  refine Goes.back (hK (j + 1, E) ⟨by dsimp only; omega, by show EnH ((k.allT f j).setThr (j : Nat) f).ar _ _; rw [ea, setThr_none hx]; exact hM⟩ (by dsimp only; omega)) ⟨rfl, rfl, rfl, trivial⟩
 obtain rfl : j = 64 := by omega
 refine zq [41,16,16,40] ?_
 obtain ⟨ar, ea⟩ := allT_ar k f 64
 rw [ea] at hM ⊢
 exact zf (L' := (kb, kerO A k.wi) :: (A.ob, mapO encI (kvM ad k.mp) k.ck) :: (A.mb, .cells [.slice (some ⟨A.wb, 0, none⟩) k.ws.length k.ws.length].toArray 193) :: (A.wb, .cells (wordsC k.ws).toArray 22) :: (Iq ++ (Lc ++ (Ls ++ (Lt ++ (E ++ Hc)))))) ⟨rfl, (kb, kerO A k.wi) :: (A.ob, mapO encI (kvM ad k.mp) k.ck) :: (A.mb, .cells [.slice (some ⟨A.wb, 0, none⟩) k.ws.length k.ws.length].toArray 193) :: (A.wb, .cells (wordsC k.ws).toArray 22) :: (Iq ++ (Lc ++ (Ls ++ (Lt ++ E)))), ⟨Iq, Lc, Ls, Lt, E, hI, hC, hS, hT, hM, rfl⟩, by simp only [List.cons_append, List.append_assoc]⟩
theorem tr_halt1 (n j : Int) (b bx : Nat) (t : ThrM) (c : CapM) (s d : Int) : Tr Tryz.prog 87 [.int .i64 j, pV b, pV bx] ((b, thrO t c s d) :: (bx, .cells [.int .i64 n].toArray 3) :: []) (fun u L' => u = .tuple #[] ∧ L' = (b, thrO (forgetT n t) c s d) :: (bx, .cells [.int .i64 n].toArray 3) :: []) := by
 refine Tr.enter Tryz.func87 rfl Tryz.ntmps87 rfl (fun W F => ?_)
 refine Wp.app ?_
 refine Wp.seq ?_
 refine AnyH.startL 7 rfl ?_
 refine zd [0,1,1,3,2,0,3,0,4,2,5,2,6,7] ?_
 refine AnyH.done (by kernel_rfl) ?_
 refine Ends.seq ?_
 refine Wp.cond_dect rfl (fun h1 => ?_) (fun h1 => ?_)
 ·
  refine zq [4,0,9,6,6,25,2] ?_
  rw [show forgetT n t = { t with caller := -1 } from if_pos (by assumption)]
  exact zf (L' := (b, thrO { t with caller := -1 } c s d) :: (bx, .cells [.int .i64 n].toArray 3) :: []) ⟨rfl, rfl⟩
 refine Wp.skip ?_
 rw [show forgetT n t = t from if_neg (by assumption)]
 exact zf (L' := (b, thrO t c s d) :: (bx, .cells [.int .i64 n].toArray 3) :: []) ⟨rfl, rfl⟩
end Go.Proofs.YtipncceiekalfaaGreat
end
section
set_option linter.unusedVariables false
set_option linter.unusedSimpArgs false
set_option linter.unusedSectionVars false
namespace Go.Proofs.YtipncceiekalfaaGreat
open Go.SL
theorem tr_getEpY (k : Kn) (A : KA) (ad : Nat → Ad) (kb : Nat) (E : Hp) (hE : EnH k.ar ad E) (n : Int) {i : Nat} {S : Ep} {sp : Int × Int} (hi : k.ix n = some i) (he : k.ar[i]? = some ⟨.ep S, sp⟩) : TrR Tryz.prog 80 [pV kb, .int .i64 n] ((kb, kerO A k.wi) :: (A.ob, mapO encI (kvM ad k.mp) k.ck) :: E) (.tuple #[pV (ad i).tb, .bool true]) := tr_getEpS k A ad kb E hE n i _ hi he
theorem tr_getEpF (k : Kn) (A : KA) (ad : Nat → Ad) (kb : Nat) (E : Hp) (hE : EnH k.ar ad E) (hw : KW k) (n : Int) (hn : gIs k n 114 = false) : TrR Tryz.prog 80 [pV kb, .int .i64 n] ((kb, kerO A k.wi) :: (A.ob, mapO encI (kvM ad k.mp) k.ck) :: E) (.tuple #[.pointer none, .bool false]) :=
  (tr_getEp k A ad kb E hE hw n).eq (by rw [gPt_no hn, hn])
theorem tr_getNtY (k : Kn) (A : KA) (ad : Nat → Ad) (kb : Nat) (E : Hp) (hE : EnH k.ar ad E) (n : Int) {i : Nat} {S : Nt} {sp : Int × Int} (hi : k.ix n = some i) (he : k.ar[i]? = some ⟨.nt S, sp⟩) : TrR Tryz.prog 82 [pV kb, .int .i64 n] ((kb, kerO A k.wi) :: (A.ob, mapO encI (kvM ad k.mp) k.ck) :: E) (.tuple #[pV (ad i).tb, .bool true]) := tr_getNtS k A ad kb E hE n i _ hi he
theorem tr_getNtF (k : Kn) (A : KA) (ad : Nat → Ad) (kb : Nat) (E : Hp) (hE : EnH k.ar ad E) (hw : KW k) (n : Int) (hn : gIs k n 120 = false) : TrR Tryz.prog 82 [pV kb, .int .i64 n] ((kb, kerO A k.wi) :: (A.ob, mapO encI (kvM ad k.mp) k.ck) :: E) (.tuple #[.pointer none, .bool false]) :=
  (tr_getNt k A ad kb E hE hw n).eq (by rw [gPt_no hn, hn])
theorem tr_getPageY (k : Kn) (A : KA) (ad : Nat → Ad) (kb : Nat) (E : Hp) (hE : EnH k.ar ad E) (n : Int) {i : Nat} {q : Int} {m : Bool} {s a : Int} {sp : Int × Int} (hi : k.ix n = some i) (he : k.ar[i]? = some ⟨.page q m s a, sp⟩) : TrR Tryz.prog 66 [pV kb, .int .i64 n] ((kb, kerO A k.wi) :: (A.ob, mapO encI (kvM ad k.mp) k.ck) :: E) (.tuple #[pV (ad i).tb, .bool true]) := tr_getPageS k A ad kb E hE n i _ hi he
theorem tr_getPageF (k : Kn) (A : KA) (ad : Nat → Ad) (kb : Nat) (E : Hp) (hE : EnH k.ar ad E) (hw : KW k) (n : Int) (hn : gIs k n 110 = false) : TrR Tryz.prog 66 [pV kb, .int .i64 n] ((kb, kerO A k.wi) :: (A.ob, mapO encI (kvM ad k.mp) k.ck) :: E) (.tuple #[.pointer none, .bool false]) :=
  (tr_getPage k A ad kb E hE hw n).eq (by rw [gPt_no hn, hn])
theorem halt_eq {k : Kn} {n : Int} {i : Nat} {x : ThrM × CapM × Int × Int} (hi : k.ix n = some i) (hx : k.thr n = some x) : k.halt n = ((((k.cancelE x.1.on n).cancelN x.1.on n).be n (stopT x.1)).orphan i).allT (forgetT n) 64 := by
 unfold Kn.halt; rw [hi, hx]
theorem cancelE_yes {k : Kn} {on : Int} {j : Nat} {S : Ep} {sp : Int × Int} (hj : k.ix on = some j) (he : k.ar[j]? = some ⟨.ep S, sp⟩) (n : Int) : k.cancelE on n = { k with ar := setA k.ar j (.ep ⟨S.w, remL S.l n⟩) } := by
 unfold Kn.cancelE; rw [hj]; dsimp only; rw [he]
theorem cancelN_yes {k : Kn} {on : Int} {j : Nat} {S : Nt} {sp : Int × Int} (hj : k.ix on = some j) (he : k.ar[j]? = some ⟨.nt S, sp⟩) (n : Int) : k.cancelN on n = { k with ar := setA k.ar j (.nt ⟨S.w, remL S.l n, S.b⟩) } := by
 unfold Kn.cancelN; rw [hj]; dsimp only; rw [he]
theorem cancelE_no {k : Kn} (hw : KW k) {on : Int} (h : gIs k on 114 = false) (n : Int) : k.cancelE on n = k := by
 cases hi : k.ix on with
 | none => unfold Kn.cancelE; rw [hi]
 | some j =>
  obtain ⟨⟨th, sp⟩, he⟩ := hw.en hi
  rw [gIs_some hi he] at h
  unfold Kn.cancelE; rw [hi]; dsimp only; rw [he]
  cases th <;> first | rfl | exact absurd rfl (of_decide_eq_false h)
theorem cancelN_no {k : Kn} (hw : KW k) {on : Int} (h : gIs k on 120 = false) (n : Int) : k.cancelN on n = k := by
 cases hi : k.ix on with
 | none => unfold Kn.cancelN; rw [hi]
 | some j =>
  obtain ⟨⟨th, sp⟩, he⟩ := hw.en hi
  rw [gIs_some hi he] at h
  unfold Kn.cancelN; rw [hi]; dsimp only; rw [he]
  cases th <;> first | rfl | exact absurd rfl (of_decide_eq_false h)
theorem ep_ex {k : Kn} (hw : KW k) {n : Int} (h : gIs k n 114 = true) : ∃ j S sp, k.ix n = some j ∧ k.ar[j]? = some ⟨.ep S, sp⟩ := by
 obtain ⟨j, ⟨th, sp⟩, hi, he, hy⟩ := gIs_yes hw h
 cases th <;> first | exact ⟨j, _, sp, hi, he⟩ | (simp [Th.ty] at hy)
theorem nt_ex {k : Kn} (hw : KW k) {n : Int} (h : gIs k n 120 = true) : ∃ j S sp, k.ix n = some j ∧ k.ar[j]? = some ⟨.nt S, sp⟩ := by
 obtain ⟨j, ⟨th, sp⟩, hi, he, hy⟩ := gIs_yes hw h
 cases th <;> first | exact ⟨j, _, sp, hi, he⟩ | (simp [Th.ty] at hy)
set_option maxHeartbeats 8000000 in
theorem tr_kHaltE (k : Kn) (A : KA) (ad : Nat → Ad) (kb : Nat) (L : Hp) (hK : KH k A ad kb L) (hw : KW k) (n : Int) {i : Nat} {t : ThrM} {c : CapM} {s b : Int} {sp : Int × Int} (hi : k.ix n = some i) (he : k.ar[i]? = some ⟨.thr t c s b, sp⟩) {j : Nat} {S : Ep} {sp2 : Int × Int} (hj : k.ix t.on = some j) (hej : k.ar[j]? = some ⟨.ep S, sp2⟩) : Tr Tryz.prog 35 [pV kb, .int .i64 n] (L) (fun u L' => u = .tuple #[] ∧ KH (k.halt n) A ad kb L') := by
 obtain ⟨Iq, Lc, Ls, Lt, E, hI, hC, hS, hT, hE, rfl⟩ := hK
 have hE0 := hE
 haveI hBt : Blk E (ad i).tb (thrO t c s b) := hE.tb he
 have hts := (hw.ths i _ he).1
 have hij : i ≠ j := by rintro rfl; rw [he] at hej; cases hej
 have he2 : ({ k with ar := setA k.ar j (.ep ⟨S.w, remL S.l n⟩) } : Kn).ar[i]? = some ⟨.thr t c s b, sp⟩ := by dsimp only; rw [setA_ne hij]; exact he
 have hi2 : ({ k with ar := setA k.ar j (.ep ⟨S.w, remL S.l n⟩) } : Kn).ix n = some i := hi
 have e1 := cancelE_yes hj hej n
 have hw2 := (hw.cancelE t.on n).1
 rw [e1] at hw2
 have hgn : gIs ({ k with ar := setA k.ar j (.ep ⟨S.w, remL S.l n⟩) }) t.on 120 = false := by rw [gIs_some (k := { k with ar := setA k.ar j (.ep ⟨S.w, remL S.l n⟩) }) (i := j) (en := ⟨.ep ⟨S.w, remL S.l n⟩, sp2⟩) hj (by dsimp only; rw [setA_same hej])]; rfl
 have e2 := cancelN_no hw2 hgn n
 obtain ⟨hw3, hk3⟩ := hw2.be n (x := stopT t) (hts.still (by decide))
 obtain ⟨t3, he3⟩ := hk3.th i t c s b sp he2
 obtain ⟨hw4, hk4⟩ := hw3.orphan i
 refine Tr.enter Tryz.func35 rfl Tryz.ntmps35 rfl (fun W F => ?_)
 refine Wp.app ?_
 refine Wr ?_
 refine Ops.ef rfl (ef_box1 rfl rfl rfl) ?_
 rintro _ _ ⟨b1, rfl, rfl⟩
 refine zq [2,5,3,4,0,8] ?_
 refine zC (tr_getThrY k A ad kb _ hE0 n hi he) ?_
 refine zq [0,7,7,1,1,2,5,3,3,4,0,0,9,6,6,8] ?_
 refine zC (tr_getEpY k A ad kb _ hE0 t.on hj hej) ?_
 refine zq [0,7,7,1,1,2,5,3,4] ?_
 obtain ⟨J, R, hJ, hp, hBp, hback⟩ := hE.ep hej
 refine Ops.heap (L' := (b1, .cells [.int .i64 n].toArray 3) :: (kb, kerO A k.wi) :: (A.ob, mapO encI (kvM ad k.mp) k.ck) :: (A.mb, .cells [.slice (some ⟨A.wb, 0, none⟩) k.ws.length k.ws.length].toArray 193) :: (A.wb, .cells (wordsC k.ws).toArray 22) :: (Iq ++ (Lc ++ (Ls ++ (Lt ++ (J ++ (R ++ F))))))) (fun w ho => ?_) ?_
 ·
  have h2 : Own W w (E ++ ((b1, .cells [.int .i64 n].toArray 3) :: (kb, kerO A k.wi) :: (A.ob, mapO encI (kvM ad k.mp) k.ck) :: (A.mb, .cells [.slice (some ⟨A.wb, 0, none⟩) k.ws.length k.ws.length].toArray 193) :: (A.wb, .cells (wordsC k.ws).toArray 22) :: (Iq ++ (Lc ++ (Ls ++ (Lt ++ F)))))) := Drop.own ho
  have h3 := h2.perm (hp.append_right _)
  rw [List.append_assoc] at h3
  exact Drop.own h3
 refine zq [0,2,5,18] ?_
 refine AnyH.start (R ++ [(b1, .cells [.int .i64 n].toArray 3)]) 6 rfl ?_
 refine zd [0,1,1,3,2,0,3,2,4,2] ?_
 refine AnyH.one 5 (by kernel_rfl) ?_
 refine Turn.ef rfl rfl (ef_call (tr_epCancel _ J S hJ (by have := N64.len (hw.ths _ _ hej); omega) n) rfl rfl) ?_ ?_
 ·
  rintro _ _ ⟨_, J1, ⟨rfl, hj1⟩, rfl, rfl⟩; infer_instance
 rintro _ _ ⟨_, J1, ⟨rfl, hj1⟩, rfl, rfl⟩
 refine AnyH.app ?_
 refine AnyH.done (by kernel_rfl) ?_
 refine zq [5,3,3,4] ?_
 obtain ⟨E2, hE2, hp2⟩ := hback _ _ hj1
 refine Ops.heap (L' := (b1, .cells [.int .i64 n].toArray 3) :: (kb, kerO A k.wi) :: (A.ob, mapO encI (kvM ad k.mp) k.ck) :: (A.mb, .cells [.slice (some ⟨A.wb, 0, none⟩) k.ws.length k.ws.length].toArray 193) :: (A.wb, .cells (wordsC k.ws).toArray 22) :: (Iq ++ (Lc ++ (Ls ++ (Lt ++ (E2 ++ F)))))) (fun w ho => ?_) ?_
 ·
  have h2 : Own W w (J1 ++ (R ++ ((b1, .cells [.int .i64 n].toArray 3) :: (kb, kerO A k.wi) :: (A.ob, mapO encI (kvM ad k.mp) k.ck) :: (A.mb, .cells [.slice (some ⟨A.wb, 0, none⟩) k.ws.length k.ws.length].toArray 193) :: (A.wb, .cells (wordsC k.ws).toArray 22) :: (Iq ++ (Lc ++ (Ls ++ (Lt ++ F))))))) := Drop.own ho
  rw [← List.append_assoc] at h2
  have h3 := h2.perm (hp2.append_right _)
  exact Drop.own h3
 haveI hBt2 : Blk E2 (ad i).tb (thrO t c s b) := hE2.tb he2
 refine zq [0,0,9,6,6,8] ?_
 refine zC (tr_getNtF ({ k with ar := setA k.ar j (.ep ⟨S.w, remL S.l n⟩) }) A ad kb _ hE2 hw2 t.on hgn) ?_
 refine zq [0,7,7,1,1,2,5,3,4,0,2,5,17,11,5,3] ?_
 refine AnyH.start [(b1, .cells [.int .i64 n].toArray 3)] 8 rfl ?_
 refine zd [0,1,1,2,2,1,3,3,4,0] ?_
 refine AnyH.one 5 (by kernel_rfl) ?_
 refine Turn.ef rfl rfl (ef_pv (pv_loadK [_, _, _, _, _, _, _, _, _, _, _, _, _, _, _, _] rfl rfl rfl ⟨rfl, rfl, rfl, rfl, rfl, rfl, rfl, rfl, rfl, rfl, rfl, rfl, rfl, rfl, rfl, rfl, trivial⟩) rfl) ?_ ?_
 ·
  rintro _ _ ⟨rfl, rfl⟩; infer_instance
 rintro _ _ ⟨rfl, rfl⟩
 refine AnyH.one 6 (by kernel_rfl) ?_
 refine Turn.ef rfl rfl (ef_callr (tr_tStop t) rfl rfl) ?_ ?_
 ·
  rintro _ _ ⟨rfl, rfl⟩; infer_instance
 rintro _ _ ⟨rfl, rfl⟩
 refine AnyH.one 7 (by kernel_rfl) ?_
 refine Turn.ef rfl rfl (ef_call (tr_kBe { k with ar := setA k.ar j (.ep ⟨S.w, remL S.l n⟩) } A ad kb _ ⟨Iq, Lc, Ls, Lt, _, hI, hC, hS, hT, hE2, rfl⟩ hw2 n hi2 he2 (stopT t)) rfl rfl) ?_ ?_
 ·
  rintro _ _ ⟨_, J2, ⟨rfl, hk1⟩, rfl, rfl⟩; infer_instance
 rintro _ _ ⟨_, J2, ⟨rfl, hk1⟩, rfl, rfl⟩
 refine AnyH.app ?_
 refine AnyH.done (by kernel_rfl) ?_
 refine zq [5,3,4,0,0] ?_
 refine zD (tr_kOrphan (({ k with ar := setA k.ar j (.ep ⟨S.w, remL S.l n⟩) } : Kn).be n (stopT t)) A ad kb _ hk1 hw3 he3) ?_
 rintro _ J3 ⟨rfl, hk2⟩
 refine Ops.app ?_
 refine zq [2,5,4,0,73] ?_
 refine zD (tr_kThreads ((({ k with ar := setA k.ar j (.ep ⟨S.w, remL S.l n⟩) } : Kn).be n (stopT t)).orphan i) A ad kb _ hk2 hw4 87 [pV b1] ((b1, .cells [.int .i64 n].toArray 3) :: []) (forgetT n) (fun j b t c s d => tr_halt1 n j b b1 t c s d) (forget_w n)) ?_
 rintro _ _ ⟨rfl, M1, hk3, rfl⟩
 refine Ops.app ?_
 refine Ops.nil ?_
 rw [halt_eq hi (thr_eq hi he), e1, e2]
 exact zf (L' := M1) ⟨rfl, by assumption⟩
set_option maxHeartbeats 8000000 in
theorem tr_kHaltN (k : Kn) (A : KA) (ad : Nat → Ad) (kb : Nat) (L : Hp) (hK : KH k A ad kb L) (hw : KW k) (n : Int) {i : Nat} {t : ThrM} {c : CapM} {s b : Int} {sp : Int × Int} (hi : k.ix n = some i) (he : k.ar[i]? = some ⟨.thr t c s b, sp⟩) {j : Nat} {S : Nt} {sp2 : Int × Int} (hj : k.ix t.on = some j) (hej : k.ar[j]? = some ⟨.nt S, sp2⟩) : Tr Tryz.prog 35 [pV kb, .int .i64 n] (L) (fun u L' => u = .tuple #[] ∧ KH (k.halt n) A ad kb L') := by
 obtain ⟨Iq, Lc, Ls, Lt, E, hI, hC, hS, hT, hE, rfl⟩ := hK
 have hE0 := hE
 haveI hBt : Blk E (ad i).tb (thrO t c s b) := hE.tb he
 have hts := (hw.ths i _ he).1
 have hij : i ≠ j := by rintro rfl; rw [he] at hej; cases hej
 have he2 : ({ k with ar := setA k.ar j (.nt ⟨S.w, remL S.l n, S.b⟩) } : Kn).ar[i]? = some ⟨.thr t c s b, sp⟩ := by dsimp only; rw [setA_ne hij]; exact he
 have hi2 : ({ k with ar := setA k.ar j (.nt ⟨S.w, remL S.l n, S.b⟩) } : Kn).ix n = some i := hi
 have hge : gIs k t.on 114 = false := by rw [gIs_some hj hej]; rfl
 have e1 := cancelE_no hw hge n
 have e2 := cancelN_yes hj hej n
 have hw2 := (hw.cancelN t.on n).1
 rw [e2] at hw2
 obtain ⟨hw3, hk3⟩ := hw2.be n (x := stopT t) (hts.still (by decide))
 obtain ⟨t3, he3⟩ := hk3.th i t c s b sp he2
 obtain ⟨hw4, hk4⟩ := hw3.orphan i
 refine Tr.enter Tryz.func35 rfl Tryz.ntmps35 rfl (fun W F => ?_)
 refine Wp.app ?_
 refine Wr ?_
 refine Ops.ef rfl (ef_box1 rfl rfl rfl) ?_
 rintro _ _ ⟨b1, rfl, rfl⟩
 refine zq [2,5,3,4,0,8] ?_
 refine zC (tr_getThrY k A ad kb _ hE0 n hi he) ?_
 refine zq [0,7,7,1,1,2,5,3,3,4,0,0,9,6,6,8] ?_
 refine zC (tr_getEpF k A ad kb _ hE0 hw t.on hge) ?_
 refine zq [0,7,7,1,1,2,5,3,4,0,2,5,17,11,5,3,3,4,0,0,9,6,6,8] ?_
 refine zC (tr_getNtY k A ad kb _ hE0 t.on hj hej) ?_
 refine zq [0,7,7,1,1,2,5,3,4] ?_
 obtain ⟨J, R, hJ, hp, hBp, hback⟩ := hE.nt hej
 refine Ops.heap (L' := (b1, .cells [.int .i64 n].toArray 3) :: (kb, kerO A k.wi) :: (A.ob, mapO encI (kvM ad k.mp) k.ck) :: (A.mb, .cells [.slice (some ⟨A.wb, 0, none⟩) k.ws.length k.ws.length].toArray 193) :: (A.wb, .cells (wordsC k.ws).toArray 22) :: (Iq ++ (Lc ++ (Ls ++ (Lt ++ (J ++ (R ++ F))))))) (fun w ho => ?_) ?_
 ·
  have h2 : Own W w (E ++ ((b1, .cells [.int .i64 n].toArray 3) :: (kb, kerO A k.wi) :: (A.ob, mapO encI (kvM ad k.mp) k.ck) :: (A.mb, .cells [.slice (some ⟨A.wb, 0, none⟩) k.ws.length k.ws.length].toArray 193) :: (A.wb, .cells (wordsC k.ws).toArray 22) :: (Iq ++ (Lc ++ (Ls ++ (Lt ++ F)))))) := Drop.own ho
  have h3 := h2.perm (hp.append_right _)
  rw [List.append_assoc] at h3
  exact Drop.own h3
 refine zq [0,2,5,18] ?_
 refine AnyH.start (R ++ [(b1, .cells [.int .i64 n].toArray 3)]) 6 rfl ?_
 refine zd [0,1,1,3,2,0,3,2,4,2] ?_
 refine AnyH.one 5 (by kernel_rfl) ?_
 refine Turn.ef rfl rfl (ef_call (tr_ntCancel _ J S hJ (by have := N64.len (hw.ths _ _ hej).1; omega) (hw.ths _ _ hej).2.1 n) rfl rfl) ?_ ?_
 ·
  rintro _ _ ⟨_, J1, ⟨rfl, hj1⟩, rfl, rfl⟩; infer_instance
 rintro _ _ ⟨_, J1, ⟨rfl, hj1⟩, rfl, rfl⟩
 refine AnyH.app ?_
 refine AnyH.done (by kernel_rfl) ?_
 refine zq [5,3] ?_
 obtain ⟨E2, hE2, hp2⟩ := hback _ _ hj1
 refine Wp.heap (L' := (b1, .cells [.int .i64 n].toArray 3) :: (kb, kerO A k.wi) :: (A.ob, mapO encI (kvM ad k.mp) k.ck) :: (A.mb, .cells [.slice (some ⟨A.wb, 0, none⟩) k.ws.length k.ws.length].toArray 193) :: (A.wb, .cells (wordsC k.ws).toArray 22) :: (Iq ++ (Lc ++ (Ls ++ (Lt ++ (E2 ++ F)))))) (fun w ho => ?_) ?_
 ·
  have h2 : Own W w (J1 ++ (R ++ ((b1, .cells [.int .i64 n].toArray 3) :: (kb, kerO A k.wi) :: (A.ob, mapO encI (kvM ad k.mp) k.ck) :: (A.mb, .cells [.slice (some ⟨A.wb, 0, none⟩) k.ws.length k.ws.length].toArray 193) :: (A.wb, .cells (wordsC k.ws).toArray 22) :: (Iq ++ (Lc ++ (Ls ++ (Lt ++ F))))))) := Drop.own ho
  rw [← List.append_assoc] at h2
  have h3 := h2.perm (hp2.append_right _)
  exact Drop.own h3
 haveI hBt2 : Blk E2 (ad i).tb (thrO t c s b) := hE2.tb he2
 refine AnyH.start [(b1, .cells [.int .i64 n].toArray 3)] 8 rfl ?_
 refine zd [0,1,1,2,2,1,3,3,4,0] ?_
 refine AnyH.one 5 (by kernel_rfl) ?_
 refine Turn.ef rfl rfl (ef_pv (pv_loadK [_, _, _, _, _, _, _, _, _, _, _, _, _, _, _, _] rfl rfl rfl ⟨rfl, rfl, rfl, rfl, rfl, rfl, rfl, rfl, rfl, rfl, rfl, rfl, rfl, rfl, rfl, rfl, trivial⟩) rfl) ?_ ?_
 ·
  rintro _ _ ⟨rfl, rfl⟩; infer_instance
 rintro _ _ ⟨rfl, rfl⟩
 refine AnyH.one 6 (by kernel_rfl) ?_
 refine Turn.ef rfl rfl (ef_callr (tr_tStop t) rfl rfl) ?_ ?_
 ·
  rintro _ _ ⟨rfl, rfl⟩; infer_instance
 rintro _ _ ⟨rfl, rfl⟩
 refine AnyH.one 7 (by kernel_rfl) ?_
 refine Turn.ef rfl rfl (ef_call (tr_kBe { k with ar := setA k.ar j (.nt ⟨S.w, remL S.l n, S.b⟩) } A ad kb _ ⟨Iq, Lc, Ls, Lt, _, hI, hC, hS, hT, hE2, rfl⟩ hw2 n hi2 he2 (stopT t)) rfl rfl) ?_ ?_
 ·
  rintro _ _ ⟨_, J2, ⟨rfl, hk1⟩, rfl, rfl⟩; infer_instance
 rintro _ _ ⟨_, J2, ⟨rfl, hk1⟩, rfl, rfl⟩
 refine AnyH.app ?_
 refine AnyH.done (by kernel_rfl) ?_
 refine zq [5,3,4,0,0] ?_
 refine zD (tr_kOrphan (({ k with ar := setA k.ar j (.nt ⟨S.w, remL S.l n, S.b⟩) } : Kn).be n (stopT t)) A ad kb _ hk1 hw3 he3) ?_
 rintro _ J3 ⟨rfl, hk2⟩
 refine Ops.app ?_
 refine zq [2,5,4,0,73] ?_
 refine zD (tr_kThreads ((({ k with ar := setA k.ar j (.nt ⟨S.w, remL S.l n, S.b⟩) } : Kn).be n (stopT t)).orphan i) A ad kb _ hk2 hw4 87 [pV b1] ((b1, .cells [.int .i64 n].toArray 3) :: []) (forgetT n) (fun j b t c s d => tr_halt1 n j b b1 t c s d) (forget_w n)) ?_
 rintro _ _ ⟨rfl, M1, hk3, rfl⟩
 refine Ops.app ?_
 refine Ops.nil ?_
 rw [halt_eq hi (thr_eq hi he), e1, e2]
 exact zf (L' := M1) ⟨rfl, by assumption⟩
set_option maxHeartbeats 8000000 in
theorem tr_kHaltO (k : Kn) (A : KA) (ad : Nat → Ad) (kb : Nat) (L : Hp) (hK : KH k A ad kb L) (hw : KW k) (n : Int) {i : Nat} {t : ThrM} {c : CapM} {s b : Int} {sp : Int × Int} (hi : k.ix n = some i) (he : k.ar[i]? = some ⟨.thr t c s b, sp⟩) (hge : gIs k t.on 114 = false) (hgn : gIs k t.on 120 = false) : Tr Tryz.prog 35 [pV kb, .int .i64 n] (L) (fun u L' => u = .tuple #[] ∧ KH (k.halt n) A ad kb L') := by
 obtain ⟨Iq, Lc, Ls, Lt, E, hI, hC, hS, hT, hE, rfl⟩ := hK
 have hE0 := hE
 haveI hBt : Blk E (ad i).tb (thrO t c s b) := hE.tb he
 have hts := (hw.ths i _ he).1
 have he2 := he
 have hi2 := hi
 have e1 := cancelE_no hw hge n
 have e2 := cancelN_no hw hgn n
 have hw2 := hw
 obtain ⟨hw3, hk3⟩ := hw2.be n (x := stopT t) (hts.still (by decide))
 obtain ⟨t3, he3⟩ := hk3.th i t c s b sp he2
 obtain ⟨hw4, hk4⟩ := hw3.orphan i
 refine Tr.enter Tryz.func35 rfl Tryz.ntmps35 rfl (fun W F => ?_)
 refine Wp.app ?_
 refine Wr ?_
 refine Ops.ef rfl (ef_box1 rfl rfl rfl) ?_
 rintro _ _ ⟨b1, rfl, rfl⟩
 refine zq [2,5,3,4,0,8] ?_
 refine zC (tr_getThrY k A ad kb _ hE0 n hi he) ?_
 refine zq [0,7,7,1,1,2,5,3,3,4,0,0,9,6,6,8] ?_
 refine zC (tr_getEpF k A ad kb _ hE0 hw t.on hge) ?_
 refine zq [0,7,7,1,1,2,5,3,4,0,2,5,17,11,5,3,3,4,0,0,9,6,6,8] ?_
 refine zC (tr_getNtF k A ad kb _ hE0 hw t.on hgn) ?_
 refine zq [0,7,7,1,1,2,5,3,4,0,2,5,17,11,5,3] ?_
 refine AnyH.start [(b1, .cells [.int .i64 n].toArray 3)] 8 rfl ?_
 refine zd [0,1,1,2,2,1,3,3,4,0] ?_
 refine AnyH.one 5 (by kernel_rfl) ?_
 refine Turn.ef rfl rfl (ef_pv (pv_loadK [_, _, _, _, _, _, _, _, _, _, _, _, _, _, _, _] rfl rfl rfl ⟨rfl, rfl, rfl, rfl, rfl, rfl, rfl, rfl, rfl, rfl, rfl, rfl, rfl, rfl, rfl, rfl, trivial⟩) rfl) ?_ ?_
 ·
  rintro _ _ ⟨rfl, rfl⟩; infer_instance
 rintro _ _ ⟨rfl, rfl⟩
 refine AnyH.one 6 (by kernel_rfl) ?_
 refine Turn.ef rfl rfl (ef_callr (tr_tStop t) rfl rfl) ?_ ?_
 ·
  rintro _ _ ⟨rfl, rfl⟩; infer_instance
 rintro _ _ ⟨rfl, rfl⟩
 refine AnyH.one 7 (by kernel_rfl) ?_
 refine Turn.ef rfl rfl (ef_call (tr_kBe k A ad kb _ ⟨Iq, Lc, Ls, Lt, _, hI, hC, hS, hT, hE0, rfl⟩ hw2 n hi2 he2 (stopT t)) rfl rfl) ?_ ?_
 ·
  rintro _ _ ⟨_, J1, ⟨rfl, hk1⟩, rfl, rfl⟩; infer_instance
 rintro _ _ ⟨_, J1, ⟨rfl, hk1⟩, rfl, rfl⟩
 refine AnyH.app ?_
 refine AnyH.done (by kernel_rfl) ?_
 refine zq [5,3,4,0,0] ?_
 refine zD (tr_kOrphan ((k : Kn).be n (stopT t)) A ad kb _ hk1 hw3 he3) ?_
 rintro _ J2 ⟨rfl, hk2⟩
 refine Ops.app ?_
 refine zq [2,5,4,0,73] ?_
 refine zD (tr_kThreads (((k : Kn).be n (stopT t)).orphan i) A ad kb _ hk2 hw4 87 [pV b1] ((b1, .cells [.int .i64 n].toArray 3) :: []) (forgetT n) (fun j b t c s d => tr_halt1 n j b b1 t c s d) (forget_w n)) ?_
 rintro _ _ ⟨rfl, M1, hk3, rfl⟩
 refine Ops.app ?_
 refine Ops.nil ?_
 rw [halt_eq hi (thr_eq hi he), e1, e2]
 exact zf (L' := M1) ⟨rfl, by assumption⟩
theorem tr_kHalt (k : Kn) (A : KA) (ad : Nat → Ad) (kb : Nat) (L : Hp) (hK : KH k A ad kb L) (hw : KW k) (n : Int) {i : Nat} {t : ThrM} {c : CapM} {s b : Int} {sp : Int × Int} (hi : k.ix n = some i) (he : k.ar[i]? = some ⟨.thr t c s b, sp⟩) : Tr Tryz.prog 35 [pV kb, .int .i64 n] L (fun u L' => u = .tuple #[] ∧ KH (k.halt n) A ad kb L') := by
 cases h1 : gIs k t.on 114 with
 | true => obtain ⟨j, S, sp2, hj, hej⟩ := ep_ex hw h1; exact tr_kHaltE k A ad kb L hK hw n hi he hj hej
 | false =>
  cases h2 : gIs k t.on 120 with
  | true => obtain ⟨j, S, sp2, hj, hej⟩ := nt_ex hw h2; exact tr_kHaltN k A ad kb L hK hw n hi he hj hej
  | false => exact tr_kHaltO k A ad kb L hK hw n hi he h1 h2
end Go.Proofs.YtipncceiekalfaaGreat
end
section
set_option linter.unusedVariables false
set_option linter.unusedSimpArgs false
set_option linter.unusedSectionVars false
namespace Go.Proofs.YtipncceiekalfaaGreat
open Go.SL
theorem tr_kAtN (k : Kn) (A : KA) (ad : Nat → Ad) (kb : Nat) (L : Hp) (hK : KH k A ad kb L) (hw : KW k) {i : Nat} {t : ThrM} {c : CapM} {s b : Int} {sp : Int × Int} (he : k.ar[i]? = some ⟨.thr t c s b, sp⟩) (a : Int) (wr : Bool) (hn : noAt s a) : TrR Tryz.prog 78 [pV kb, pV (ad i).tb, .int .u64 a, .bool wr] (L) (.tuple #[.int .i64 0, .int .i64 12]) := by
 obtain ⟨Iq, Lc, Ls, Lt, E, hI, hC, hS, hT, hE, rfl⟩ := hK
 haveI hBt : Blk E (ad i).tb (thrO t c s b) := hE.tb he
 refine Tr.enter Tryz.func78 rfl Tryz.ntmps78 rfl (fun W F => ?_)
 refine Wp.app ?_
 refine zq [3,4,1,1,2,5,3,3,4,0,9,6,8,22,0] ?_
 refine Ops.pvcn rfl rfl (fun hg => pv_move rfl) rfl ?_
 refine Ops.pvcn rfl rfl (fun hg => Pv.setE (t := 16) rfl (cv_pos hg) (pv_geq rfl rfl)) rfl ?_
 refine zq [47,2,5] ?_
 refine Wp.cond_t rfl (fun h1 => ?_) (fun h1 => (by exfalso; unfold noAt at hn; simp_all; done))
 refine zq [3,4,1,1,2,5,10,12] ?_
 exact zr ⟨rfl, rfl⟩
set_option maxHeartbeats 8000000 in
theorem tr_kAtS (k : Kn) (A : KA) (ad : Nat → Ad) (kb : Nat) (L : Hp) (hK : KH k A ad kb L) (hw : KW k) {i : Nat} {t : ThrM} {c : CapM} {s b : Int} {sp : Int × Int} (he : k.ar[i]? = some ⟨.thr t c s b, sp⟩) {j : Nat} {en : En} (hj : k.ix s = some j) (hej : k.ar[j]? = some en) (a : Int) (ha : 0 ≤ a) (wr : Bool) (hn : ¬ noAt s a) (hr : (tlbDrop k.tl s (a / 16)).length < 8) : Tr Tryz.prog 78 [pV kb, pV (ad i).tb, .int .u64 a, .bool wr] (L) (fun u L' => u = .tuple #[.int .i64 (k.atR s a wr).1, .int .i64 (k.atR s a wr).2] ∧ KH (k.atK s a) A ad kb L') := by
 obtain ⟨Iq, Lc, Ls, Lt, E, hI, hC, hS, hT, hE, rfl⟩ := hK
 haveI hBt : Blk E (ad i).tb (thrO t c s b) := hE.tb he
 haveI hBo := hE.ob hej
 have ha4 : a < 4096 := by unfold noAt at hn; omega
 have hs64 := hw.num hj
 have e1 : k.atR s a wr = toR k.tl k.ws s en.sp.1 a wr := by unfold Kn.atR; rw [if_neg hn, spcAt_eq hj hej]
 have e2 : k.atK s a = { k with tl := toL k.tl k.ws s en.sp.1 a } := by unfold Kn.atK; rw [if_neg hn, spcAt_eq hj hej]
 rw [e1, e2]
 refine Tr.enter Tryz.func78 rfl Tryz.ntmps78 rfl (fun W F => ?_)
 refine Wp.app ?_
 refine zq [3,4,1,1,2,5,3,3,4,0,9,6,8,22,0] ?_
 refine Ops.pvcn rfl rfl (fun hg => pv_move rfl) rfl ?_
 refine Ops.pvcn rfl rfl (fun hg => Pv.setE (t := 16) rfl (cv_pos hg) (pv_geq rfl rfl)) rfl ?_
 refine zq [47,2,5] ?_
 refine Wp.cond_t rfl (fun h1 => (by exfalso; unfold noAt at hn; simp_all; omega)) (fun h1 => ?_)
 refine zq [11,5,3] ?_
 refine AnyH.start ((kb, kerO A k.wi) :: (A.ob, mapO encI (kvM ad k.mp) k.ck) :: E) 33 rfl ?_
 refine zd [0,1,1,3,2,0,3,2,4,1,5,3,6,0,7,2,8,1,9,3,10,0,11,2,12,1,13,3,14,0,15,2,16,1,17,3,18,0,19,2] ?_
 refine Tk 20 rfl rfl (pv_lookup_i (r := pV (ad j).ob) s rfl rfl ((kv_get k ad s).trans (by rw [hj]; rfl))) rfl ?_
 refine zd [21,3,22,0,23,6,24,2,25,1] ?_
 refine Tk 26 rfl rfl (pv_conv rfl (w64 (by omega) (by omega))) rfl ?_
 refine zd [27,1] ?_
 refine AnyH.one 28 (by kernel_rfl) ?_
 refine Turn.ef rfl rfl (ef_call (tr_kTo k.ws A.mb A.wb k.ws.length rfl hw.len.2 hw.wok k.tl A.tb Lt hT (by have := hw.tk.2; omega) s en.sp.1 a wr ⟨ha, ha4⟩ hs64 hr hw.tk.1) rfl rfl) ?_ ?_
 ·
  rintro _ _ ⟨_, _, ⟨rfl, T1, hT1, rfl⟩, rfl, rfl⟩; infer_instance
 rintro _ _ ⟨_, _, ⟨rfl, T1, hT1, rfl⟩, rfl, rfl⟩
 refine AnyH.app ?_
 refine zd [29,4,30,4,31,5,32,5] ?_
 refine AnyH.done (by kernel_rfl) ?_
 refine zq [5,10] ?_
 exact zr (L' := (kb, kerO A k.wi) :: (A.ob, mapO encI (kvM ad k.mp) k.ck) :: (A.mb, .cells [.slice (some ⟨A.wb, 0, none⟩) k.ws.length k.ws.length].toArray 193) :: (A.wb, .cells (wordsC k.ws).toArray 22) :: (Iq ++ (Lc ++ (Ls ++ (T1 ++ E))))) ⟨rfl, Iq, Lc, Ls, T1, E, hI, hC, hS, hT1, hE, rfl⟩
theorem tr_kAt (k : Kn) (A : KA) (ad : Nat → Ad) (kb : Nat) (L : Hp) (hK : KH k A ad kb L) (hw : KW k) {i : Nat} {t : ThrM} {c : CapM} {s b : Int} {sp : Int × Int} (he : k.ar[i]? = some ⟨.thr t c s b, sp⟩) (hs : s = -1 ∨ ∃ j, k.ix s = some j) (a : Int) (ha : 0 ≤ a) (wr : Bool) (hr : k.tl.length ≤ 7) : Tr Tryz.prog 78 [pV kb, pV (ad i).tb, .int .u64 a, .bool wr] L (fun u L' => u = .tuple #[.int .i64 (k.atR s a wr).1, .int .i64 (k.atR s a wr).2] ∧ KH (k.atK s a) A ad kb L') := by
 by_cases hn : noAt s a
 ·
  have e1 : k.atR s a wr = (0, 12) := by unfold Kn.atR; rw [if_pos hn]
  have e2 : k.atK s a = k := by unfold Kn.atK; rw [if_pos hn]
  rw [e1, e2]
  exact (tr_kAtN k A ad kb L hK hw he a wr hn).mono (fun v L' h => ⟨h.1, by rw [h.2]; exact hK⟩)
 obtain ⟨j, hj⟩ := hs.resolve_left (fun h => hn (.inl h))
 obtain ⟨en, hej⟩ := hw.en hj
 exact tr_kAtS k A ad kb L hK hw he hj hej a ha wr hn (by have := tlb_len k.tl s (a / 16); omega)
set_option maxHeartbeats 8000000 in
theorem tr_kLoad (k : Kn) (A : KA) (ad : Nat → Ad) (kb : Nat) (L : Hp) (hK : KH k A ad kb L) (hw : KW k) {i : Nat} {t : ThrM} {c : CapM} {s b : Int} {sp : Int × Int} (he : k.ar[i]? = some ⟨.thr t c s b, sp⟩) (hs : s = -1 ∨ ∃ j, k.ix s = some j) (a : Int) (ha : 0 ≤ a) (hr : k.tl.length ≤ 7) : Tr Tryz.prog 75 [pV kb, pV (ad i).tb, .int .u64 a] (L) (fun u L' => u = .tuple #[.int .u64 (k.loadR s a).1, .int .i64 (k.loadR s a).2] ∧ KH (k.atK s a) A ad kb L') := by
 refine Tr.enter Tryz.func75 rfl Tryz.ntmps75 rfl (fun W F => ?_)
 refine Wp.app ?_
 refine zq [3,4,1,1,2,5,3,4,0,0,0] ?_
 refine zD (tr_kAt k A ad kb L hK hw he hs a ha false hr) ?_
 rintro _ J1 ⟨rfl, hk1⟩
 refine Ops.app ?_
 refine zq [0,7,7,1,1,2,5,3,3,4,0,27,2,5] ?_
 refine Wp.cond_dect rfl (fun h1 => ?_) (fun h1 => ?_)
 ·
  refine zq [3,4,0,1,1,2,5,10,12] ?_
  rw [show k.loadR s a = (0, (k.atR s a false).2) from if_pos (by assumption)]
  exact zr (L' := J1) ⟨rfl, hk1⟩
 obtain ⟨Iq, Lc, Ls, Lt, E, hI, hC, hS, hT, hE, rfl⟩ := hk1
 refine Wp.app ?_
 refine zq [11,5,3,4,0,9,6,8,0] ?_
 refine zC (tr_memGet (k.atK s a).ws A.mb A.wb (k.atK s a).ws.length (k.atR s a false).1 rfl hw.len.2) ?_
 refine zq [7,7,1,1,2,5,10] ?_
 rw [show k.loadR s a = memGet k.ws (k.atR s a false).1 from if_neg (by assumption)]
 exact zr (L' := (kb, kerO A (k.atK s a).wi) :: (A.ob, mapO encI (kvM ad (k.atK s a).mp) (k.atK s a).ck) :: (A.mb, .cells [.slice (some ⟨A.wb, 0, none⟩) (k.atK s a).ws.length (k.atK s a).ws.length].toArray 193) :: (A.wb, .cells (wordsC (k.atK s a).ws).toArray 22) :: (Iq ++ (Lc ++ (Ls ++ (Lt ++ E))))) ⟨rfl, Iq, Lc, Ls, Lt, E, hI, hC, hS, hT, hE, rfl⟩
theorem u64_id {x : Int} (h : U64 x) : IntKind.u64.wrap x = x := by
 have e : IntKind.u64.wrap x = x % 18446744073709551616 := rfl
 rw [e]; unfold U64 at h; omega
theorem load_u64 {k : Kn} (hw : KW k) (s a : Int) : U64 (k.loadR s a).1 := by
 unfold Kn.loadR; split
 ·
  exact (by decide : U64 0)
 exact hw.wok.get _
theorem tr_cUnpackI (x : Int) (h : U64 x) : TrR Tryz.prog 76 [.int .u64 x] [] (.tuple #[(unpM x.toNat).1.v, .int .i64 (unpM x.toNat).2]) := by
 obtain ⟨w, rfl⟩ : ∃ w : Nat, x = (w : Int) := ⟨x.toNat, by unfold U64 at h; omega⟩
 exact tr_cUnpack w (by unfold U64 at h; omega)
theorem setI_get {k : Kn} {i : Nat} {t : ThrM} {c : CapM} {s b : Int} {sp : Int × Int} (he : k.ar[i]? = some ⟨.thr t c s b, sp⟩) (f : ThrM → ThrM) : (k.setI i f).ar[i]? = some ⟨.thr (f t) c s b, sp⟩ := by
 rw [setI_eq he]; exact setA_same he _
theorem done_w {t : ThrM} (h : ThW t) {x : EffM} (hx : x.Ok) : ThW (doneT x t) := ⟨⟨h.wf.st, h.wf.on, h.wf.badge, h.wf.caller, h.wf.lvl, h.wf.dom, by have := hx.pc; unfold I64 doneT; dsimp only; omega, hx.regs⟩, hx.pc⟩
set_option maxHeartbeats 8000000 in
theorem tr_kRunBad (k : Kn) (A : KA) (ad : Nat → Ad) (kb : Nat) (L : Hp) (hK : KH k A ad kb L) (hw : KW k) {i : Nat} {t : ThrM} {c : CapM} {s b : Int} {sp : Int × Int} (he : k.ar[i]? = some ⟨.thr t c s b, sp⟩) (hs : s = -1 ∨ ∃ j, k.ix s = some j) (n : Int) (hr : k.tl.length ≤ 6) (hb : badI k t s) : Tr Tryz.prog 34 [pV kb, .int .i64 n, pV (ad i).tb] (L) (fun u L' => u = .bool false ∧ KH (k.atK s t.pc) A ad kb L') := by
 obtain ⟨Iq, Lc, Ls, Lt, E, hI, hC, hS, hT, hE, rfl⟩ := hK
 haveI hBt : Blk E (ad i).tb (thrO t c s b) := hE.tb he
 have htw := (hw.ths i _ he).1
 have he1 : (k.atK s t.pc).ar[i]? = some ⟨.thr t c s b, sp⟩ := he
 have hw1 := hw.atK s t.pc (by omega)
 have hl1 := atK_len s t.pc (k := k) (by omega)
 have hf0 : True := trivial
 refine Tr.enter Tryz.func34 rfl Tryz.ntmps34 rfl (fun W F => ?_)
 refine Wp.app ?_
 refine zq [3,4,1,2,5,3,4,0,0,0,9,6,6,8] ?_
 refine Ops.pv (pv_conv rfl (u64_id (by have := htw.pc; unfold U64; omega))) rfl ?_
 refine zD (tr_kLoad k A ad kb _ ⟨Iq, Lc, Ls, Lt, E, hI, hC, hS, hT, hE, rfl⟩ hw he hs t.pc htw.pc.1 (by omega)) ?_
 rintro _ _ ⟨rfl, hk1⟩
 refine Ops.app ?_
 obtain ⟨Iq, Lc, Ls, Lt, E, hI, hC, hS, hT, hE, rfl⟩ := hk1
 have hE0 := hE
 obtain ⟨G, R, rfl, hU, hB, hP, hEb⟩ := hE.thr he1
 haveI := hU; haveI := hB; haveI := hP
 refine Ops.app ?_
 refine zq [0,7,7,1,1,2,5,3,4,0] ?_
 refine zC (tr_cUnpackI (k.loadR s t.pc).1 (load_u64 hw s t.pc)) ?_
 refine zq [0,7,7] ?_
 refine zA fun b1 => ?_
 refine zq [14,1,2,5,3,3,4,0,27,0] ?_
 refine Ops.pvcn rfl rfl (fun hg => pv_move rfl) rfl ?_
 refine Ops.pvcn rfl rfl (fun hg => Pv.setE (t := 38) rfl (cv_pos hg) (pv_neq rfl rfl)) rfl ?_
 refine zq [47,2,5] ?_
 refine Wp.cond_t rfl (fun h1 => ?_) (fun h1 => (by exfalso; unfold badI at hb; simp_all; done))
 refine zq [3,4,1,2,5,10,12] ?_
 exact zr (L' := (kb, kerO A (k.atK s t.pc).wi) :: (A.ob, mapO encI (kvM ad (k.atK s t.pc).mp) (k.atK s t.pc).ck) :: (A.mb, .cells [.slice (some ⟨A.wb, 0, none⟩) (k.atK s t.pc).ws.length (k.atK s t.pc).ws.length].toArray 193) :: (A.wb, .cells (wordsC (k.atK s t.pc).ws).toArray 22) :: (Iq ++ (Lc ++ (Ls ++ (Lt ++ (G (thrO t c s b))))))) ⟨rfl, Iq, Lc, Ls, Lt, _, hI, hC, hS, hT, hE0, rfl⟩
set_option maxHeartbeats 8000000 in
theorem tr_kRunEnd (k : Kn) (A : KA) (ad : Nat → Ad) (kb : Nat) (L : Hp) (hK : KH k A ad kb L) (hw : KW k) {i : Nat} {t : ThrM} {c : CapM} {s b : Int} {sp : Int × Int} (he : k.ar[i]? = some ⟨.thr t c s b, sp⟩) (hs : s = -1 ∨ ∃ j, k.ix s = some j) (n : Int) (hr : k.tl.length ≤ 6) (hb : ¬ badI k t s) (x : EffM) (hx : effI k t s = x) (ha : x.asks = 4) : Tr Tryz.prog 34 [pV kb, .int .i64 n, pV (ad i).tb] (L) (fun u L' => u = .bool false ∧ KH (k.atK s t.pc) A ad kb L') := by
 obtain ⟨Iq, Lc, Ls, Lt, E, hI, hC, hS, hT, hE, rfl⟩ := hK
 haveI hBt : Blk E (ad i).tb (thrO t c s b) := hE.tb he
 have htw := (hw.ths i _ he).1
 have he1 : (k.atK s t.pc).ar[i]? = some ⟨.thr t c s b, sp⟩ := he
 have hw1 := hw.atK s t.pc (by omega)
 have hl1 := atK_len s t.pc (k := k) (by omega)
 have he0 : (k.loadR s t.pc).2 = 0 := Decidable.of_not_not (fun h => hb (.inl h))
 have hf0 : (unpM (k.loadR s t.pc).1.toNat).2 = 0 := Decidable.of_not_not (fun h => hb (.inr h))
 have hxo : x.Ok := by rw [← hx]; exact run_ok (unpI_ok hf0) htw.wf.regs htw.pc
 refine Tr.enter Tryz.func34 rfl Tryz.ntmps34 rfl (fun W F => ?_)
 refine Wp.app ?_
 refine zq [3,4,1,2,5,3,4,0,0,0,9,6,6,8] ?_
 refine Ops.pv (pv_conv rfl (u64_id (by have := htw.pc; unfold U64; omega))) rfl ?_
 refine zD (tr_kLoad k A ad kb _ ⟨Iq, Lc, Ls, Lt, E, hI, hC, hS, hT, hE, rfl⟩ hw he hs t.pc htw.pc.1 (by omega)) ?_
 rintro _ _ ⟨rfl, hk1⟩
 refine Ops.app ?_
 obtain ⟨Iq, Lc, Ls, Lt, E, hI, hC, hS, hT, hE, rfl⟩ := hk1
 have hE0 := hE
 obtain ⟨G, R, rfl, hU, hB, hP, hEb⟩ := hE.thr he1
 haveI := hU; haveI := hB; haveI := hP
 refine Ops.app ?_
 refine zq [0,7,7,1,1,2,5,3,4,0] ?_
 refine zC (tr_cUnpackI (k.loadR s t.pc).1 (load_u64 hw s t.pc)) ?_
 refine zq [0,7,7] ?_
 refine zA fun b1 => ?_
 refine zq [14,1,2,5,3,3,4,0,27,0] ?_
 refine Ops.pvcn rfl rfl (fun hg => pv_move rfl) rfl ?_
 refine Ops.pvcn rfl rfl (fun hg => Pv.setE (t := 38) rfl (cv_pos hg) (pv_neq rfl rfl)) rfl ?_
 refine zq [47,2,5] ?_
 refine Wp.cond_t rfl (fun h1 => (by exfalso; unfold badI at hb; simp_all; done)) (fun h1 => ?_)
 refine zq [11,5,3,4,0,9,6,6,8,1,2,5] ?_
 apply Wp.cutB1 [(0, _), (1, _), (2, _), (11, _)] (fun b2 => [(12, _)]) _ ⟨rfl, rfl, rfl, rfl, trivial⟩
 ·
  intro KK hA0
  refine AnyH.start ((G (thrO t c s b)) ++ [(b1, .cells [.int .i64 ((unpM (k.loadR s t.pc).1.toNat).1.op : Nat), .int .i64 ((unpM (k.loadR s t.pc).1.toNat).1.a : Nat), .int .i64 ((unpM (k.loadR s t.pc).1.toNat).1.b : Nat), .int .i64 ((unpM (k.loadR s t.pc).1.toNat).1.imm : Nat)].toArray 165)]) 14 rfl ?_
  refine Tk 0 rfl rfl (pv_loadK [_, _, _, _] rfl rfl rfl ⟨rfl, rfl, rfl, rfl, trivial⟩) rfl ?_
  refine zd [1,1,2,3,3,0,4,0,5,12,6,1] ?_
  refine AnyH.two 7 11 (by kernel_rfl) ?_ ?_
  ·
   refine Turn.ef rfl rfl (ef_callr ((tr_cRun (unpM (k.loadR s t.pc).1.toNat).1 (unpI_ok hf0) t.regs htw.wf.regs t.pc htw.pc).eq (r' := .tuple #[x.v, .int .i64 0]) (by rw [show runM (unpM (k.loadR s t.pc).1.toNat).1 t.regs t.pc = x from hx])) rfl rfl) ?_ ?_
   ·
    rintro _ _ ⟨rfl, rfl⟩; infer_instance
   rintro _ _ ⟨rfl, rfl⟩
   refine zd [8,1,9,4,10,4] ?_
   refine AnyH.one 11 (by kernel_rfl) ?_
   refine Turn.ef rfl rfl (ef_allocK tyZ169 rfl) ?_ ?_
   ·
    rintro _ _ ⟨b2, rfl, rfl⟩; infer_instance
   rintro _ _ ⟨b2, rfl, rfl⟩
   refine zK 12 ?_
   refine zd [13,5] ?_
   refine AnyH.done (by kernel_rfl) ?_
   refine zq [49] ?_
   refine Goes.same (hA0 b2) ⟨rfl, rfl, rfl, rfl, rfl, trivial⟩
  refine Turn.ef rfl rfl (ef_allocK tyZ169 rfl) ?_ ?_
  ·
   rintro _ _ ⟨b3, rfl, rfl⟩; infer_instance
  rintro _ _ ⟨b3, rfl, rfl⟩
  refine AnyH.one 7 (by kernel_rfl) ?_
  refine Turn.ef rfl rfl (ef_callr ((tr_cRun (unpM (k.loadR s t.pc).1.toNat).1 (unpI_ok hf0) t.regs htw.wf.regs t.pc htw.pc).eq (r' := .tuple #[x.v, .int .i64 0]) (by rw [show runM (unpM (k.loadR s t.pc).1.toNat).1 t.regs t.pc = x from hx])) rfl rfl) ?_ ?_
  ·
   rintro _ _ ⟨rfl, rfl⟩; infer_instance
  rintro _ _ ⟨rfl, rfl⟩
  refine zd [8,1,9,4,10,4] ?_
  refine zK 12 ?_
  refine zd [13,5] ?_
  refine AnyH.done (by kernel_rfl) ?_
  refine zq [49] ?_
  refine Goes.back (hA0 b3) ⟨rfl, rfl, rfl, rfl, rfl, trivial⟩
 intro b2
 dsimp only [List.cons_append, List.nil_append]
 refine zq [3,3,4,6,8,2,5,20,3,4,66,1,2,5,18,3,4,1,2,5,10,15,12] ?_
 exact zr (L' := (kb, kerO A (k.atK s t.pc).wi) :: (A.ob, mapO encI (kvM ad (k.atK s t.pc).mp) (k.atK s t.pc).ck) :: (A.mb, .cells [.slice (some ⟨A.wb, 0, none⟩) (k.atK s t.pc).ws.length (k.atK s t.pc).ws.length].toArray 193) :: (A.wb, .cells (wordsC (k.atK s t.pc).ws).toArray 22) :: (Iq ++ (Lc ++ (Ls ++ (Lt ++ (G (thrO t c s b))))))) ⟨rfl, Iq, Lc, Ls, Lt, _, hI, hC, hS, hT, hE0, rfl⟩
set_option maxHeartbeats 8000000 in
theorem tr_kRunPlain (k : Kn) (A : KA) (ad : Nat → Ad) (kb : Nat) (L : Hp) (hK : KH k A ad kb L) (hw : KW k) {i : Nat} {t : ThrM} {c : CapM} {s b : Int} {sp : Int × Int} (he : k.ar[i]? = some ⟨.thr t c s b, sp⟩) (hs : s = -1 ∨ ∃ j, k.ix s = some j) (n : Int) (hr : k.tl.length ≤ 6) (hb : ¬ badI k t s) (x : EffM) (hx : effI k t s = x) (ha : x.asks ≠ 4 ∧ x.asks ≠ 1 ∧ x.asks ≠ 2 ∧ x.asks ≠ 3) : Tr Tryz.prog 34 [pV kb, .int .i64 n, pV (ad i).tb] (L) (fun u L' => u = .bool true ∧ KH ((k.atK s t.pc).setI i (doneT x)) A ad kb L') := by
 obtain ⟨Iq, Lc, Ls, Lt, E, hI, hC, hS, hT, hE, rfl⟩ := hK
 haveI hBt : Blk E (ad i).tb (thrO t c s b) := hE.tb he
 have htw := (hw.ths i _ he).1
 have he1 : (k.atK s t.pc).ar[i]? = some ⟨.thr t c s b, sp⟩ := he
 have hw1 := hw.atK s t.pc (by omega)
 have hl1 := atK_len s t.pc (k := k) (by omega)
 have he0 : (k.loadR s t.pc).2 = 0 := Decidable.of_not_not (fun h => hb (.inl h))
 have hf0 : (unpM (k.loadR s t.pc).1.toNat).2 = 0 := Decidable.of_not_not (fun h => hb (.inr h))
 have hxo : x.Ok := by rw [← hx]; exact run_ok (unpI_ok hf0) htw.wf.regs htw.pc
 refine Tr.enter Tryz.func34 rfl Tryz.ntmps34 rfl (fun W F => ?_)
 refine Wp.app ?_
 refine zq [3,4,1,2,5,3,4,0,0,0,9,6,6,8] ?_
 refine Ops.pv (pv_conv rfl (u64_id (by have := htw.pc; unfold U64; omega))) rfl ?_
 refine zD (tr_kLoad k A ad kb _ ⟨Iq, Lc, Ls, Lt, E, hI, hC, hS, hT, hE, rfl⟩ hw he hs t.pc htw.pc.1 (by omega)) ?_
 rintro _ _ ⟨rfl, hk1⟩
 refine Ops.app ?_
 obtain ⟨Iq, Lc, Ls, Lt, E, hI, hC, hS, hT, hE, rfl⟩ := hk1
 have hE0 := hE
 obtain ⟨G, R, rfl, hU, hB, hP, hEb⟩ := hE.thr he1
 haveI := hU; haveI := hB; haveI := hP
 refine Ops.app ?_
 refine zq [0,7,7,1,1,2,5,3,4,0] ?_
 refine zC (tr_cUnpackI (k.loadR s t.pc).1 (load_u64 hw s t.pc)) ?_
 refine zq [0,7,7] ?_
 refine zA fun b1 => ?_
 refine zq [14,1,2,5,3,3,4,0,27,0] ?_
 refine Ops.pvcn rfl rfl (fun hg => pv_move rfl) rfl ?_
 refine Ops.pvcn rfl rfl (fun hg => Pv.setE (t := 38) rfl (cv_pos hg) (pv_neq rfl rfl)) rfl ?_
 refine zq [47,2,5] ?_
 refine Wp.cond_t rfl (fun h1 => (by exfalso; unfold badI at hb; simp_all; done)) (fun h1 => ?_)
 refine zq [11,5,3,4,0,9,6,6,8,1,2,5] ?_
 apply Wp.cutB1 [(0, _), (1, _), (2, _), (11, _)] (fun b2 => [(12, _)]) _ ⟨rfl, rfl, rfl, rfl, trivial⟩
 ·
  intro KK hA0
  refine AnyH.start ((G (thrO t c s b)) ++ [(b1, .cells [.int .i64 ((unpM (k.loadR s t.pc).1.toNat).1.op : Nat), .int .i64 ((unpM (k.loadR s t.pc).1.toNat).1.a : Nat), .int .i64 ((unpM (k.loadR s t.pc).1.toNat).1.b : Nat), .int .i64 ((unpM (k.loadR s t.pc).1.toNat).1.imm : Nat)].toArray 165)]) 14 rfl ?_
  refine Tk 0 rfl rfl (pv_loadK [_, _, _, _] rfl rfl rfl ⟨rfl, rfl, rfl, rfl, trivial⟩) rfl ?_
  refine zd [1,1,2,3,3,0,4,0,5,12,6,1] ?_
  refine AnyH.two 7 11 (by kernel_rfl) ?_ ?_
  ·
   refine Turn.ef rfl rfl (ef_callr ((tr_cRun (unpM (k.loadR s t.pc).1.toNat).1 (unpI_ok hf0) t.regs htw.wf.regs t.pc htw.pc).eq (r' := .tuple #[x.v, .int .i64 0]) (by rw [show runM (unpM (k.loadR s t.pc).1.toNat).1 t.regs t.pc = x from hx])) rfl rfl) ?_ ?_
   ·
    rintro _ _ ⟨rfl, rfl⟩; infer_instance
   rintro _ _ ⟨rfl, rfl⟩
   refine zd [8,1,9,4,10,4] ?_
   refine AnyH.one 11 (by kernel_rfl) ?_
   refine Turn.ef rfl rfl (ef_allocK tyZ169 rfl) ?_ ?_
   ·
    rintro _ _ ⟨b2, rfl, rfl⟩; infer_instance
   rintro _ _ ⟨b2, rfl, rfl⟩
   refine zK 12 ?_
   refine zd [13,5] ?_
   refine AnyH.done (by kernel_rfl) ?_
   refine zq [49] ?_
   refine Goes.same (hA0 b2) ⟨rfl, rfl, rfl, rfl, rfl, trivial⟩
  refine Turn.ef rfl rfl (ef_allocK tyZ169 rfl) ?_ ?_
  ·
   rintro _ _ ⟨b3, rfl, rfl⟩; infer_instance
  rintro _ _ ⟨b3, rfl, rfl⟩
  refine AnyH.one 7 (by kernel_rfl) ?_
  refine Turn.ef rfl rfl (ef_callr ((tr_cRun (unpM (k.loadR s t.pc).1.toNat).1 (unpI_ok hf0) t.regs htw.wf.regs t.pc htw.pc).eq (r' := .tuple #[x.v, .int .i64 0]) (by rw [show runM (unpM (k.loadR s t.pc).1.toNat).1 t.regs t.pc = x from hx])) rfl rfl) ?_ ?_
  ·
   rintro _ _ ⟨rfl, rfl⟩; infer_instance
  rintro _ _ ⟨rfl, rfl⟩
  refine zd [8,1,9,4,10,4] ?_
  refine zK 12 ?_
  refine zd [13,5] ?_
  refine AnyH.done (by kernel_rfl) ?_
  refine zq [49] ?_
  refine Goes.back (hA0 b3) ⟨rfl, rfl, rfl, rfl, rfl, trivial⟩
 intro b2
 dsimp only [List.cons_append, List.nil_append]
 refine zq [3,3,4,6,8,2,5,20,3,4,65,1,2,5,17,3,4,65,1,2,5,17,3,4,65,1,2,5,17,11,19,5,3] ?_
 refine AnyH.start [(b2, .cells [.int .u64 x.regs.r0, .int .u64 x.regs.r1, .int .u64 x.regs.r2, .int .u64 x.regs.r3, .int .u64 x.regs.r4, .int .u64 x.regs.r5, .int .u64 x.regs.r6, .int .u64 x.regs.r7, .int .i64 x.pc, .int .i64 x.asks, .int .u64 x.at_, .int .i64 x.reg, .int .u64 x.val].toArray 169)] 14 rfl ?_
 refine zd [0,1,1,1,2,0,3,12,4,0,5,2,6,3,7,0,8,0] ?_
 refine zK 9 ?_
 refine zd [10,3,11,0,12,0] ?_
 refine z1 13 ?_
 refine AnyH.done (by kernel_rfl) ?_
 refine zq [5,3,3,4,6,8,65,0,13,13,13,13,13,13,13,26,2,5,17,11,5,3,4,1,2,5,10] ?_
 rw [setI_eq he1]
 exact zr (L' := (kb, kerO A (k.atK s t.pc).wi) :: (A.ob, mapO encI (kvM ad (k.atK s t.pc).mp) (k.atK s t.pc).ck) :: (A.mb, .cells [.slice (some ⟨A.wb, 0, none⟩) (k.atK s t.pc).ws.length (k.atK s t.pc).ws.length].toArray 193) :: (A.wb, .cells (wordsC (k.atK s t.pc).ws).toArray 22) :: (Iq ++ (Lc ++ (Ls ++ (Lt ++ (G (thrO (doneT x t) c s b))))))) ⟨rfl, Iq, Lc, Ls, Lt, _, hI, hC, hS, hT, hEb (doneT x t) c s b, rfl⟩
set_option maxHeartbeats 8000000 in
theorem tr_kRunReadN (k : Kn) (A : KA) (ad : Nat → Ad) (kb : Nat) (L : Hp) (hK : KH k A ad kb L) (hw : KW k) {i : Nat} {t : ThrM} {c : CapM} {s b : Int} {sp : Int × Int} (he : k.ar[i]? = some ⟨.thr t c s b, sp⟩) (hs : s = -1 ∨ ∃ j, k.ix s = some j) (n : Int) (hr : k.tl.length ≤ 6) (hb : ¬ badI k t s) (x : EffM) (hx : effI k t s = x) (ha : x.asks = 1) (hv : ((k.atK s t.pc).loadR s x.at_).2 ≠ 0) : Tr Tryz.prog 34 [pV kb, .int .i64 n, pV (ad i).tb] (L) (fun u L' => u = .bool false ∧ KH ((k.atK s t.pc).atK s x.at_) A ad kb L') := by
 obtain ⟨Iq, Lc, Ls, Lt, E, hI, hC, hS, hT, hE, rfl⟩ := hK
 haveI hBt : Blk E (ad i).tb (thrO t c s b) := hE.tb he
 have htw := (hw.ths i _ he).1
 have he1 : (k.atK s t.pc).ar[i]? = some ⟨.thr t c s b, sp⟩ := he
 have hw1 := hw.atK s t.pc (by omega)
 have hl1 := atK_len s t.pc (k := k) (by omega)
 have he0 : (k.loadR s t.pc).2 = 0 := Decidable.of_not_not (fun h => hb (.inl h))
 have hf0 : (unpM (k.loadR s t.pc).1.toNat).2 = 0 := Decidable.of_not_not (fun h => hb (.inr h))
 have hxo : x.Ok := by rw [← hx]; exact run_ok (unpI_ok hf0) htw.wf.regs htw.pc
 have he2 : ((k.atK s t.pc).atK s x.at_).ar[i]? = some ⟨.thr t c s b, sp⟩ := he
 refine Tr.enter Tryz.func34 rfl Tryz.ntmps34 rfl (fun W F => ?_)
 refine Wp.app ?_
 refine zq [3,4,1,2,5,3,4,0,0,0,9,6,6,8] ?_
 refine Ops.pv (pv_conv rfl (u64_id (by have := htw.pc; unfold U64; omega))) rfl ?_
 refine zD (tr_kLoad k A ad kb _ ⟨Iq, Lc, Ls, Lt, E, hI, hC, hS, hT, hE, rfl⟩ hw he hs t.pc htw.pc.1 (by omega)) ?_
 rintro _ _ ⟨rfl, hk1⟩
 refine Ops.app ?_
 obtain ⟨Iq, Lc, Ls, Lt, E, hI, hC, hS, hT, hE, rfl⟩ := hk1
 have hE0 := hE
 obtain ⟨G, R, rfl, hU, hB, hP, hEb⟩ := hE.thr he1
 haveI := hU; haveI := hB; haveI := hP
 refine Ops.app ?_
 refine zq [0,7,7,1,1,2,5,3,4,0] ?_
 refine zC (tr_cUnpackI (k.loadR s t.pc).1 (load_u64 hw s t.pc)) ?_
 refine zq [0,7,7] ?_
 refine zA fun b1 => ?_
 refine zq [14,1,2,5,3,3,4,0,27,0] ?_
 refine Ops.pvcn rfl rfl (fun hg => pv_move rfl) rfl ?_
 refine Ops.pvcn rfl rfl (fun hg => Pv.setE (t := 38) rfl (cv_pos hg) (pv_neq rfl rfl)) rfl ?_
 refine zq [47,2,5] ?_
 refine Wp.cond_t rfl (fun h1 => (by exfalso; unfold badI at hb; simp_all; done)) (fun h1 => ?_)
 refine zq [11,5,3,4,0,9,6,6,8,1,2,5] ?_
 apply Wp.cutB1 [(0, _), (1, _), (2, _), (11, _)] (fun b2 => [(12, _)]) _ ⟨rfl, rfl, rfl, rfl, trivial⟩
 ·
  intro KK hA0
  refine AnyH.start ((G (thrO t c s b)) ++ [(b1, .cells [.int .i64 ((unpM (k.loadR s t.pc).1.toNat).1.op : Nat), .int .i64 ((unpM (k.loadR s t.pc).1.toNat).1.a : Nat), .int .i64 ((unpM (k.loadR s t.pc).1.toNat).1.b : Nat), .int .i64 ((unpM (k.loadR s t.pc).1.toNat).1.imm : Nat)].toArray 165)]) 14 rfl ?_
  refine Tk 0 rfl rfl (pv_loadK [_, _, _, _] rfl rfl rfl ⟨rfl, rfl, rfl, rfl, trivial⟩) rfl ?_
  refine zd [1,1,2,3,3,0,4,0,5,12,6,1] ?_
  refine AnyH.two 7 11 (by kernel_rfl) ?_ ?_
  ·
   refine Turn.ef rfl rfl (ef_callr ((tr_cRun (unpM (k.loadR s t.pc).1.toNat).1 (unpI_ok hf0) t.regs htw.wf.regs t.pc htw.pc).eq (r' := .tuple #[x.v, .int .i64 0]) (by rw [show runM (unpM (k.loadR s t.pc).1.toNat).1 t.regs t.pc = x from hx])) rfl rfl) ?_ ?_
   ·
    rintro _ _ ⟨rfl, rfl⟩; infer_instance
   rintro _ _ ⟨rfl, rfl⟩
   refine zd [8,1,9,4,10,4] ?_
   refine AnyH.one 11 (by kernel_rfl) ?_
   refine Turn.ef rfl rfl (ef_allocK tyZ169 rfl) ?_ ?_
   ·
    rintro _ _ ⟨b2, rfl, rfl⟩; infer_instance
   rintro _ _ ⟨b2, rfl, rfl⟩
   refine zK 12 ?_
   refine zd [13,5] ?_
   refine AnyH.done (by kernel_rfl) ?_
   refine zq [49] ?_
   refine Goes.same (hA0 b2) ⟨rfl, rfl, rfl, rfl, rfl, trivial⟩
  refine Turn.ef rfl rfl (ef_allocK tyZ169 rfl) ?_ ?_
  ·
   rintro _ _ ⟨b3, rfl, rfl⟩; infer_instance
  rintro _ _ ⟨b3, rfl, rfl⟩
  refine AnyH.one 7 (by kernel_rfl) ?_
  refine Turn.ef rfl rfl (ef_callr ((tr_cRun (unpM (k.loadR s t.pc).1.toNat).1 (unpI_ok hf0) t.regs htw.wf.regs t.pc htw.pc).eq (r' := .tuple #[x.v, .int .i64 0]) (by rw [show runM (unpM (k.loadR s t.pc).1.toNat).1 t.regs t.pc = x from hx])) rfl rfl) ?_ ?_
  ·
   rintro _ _ ⟨rfl, rfl⟩; infer_instance
  rintro _ _ ⟨rfl, rfl⟩
  refine zd [8,1,9,4,10,4] ?_
  refine zK 12 ?_
  refine zd [13,5] ?_
  refine AnyH.done (by kernel_rfl) ?_
  refine zq [49] ?_
  refine Goes.back (hA0 b3) ⟨rfl, rfl, rfl, rfl, rfl, trivial⟩
 intro b2
 dsimp only [List.cons_append, List.nil_append]
 refine zq [3,3,4,6,8,2,5,20,3,4,65,1,2,5,17,3,4,66,1,2,5,18,3,4,0,0,6,8] ?_
 refine zD (tr_kLoad (k.atK s t.pc) A ad kb _ ⟨Iq, Lc, Ls, Lt, _, hI, hC, hS, hT, hE0, rfl⟩ hw1 he1 hs x.at_ hxo.at_.1 (by omega)) ?_
 rintro _ _ ⟨rfl, hk2⟩
 refine Ops.app ?_
 obtain ⟨Iq, Lc, Ls, Lt, E, hI, hC, hS, hT, hE, rfl⟩ := hk2
 have hE0 := hE
 obtain ⟨G, R, rfl, hU, hB, hP, hEb⟩ := hE.thr he2
 haveI := hU; haveI := hB; haveI := hP
 refine Ops.app ?_
 refine zq [0,7,7,1,1,2,5,3,3,4,0,68,2,5,18,3,4,1,2,5,10,12,15,12] ?_
 exact zr (L' := (kb, kerO A ((k.atK s t.pc).atK s x.at_).wi) :: (A.ob, mapO encI (kvM ad ((k.atK s t.pc).atK s x.at_).mp) ((k.atK s t.pc).atK s x.at_).ck) :: (A.mb, .cells [.slice (some ⟨A.wb, 0, none⟩) ((k.atK s t.pc).atK s x.at_).ws.length ((k.atK s t.pc).atK s x.at_).ws.length].toArray 193) :: (A.wb, .cells (wordsC ((k.atK s t.pc).atK s x.at_).ws).toArray 22) :: (Iq ++ (Lc ++ (Ls ++ (Lt ++ (G (thrO t c s b))))))) ⟨rfl, Iq, Lc, Ls, Lt, _, hI, hC, hS, hT, hE0, rfl⟩
set_option maxHeartbeats 8000000 in
theorem tr_kRunRead (k : Kn) (A : KA) (ad : Nat → Ad) (kb : Nat) (L : Hp) (hK : KH k A ad kb L) (hw : KW k) {i : Nat} {t : ThrM} {c : CapM} {s b : Int} {sp : Int × Int} (he : k.ar[i]? = some ⟨.thr t c s b, sp⟩) (hs : s = -1 ∨ ∃ j, k.ix s = some j) (n : Int) (hr : k.tl.length ≤ 6) (hb : ¬ badI k t s) (x : EffM) (hx : effI k t s = x) (ha : x.asks = 1) (hv : ((k.atK s t.pc).loadR s x.at_).2 = 0) : Tr Tryz.prog 34 [pV kb, .int .i64 n, pV (ad i).tb] (L) (fun u L' => u = .bool true ∧ KH (((k.atK s t.pc).atK s x.at_).setI i (doneT { x with regs := x.regs.set ((k.atK s t.pc).loadR s x.at_).1 x.reg.toNat })) A ad kb L') := by
 obtain ⟨Iq, Lc, Ls, Lt, E, hI, hC, hS, hT, hE, rfl⟩ := hK
 haveI hBt : Blk E (ad i).tb (thrO t c s b) := hE.tb he
 have htw := (hw.ths i _ he).1
 have he1 : (k.atK s t.pc).ar[i]? = some ⟨.thr t c s b, sp⟩ := he
 have hw1 := hw.atK s t.pc (by omega)
 have hl1 := atK_len s t.pc (k := k) (by omega)
 have he0 : (k.loadR s t.pc).2 = 0 := Decidable.of_not_not (fun h => hb (.inl h))
 have hf0 : (unpM (k.loadR s t.pc).1.toNat).2 = 0 := Decidable.of_not_not (fun h => hb (.inr h))
 have hxo : x.Ok := by rw [← hx]; exact run_ok (unpI_ok hf0) htw.wf.regs htw.pc
 have he2 : ((k.atK s t.pc).atK s x.at_).ar[i]? = some ⟨.thr t c s b, sp⟩ := he
 have hrg := hxo.reg
 haveI hsr := EffM.setr (x := x) (i := x.reg.toNat) (v := ((k.atK s t.pc).loadR s x.at_).1) (by omega)
 refine Tr.enter Tryz.func34 rfl Tryz.ntmps34 rfl (fun W F => ?_)
 refine Wp.app ?_
 refine zq [3,4,1,2,5,3,4,0,0,0,9,6,6,8] ?_
 refine Ops.pv (pv_conv rfl (u64_id (by have := htw.pc; unfold U64; omega))) rfl ?_
 refine zD (tr_kLoad k A ad kb _ ⟨Iq, Lc, Ls, Lt, E, hI, hC, hS, hT, hE, rfl⟩ hw he hs t.pc htw.pc.1 (by omega)) ?_
 rintro _ _ ⟨rfl, hk1⟩
 refine Ops.app ?_
 obtain ⟨Iq, Lc, Ls, Lt, E, hI, hC, hS, hT, hE, rfl⟩ := hk1
 have hE0 := hE
 obtain ⟨G, R, rfl, hU, hB, hP, hEb⟩ := hE.thr he1
 haveI := hU; haveI := hB; haveI := hP
 refine Ops.app ?_
 refine zq [0,7,7,1,1,2,5,3,4,0] ?_
 refine zC (tr_cUnpackI (k.loadR s t.pc).1 (load_u64 hw s t.pc)) ?_
 refine zq [0,7,7] ?_
 refine zA fun b1 => ?_
 refine zq [14,1,2,5,3,3,4,0,27,0] ?_
 refine Ops.pvcn rfl rfl (fun hg => pv_move rfl) rfl ?_
 refine Ops.pvcn rfl rfl (fun hg => Pv.setE (t := 38) rfl (cv_pos hg) (pv_neq rfl rfl)) rfl ?_
 refine zq [47,2,5] ?_
 refine Wp.cond_t rfl (fun h1 => (by exfalso; unfold badI at hb; simp_all; done)) (fun h1 => ?_)
 refine zq [11,5,3,4,0,9,6,6,8,1,2,5] ?_
 apply Wp.cutB1 [(0, _), (1, _), (2, _), (11, _)] (fun b2 => [(12, _)]) _ ⟨rfl, rfl, rfl, rfl, trivial⟩
 ·
  intro KK hA0
  refine AnyH.start ((G (thrO t c s b)) ++ [(b1, .cells [.int .i64 ((unpM (k.loadR s t.pc).1.toNat).1.op : Nat), .int .i64 ((unpM (k.loadR s t.pc).1.toNat).1.a : Nat), .int .i64 ((unpM (k.loadR s t.pc).1.toNat).1.b : Nat), .int .i64 ((unpM (k.loadR s t.pc).1.toNat).1.imm : Nat)].toArray 165)]) 14 rfl ?_
  refine Tk 0 rfl rfl (pv_loadK [_, _, _, _] rfl rfl rfl ⟨rfl, rfl, rfl, rfl, trivial⟩) rfl ?_
  refine zd [1,1,2,3,3,0,4,0,5,12,6,1] ?_
  refine AnyH.two 7 11 (by kernel_rfl) ?_ ?_
  ·
   refine Turn.ef rfl rfl (ef_callr ((tr_cRun (unpM (k.loadR s t.pc).1.toNat).1 (unpI_ok hf0) t.regs htw.wf.regs t.pc htw.pc).eq (r' := .tuple #[x.v, .int .i64 0]) (by rw [show runM (unpM (k.loadR s t.pc).1.toNat).1 t.regs t.pc = x from hx])) rfl rfl) ?_ ?_
   ·
    rintro _ _ ⟨rfl, rfl⟩; infer_instance
   rintro _ _ ⟨rfl, rfl⟩
   refine zd [8,1,9,4,10,4] ?_
   refine AnyH.one 11 (by kernel_rfl) ?_
   refine Turn.ef rfl rfl (ef_allocK tyZ169 rfl) ?_ ?_
   ·
    rintro _ _ ⟨b2, rfl, rfl⟩; infer_instance
   rintro _ _ ⟨b2, rfl, rfl⟩
   refine zK 12 ?_
   refine zd [13,5] ?_
   refine AnyH.done (by kernel_rfl) ?_
   refine zq [49] ?_
   refine Goes.same (hA0 b2) ⟨rfl, rfl, rfl, rfl, rfl, trivial⟩
  refine Turn.ef rfl rfl (ef_allocK tyZ169 rfl) ?_ ?_
  ·
   rintro _ _ ⟨b3, rfl, rfl⟩; infer_instance
  rintro _ _ ⟨b3, rfl, rfl⟩
  refine AnyH.one 7 (by kernel_rfl) ?_
  refine Turn.ef rfl rfl (ef_callr ((tr_cRun (unpM (k.loadR s t.pc).1.toNat).1 (unpI_ok hf0) t.regs htw.wf.regs t.pc htw.pc).eq (r' := .tuple #[x.v, .int .i64 0]) (by rw [show runM (unpM (k.loadR s t.pc).1.toNat).1 t.regs t.pc = x from hx])) rfl rfl) ?_ ?_
  ·
   rintro _ _ ⟨rfl, rfl⟩; infer_instance
  rintro _ _ ⟨rfl, rfl⟩
  refine zd [8,1,9,4,10,4] ?_
  refine zK 12 ?_
  refine zd [13,5] ?_
  refine AnyH.done (by kernel_rfl) ?_
  refine zq [49] ?_
  refine Goes.back (hA0 b3) ⟨rfl, rfl, rfl, rfl, rfl, trivial⟩
 intro b2
 dsimp only [List.cons_append, List.nil_append]
 refine zq [3,3,4,6,8,2,5,20,3,4,65,1,2,5,17,3,4,66,1,2,5,18,3,4,0,0,6,8] ?_
 refine zD (tr_kLoad (k.atK s t.pc) A ad kb _ ⟨Iq, Lc, Ls, Lt, _, hI, hC, hS, hT, hE0, rfl⟩ hw1 he1 hs x.at_ hxo.at_.1 (by omega)) ?_
 rintro _ _ ⟨rfl, hk2⟩
 refine Ops.app ?_
 obtain ⟨Iq, Lc, Ls, Lt, E, hI, hC, hS, hT, hE, rfl⟩ := hk2
 have hE0 := hE
 obtain ⟨G, R, rfl, hU, hB, hP, hEb⟩ := hE.thr he2
 haveI := hU; haveI := hB; haveI := hP
 refine Ops.app ?_
 refine zq [0,7,7,1,1,2,5,3,3,4,0,67,2,5,17,11,5,4,6,8,0,6] ?_
 refine Ops.pv (pv_indexAddrN (i := x.reg.toNat) (o2 := x.reg.toNat) rfl rfl (by omega) (by omega) (by omega)) rfl ?_
 refine zq [25,2,19,5,3] ?_
 refine AnyH.start [(b2, .cells [.int .u64 (x.regs.set ((k.atK s t.pc).loadR s x.at_).1 x.reg.toNat).r0, .int .u64 (x.regs.set ((k.atK s t.pc).loadR s x.at_).1 x.reg.toNat).r1, .int .u64 (x.regs.set ((k.atK s t.pc).loadR s x.at_).1 x.reg.toNat).r2, .int .u64 (x.regs.set ((k.atK s t.pc).loadR s x.at_).1 x.reg.toNat).r3, .int .u64 (x.regs.set ((k.atK s t.pc).loadR s x.at_).1 x.reg.toNat).r4, .int .u64 (x.regs.set ((k.atK s t.pc).loadR s x.at_).1 x.reg.toNat).r5, .int .u64 (x.regs.set ((k.atK s t.pc).loadR s x.at_).1 x.reg.toNat).r6, .int .u64 (x.regs.set ((k.atK s t.pc).loadR s x.at_).1 x.reg.toNat).r7, .int .i64 x.pc, .int .i64 x.asks, .int .u64 x.at_, .int .i64 x.reg, .int .u64 x.val].toArray 169)] 14 rfl ?_
 refine zd [0,1,1,1,2,0,3,12,4,0,5,2,6,3,7,0,8,0] ?_
 refine zK 9 ?_
 refine zd [10,3,11,0,12,0] ?_
 refine z1 13 ?_
 refine AnyH.done (by kernel_rfl) ?_
 refine zq [5,3,3,4,6,8,65,0,13,13,13,13,13,13,13,26,2,5,17,11,5,3,4,1,2,5,10] ?_
 rw [setI_eq he2]
 exact zr (L' := (kb, kerO A ((k.atK s t.pc).atK s x.at_).wi) :: (A.ob, mapO encI (kvM ad ((k.atK s t.pc).atK s x.at_).mp) ((k.atK s t.pc).atK s x.at_).ck) :: (A.mb, .cells [.slice (some ⟨A.wb, 0, none⟩) ((k.atK s t.pc).atK s x.at_).ws.length ((k.atK s t.pc).atK s x.at_).ws.length].toArray 193) :: (A.wb, .cells (wordsC ((k.atK s t.pc).atK s x.at_).ws).toArray 22) :: (Iq ++ (Lc ++ (Ls ++ (Lt ++ (G (thrO (doneT { x with regs := x.regs.set ((k.atK s t.pc).loadR s x.at_).1 x.reg.toNat } t) c s b))))))) ⟨rfl, Iq, Lc, Ls, Lt, _, hI, hC, hS, hT, hEb (doneT { x with regs := x.regs.set ((k.atK s t.pc).loadR s x.at_).1 x.reg.toNat } t) c s b, rfl⟩
theorem tr_memPutX (ws : List Int) (mb wb : Nat) (a v : Int) (hN : ws.length ≤ 65536) : Tr Tryz.prog 37 [memP mb, .int .i64 a, .int .u64 v] ((mb, .cells [.slice (some ⟨wb, 0, none⟩) ws.length ws.length].toArray 193) :: (wb, .cells (wordsC ws).toArray 22) :: []) (fun u L' => u = .int .i64 (memPutE ws a) ∧ L' = (mb, .cells [.slice (some ⟨wb, 0, none⟩) ws.length ws.length].toArray 193) :: (wb, .cells (wordsC (memPut ws a v)).toArray 22) :: []) := tr_memPut ws mb wb ws.length a v rfl hN
theorem KH_put {k : Kn} {A : KA} {ad : Nat → Ad} {kb : Nat} {Iq Lc Ls Lt E : Hp} (hI : IrqH k.q A.ib Iq) (hC : CapsH k.nk k.p A.cb Lc) (hS : SchH k.T k.e k.lf k.L A.sb Ls) (hT : TlbH k.tl A.tb Lt) (hE : EnH k.ar ad E) (a v : Int) :
    KH { k with ws := memPut k.ws a v } A ad kb ((kb, kerO A k.wi) :: (A.ob, mapO encI (kvM ad k.mp) k.ck) :: (A.mb, .cells [.slice (some ⟨A.wb, 0, none⟩) k.ws.length k.ws.length].toArray 193) :: (A.wb, .cells (wordsC (memPut k.ws a v)).toArray 22) :: (Iq ++ (Lc ++ (Ls ++ (Lt ++ E))))) := ⟨Iq, Lc, Ls, Lt, E, hI, hC, hS, hT, hE, by dsimp only; rw [memPut_len]⟩
set_option maxHeartbeats 8000000 in
theorem tr_kRunWriteN (k : Kn) (A : KA) (ad : Nat → Ad) (kb : Nat) (L : Hp) (hK : KH k A ad kb L) (hw : KW k) {i : Nat} {t : ThrM} {c : CapM} {s b : Int} {sp : Int × Int} (he : k.ar[i]? = some ⟨.thr t c s b, sp⟩) (hs : s = -1 ∨ ∃ j, k.ix s = some j) (n : Int) (hr : k.tl.length ≤ 6) (hb : ¬ badI k t s) (x : EffM) (hx : effI k t s = x) (ha : x.asks = 2) (hv : ((k.atK s t.pc).atR s x.at_ true).2 ≠ 0) : Tr Tryz.prog 34 [pV kb, .int .i64 n, pV (ad i).tb] (L) (fun u L' => u = .bool false ∧ KH ((k.atK s t.pc).atK s x.at_) A ad kb L') := by
 obtain ⟨Iq, Lc, Ls, Lt, E, hI, hC, hS, hT, hE, rfl⟩ := hK
 haveI hBt : Blk E (ad i).tb (thrO t c s b) := hE.tb he
 have htw := (hw.ths i _ he).1
 have he1 : (k.atK s t.pc).ar[i]? = some ⟨.thr t c s b, sp⟩ := he
 have hw1 := hw.atK s t.pc (by omega)
 have hl1 := atK_len s t.pc (k := k) (by omega)
 have he0 : (k.loadR s t.pc).2 = 0 := Decidable.of_not_not (fun h => hb (.inl h))
 have hf0 : (unpM (k.loadR s t.pc).1.toNat).2 = 0 := Decidable.of_not_not (fun h => hb (.inr h))
 have hxo : x.Ok := by rw [← hx]; exact run_ok (unpI_ok hf0) htw.wf.regs htw.pc
 have he2 : ((k.atK s t.pc).atK s x.at_).ar[i]? = some ⟨.thr t c s b, sp⟩ := he
 refine Tr.enter Tryz.func34 rfl Tryz.ntmps34 rfl (fun W F => ?_)
 refine Wp.app ?_
 refine zq [3,4,1,2,5,3,4,0,0,0,9,6,6,8] ?_
 refine Ops.pv (pv_conv rfl (u64_id (by have := htw.pc; unfold U64; omega))) rfl ?_
 refine zD (tr_kLoad k A ad kb _ ⟨Iq, Lc, Ls, Lt, E, hI, hC, hS, hT, hE, rfl⟩ hw he hs t.pc htw.pc.1 (by omega)) ?_
 rintro _ _ ⟨rfl, hk1⟩
 refine Ops.app ?_
 obtain ⟨Iq, Lc, Ls, Lt, E, hI, hC, hS, hT, hE, rfl⟩ := hk1
 have hE0 := hE
 obtain ⟨G, R, rfl, hU, hB, hP, hEb⟩ := hE.thr he1
 haveI := hU; haveI := hB; haveI := hP
 refine Ops.app ?_
 refine zq [0,7,7,1,1,2,5,3,4,0] ?_
 refine zC (tr_cUnpackI (k.loadR s t.pc).1 (load_u64 hw s t.pc)) ?_
 refine zq [0,7,7] ?_
 refine zA fun b1 => ?_
 refine zq [14,1,2,5,3,3,4,0,27,0] ?_
 refine Ops.pvcn rfl rfl (fun hg => pv_move rfl) rfl ?_
 refine Ops.pvcn rfl rfl (fun hg => Pv.setE (t := 38) rfl (cv_pos hg) (pv_neq rfl rfl)) rfl ?_
 refine zq [47,2,5] ?_
 refine Wp.cond_t rfl (fun h1 => (by exfalso; unfold badI at hb; simp_all; done)) (fun h1 => ?_)
 refine zq [11,5,3,4,0,9,6,6,8,1,2,5] ?_
 apply Wp.cutB1 [(0, _), (1, _), (2, _), (11, _)] (fun b2 => [(12, _)]) _ ⟨rfl, rfl, rfl, rfl, trivial⟩
 ·
  intro KK hA0
  refine AnyH.start ((G (thrO t c s b)) ++ [(b1, .cells [.int .i64 ((unpM (k.loadR s t.pc).1.toNat).1.op : Nat), .int .i64 ((unpM (k.loadR s t.pc).1.toNat).1.a : Nat), .int .i64 ((unpM (k.loadR s t.pc).1.toNat).1.b : Nat), .int .i64 ((unpM (k.loadR s t.pc).1.toNat).1.imm : Nat)].toArray 165)]) 14 rfl ?_
  refine Tk 0 rfl rfl (pv_loadK [_, _, _, _] rfl rfl rfl ⟨rfl, rfl, rfl, rfl, trivial⟩) rfl ?_
  refine zd [1,1,2,3,3,0,4,0,5,12,6,1] ?_
  refine AnyH.two 7 11 (by kernel_rfl) ?_ ?_
  ·
   refine Turn.ef rfl rfl (ef_callr ((tr_cRun (unpM (k.loadR s t.pc).1.toNat).1 (unpI_ok hf0) t.regs htw.wf.regs t.pc htw.pc).eq (r' := .tuple #[x.v, .int .i64 0]) (by rw [show runM (unpM (k.loadR s t.pc).1.toNat).1 t.regs t.pc = x from hx])) rfl rfl) ?_ ?_
   ·
    rintro _ _ ⟨rfl, rfl⟩; infer_instance
   rintro _ _ ⟨rfl, rfl⟩
   refine zd [8,1,9,4,10,4] ?_
   refine AnyH.one 11 (by kernel_rfl) ?_
   refine Turn.ef rfl rfl (ef_allocK tyZ169 rfl) ?_ ?_
   ·
    rintro _ _ ⟨b2, rfl, rfl⟩; infer_instance
   rintro _ _ ⟨b2, rfl, rfl⟩
   refine zK 12 ?_
   refine zd [13,5] ?_
   refine AnyH.done (by kernel_rfl) ?_
   refine zq [49] ?_
   refine Goes.same (hA0 b2) ⟨rfl, rfl, rfl, rfl, rfl, trivial⟩
  refine Turn.ef rfl rfl (ef_allocK tyZ169 rfl) ?_ ?_
  ·
   rintro _ _ ⟨b3, rfl, rfl⟩; infer_instance
  rintro _ _ ⟨b3, rfl, rfl⟩
  refine AnyH.one 7 (by kernel_rfl) ?_
  refine Turn.ef rfl rfl (ef_callr ((tr_cRun (unpM (k.loadR s t.pc).1.toNat).1 (unpI_ok hf0) t.regs htw.wf.regs t.pc htw.pc).eq (r' := .tuple #[x.v, .int .i64 0]) (by rw [show runM (unpM (k.loadR s t.pc).1.toNat).1 t.regs t.pc = x from hx])) rfl rfl) ?_ ?_
  ·
   rintro _ _ ⟨rfl, rfl⟩; infer_instance
  rintro _ _ ⟨rfl, rfl⟩
  refine zd [8,1,9,4,10,4] ?_
  refine zK 12 ?_
  refine zd [13,5] ?_
  refine AnyH.done (by kernel_rfl) ?_
  refine zq [49] ?_
  refine Goes.back (hA0 b3) ⟨rfl, rfl, rfl, rfl, rfl, trivial⟩
 intro b2
 dsimp only [List.cons_append, List.nil_append]
 refine zq [3,3,4,6,8,2,5,20,3,4,65,1,2,5,17,3,4,65,1,2,5,17,3,4,66,1,2,5,18,3,4,0,0,6,8] ?_
 refine zD (tr_kAt (k.atK s t.pc) A ad kb _ ⟨Iq, Lc, Ls, Lt, _, hI, hC, hS, hT, hE0, rfl⟩ hw1 he1 hs x.at_ hxo.at_.1 true (by omega)) ?_
 rintro _ _ ⟨rfl, hk2⟩
 refine Ops.app ?_
 obtain ⟨Iq, Lc, Ls, Lt, E, hI, hC, hS, hT, hE, rfl⟩ := hk2
 have hE0 := hE
 obtain ⟨G, R, rfl, hU, hB, hP, hEb⟩ := hE.thr he2
 haveI := hU; haveI := hB; haveI := hP
 refine Ops.app ?_
 refine zq [0,7,7,1,1,2,5,3,3,4,0,65,2,5,17,11,5,3,4,0,68,2,5,18,3,4,1,2,5,10,15,12] ?_
 exact zr (L' := (kb, kerO A ((k.atK s t.pc).atK s x.at_).wi) :: (A.ob, mapO encI (kvM ad ((k.atK s t.pc).atK s x.at_).mp) ((k.atK s t.pc).atK s x.at_).ck) :: (A.mb, .cells [.slice (some ⟨A.wb, 0, none⟩) ((k.atK s t.pc).atK s x.at_).ws.length ((k.atK s t.pc).atK s x.at_).ws.length].toArray 193) :: (A.wb, .cells (wordsC ((k.atK s t.pc).atK s x.at_).ws).toArray 22) :: (Iq ++ (Lc ++ (Ls ++ (Lt ++ (G (thrO t c s b))))))) ⟨rfl, Iq, Lc, Ls, Lt, _, hI, hC, hS, hT, hE0, rfl⟩
set_option maxHeartbeats 8000000 in
theorem tr_kRunWriteB (k : Kn) (A : KA) (ad : Nat → Ad) (kb : Nat) (L : Hp) (hK : KH k A ad kb L) (hw : KW k) {i : Nat} {t : ThrM} {c : CapM} {s b : Int} {sp : Int × Int} (he : k.ar[i]? = some ⟨.thr t c s b, sp⟩) (hs : s = -1 ∨ ∃ j, k.ix s = some j) (n : Int) (hr : k.tl.length ≤ 6) (hb : ¬ badI k t s) (x : EffM) (hx : effI k t s = x) (ha : x.asks = 2) (hv : ((k.atK s t.pc).atR s x.at_ true).2 = 0) (hm : memPutE ((k.atK s t.pc).atK s x.at_).ws ((k.atK s t.pc).atR s x.at_ true).1 ≠ 0) : Tr Tryz.prog 34 [pV kb, .int .i64 n, pV (ad i).tb] (L) (fun u L' => u = .bool false ∧ KH { ((k.atK s t.pc).atK s x.at_) with ws := (memPut ((k.atK s t.pc).atK s x.at_).ws ((k.atK s t.pc).atR s x.at_ true).1 x.val) } A ad kb L') := by
 obtain ⟨Iq, Lc, Ls, Lt, E, hI, hC, hS, hT, hE, rfl⟩ := hK
 haveI hBt : Blk E (ad i).tb (thrO t c s b) := hE.tb he
 have htw := (hw.ths i _ he).1
 have he1 : (k.atK s t.pc).ar[i]? = some ⟨.thr t c s b, sp⟩ := he
 have hw1 := hw.atK s t.pc (by omega)
 have hl1 := atK_len s t.pc (k := k) (by omega)
 have he0 : (k.loadR s t.pc).2 = 0 := Decidable.of_not_not (fun h => hb (.inl h))
 have hf0 : (unpM (k.loadR s t.pc).1.toNat).2 = 0 := Decidable.of_not_not (fun h => hb (.inr h))
 have hxo : x.Ok := by rw [← hx]; exact run_ok (unpI_ok hf0) htw.wf.regs htw.pc
 have he2 : ((k.atK s t.pc).atK s x.at_).ar[i]? = some ⟨.thr t c s b, sp⟩ := he
 refine Tr.enter Tryz.func34 rfl Tryz.ntmps34 rfl (fun W F => ?_)
 refine Wp.app ?_
 refine zq [3,4,1,2,5,3,4,0,0,0,9,6,6,8] ?_
 refine Ops.pv (pv_conv rfl (u64_id (by have := htw.pc; unfold U64; omega))) rfl ?_
 refine zD (tr_kLoad k A ad kb _ ⟨Iq, Lc, Ls, Lt, E, hI, hC, hS, hT, hE, rfl⟩ hw he hs t.pc htw.pc.1 (by omega)) ?_
 rintro _ _ ⟨rfl, hk1⟩
 refine Ops.app ?_
 obtain ⟨Iq, Lc, Ls, Lt, E, hI, hC, hS, hT, hE, rfl⟩ := hk1
 have hE0 := hE
 obtain ⟨G, R, rfl, hU, hB, hP, hEb⟩ := hE.thr he1
 haveI := hU; haveI := hB; haveI := hP
 refine Ops.app ?_
 refine zq [0,7,7,1,1,2,5,3,4,0] ?_
 refine zC (tr_cUnpackI (k.loadR s t.pc).1 (load_u64 hw s t.pc)) ?_
 refine zq [0,7,7] ?_
 refine zA fun b1 => ?_
 refine zq [14,1,2,5,3,3,4,0,27,0] ?_
 refine Ops.pvcn rfl rfl (fun hg => pv_move rfl) rfl ?_
 refine Ops.pvcn rfl rfl (fun hg => Pv.setE (t := 38) rfl (cv_pos hg) (pv_neq rfl rfl)) rfl ?_
 refine zq [47,2,5] ?_
 refine Wp.cond_t rfl (fun h1 => (by exfalso; unfold badI at hb; simp_all; done)) (fun h1 => ?_)
 refine zq [11,5,3,4,0,9,6,6,8,1,2,5] ?_
 apply Wp.cutB1 [(0, _), (1, _), (2, _), (11, _)] (fun b2 => [(12, _)]) _ ⟨rfl, rfl, rfl, rfl, trivial⟩
 ·
  intro KK hA0
  refine AnyH.start ((G (thrO t c s b)) ++ [(b1, .cells [.int .i64 ((unpM (k.loadR s t.pc).1.toNat).1.op : Nat), .int .i64 ((unpM (k.loadR s t.pc).1.toNat).1.a : Nat), .int .i64 ((unpM (k.loadR s t.pc).1.toNat).1.b : Nat), .int .i64 ((unpM (k.loadR s t.pc).1.toNat).1.imm : Nat)].toArray 165)]) 14 rfl ?_
  refine Tk 0 rfl rfl (pv_loadK [_, _, _, _] rfl rfl rfl ⟨rfl, rfl, rfl, rfl, trivial⟩) rfl ?_
  refine zd [1,1,2,3,3,0,4,0,5,12,6,1] ?_
  refine AnyH.two 7 11 (by kernel_rfl) ?_ ?_
  ·
   refine Turn.ef rfl rfl (ef_callr ((tr_cRun (unpM (k.loadR s t.pc).1.toNat).1 (unpI_ok hf0) t.regs htw.wf.regs t.pc htw.pc).eq (r' := .tuple #[x.v, .int .i64 0]) (by rw [show runM (unpM (k.loadR s t.pc).1.toNat).1 t.regs t.pc = x from hx])) rfl rfl) ?_ ?_
   ·
    rintro _ _ ⟨rfl, rfl⟩; infer_instance
   rintro _ _ ⟨rfl, rfl⟩
   refine zd [8,1,9,4,10,4] ?_
   refine AnyH.one 11 (by kernel_rfl) ?_
   refine Turn.ef rfl rfl (ef_allocK tyZ169 rfl) ?_ ?_
   ·
    rintro _ _ ⟨b2, rfl, rfl⟩; infer_instance
   rintro _ _ ⟨b2, rfl, rfl⟩
   refine zK 12 ?_
   refine zd [13,5] ?_
   refine AnyH.done (by kernel_rfl) ?_
   refine zq [49] ?_
   refine Goes.same (hA0 b2) ⟨rfl, rfl, rfl, rfl, rfl, trivial⟩
  refine Turn.ef rfl rfl (ef_allocK tyZ169 rfl) ?_ ?_
  ·
   rintro _ _ ⟨b3, rfl, rfl⟩; infer_instance
  rintro _ _ ⟨b3, rfl, rfl⟩
  refine AnyH.one 7 (by kernel_rfl) ?_
  refine Turn.ef rfl rfl (ef_callr ((tr_cRun (unpM (k.loadR s t.pc).1.toNat).1 (unpI_ok hf0) t.regs htw.wf.regs t.pc htw.pc).eq (r' := .tuple #[x.v, .int .i64 0]) (by rw [show runM (unpM (k.loadR s t.pc).1.toNat).1 t.regs t.pc = x from hx])) rfl rfl) ?_ ?_
  ·
   rintro _ _ ⟨rfl, rfl⟩; infer_instance
  rintro _ _ ⟨rfl, rfl⟩
  refine zd [8,1,9,4,10,4] ?_
  refine zK 12 ?_
  refine zd [13,5] ?_
  refine AnyH.done (by kernel_rfl) ?_
  refine zq [49] ?_
  refine Goes.back (hA0 b3) ⟨rfl, rfl, rfl, rfl, rfl, trivial⟩
 intro b2
 dsimp only [List.cons_append, List.nil_append]
 refine zq [3,3,4,6,8,2,5,20,3,4,65,1,2,5,17,3,4,65,1,2,5,17,3,4,66,1,2,5,18,3,4,0,0,6,8] ?_
 refine zD (tr_kAt (k.atK s t.pc) A ad kb _ ⟨Iq, Lc, Ls, Lt, _, hI, hC, hS, hT, hE0, rfl⟩ hw1 he1 hs x.at_ hxo.at_.1 true (by omega)) ?_
 rintro _ _ ⟨rfl, hk2⟩
 refine Ops.app ?_
 obtain ⟨Iq, Lc, Ls, Lt, E, hI, hC, hS, hT, hE, rfl⟩ := hk2
 have hE0 := hE
 obtain ⟨G, R, rfl, hU, hB, hP, hEb⟩ := hE.thr he2
 haveI := hU; haveI := hB; haveI := hP
 refine Ops.app ?_
 refine zq [0,7,7,1,1,2,5,3,3,4,0,66,2,5,18] ?_
 refine AnyH.start [(kb, kerO A ((k.atK s t.pc).atK s x.at_).wi), (b2, .cells [.int .u64 x.regs.r0, .int .u64 x.regs.r1, .int .u64 x.regs.r2, .int .u64 x.regs.r3, .int .u64 x.regs.r4, .int .u64 x.regs.r5, .int .u64 x.regs.r6, .int .u64 x.regs.r7, .int .i64 x.pc, .int .i64 x.asks, .int .u64 x.at_, .int .i64 x.reg, .int .u64 x.val].toArray 169)] 9 rfl ?_
 refine zd [0,1,1,3,2,0,3,2,4,1,5,0,6,2] ?_
 refine AnyH.one 7 (by kernel_rfl) ?_
 refine Turn.ef rfl rfl (ef_call (tr_memPutX ((k.atK s t.pc).atK s x.at_).ws A.mb A.wb ((k.atK s t.pc).atR s x.at_ true).1 x.val hw1.len.2) rfl rfl) ?_ ?_
 ·
  rintro _ _ ⟨_, _, ⟨rfl, rfl⟩, rfl, rfl⟩; infer_instance
 rintro _ _ ⟨_, _, ⟨rfl, rfl⟩, rfl, rfl⟩
 refine AnyH.app ?_
 refine zd [8,5] ?_
 refine AnyH.done (by kernel_rfl) ?_
 refine zq [5,3,4,0,68,2,5,18,3,4,1,2,5,10,15,12] ?_
 exact zr (L' := (kb, kerO A ((k.atK s t.pc).atK s x.at_).wi) :: (A.ob, mapO encI (kvM ad ((k.atK s t.pc).atK s x.at_).mp) ((k.atK s t.pc).atK s x.at_).ck) :: (A.mb, .cells [.slice (some ⟨A.wb, 0, none⟩) ((k.atK s t.pc).atK s x.at_).ws.length ((k.atK s t.pc).atK s x.at_).ws.length].toArray 193) :: (A.wb, .cells (wordsC (memPut ((k.atK s t.pc).atK s x.at_).ws ((k.atK s t.pc).atR s x.at_ true).1 x.val)).toArray 22) :: (Iq ++ (Lc ++ (Ls ++ (Lt ++ (G (thrO t c s b))))))) ⟨rfl, KH_put (k := ((k.atK s t.pc).atK s x.at_)) hI hC hS hT hE0 ((k.atK s t.pc).atR s x.at_ true).1 x.val⟩
set_option maxHeartbeats 8000000 in
theorem tr_kRunWrite (k : Kn) (A : KA) (ad : Nat → Ad) (kb : Nat) (L : Hp) (hK : KH k A ad kb L) (hw : KW k) {i : Nat} {t : ThrM} {c : CapM} {s b : Int} {sp : Int × Int} (he : k.ar[i]? = some ⟨.thr t c s b, sp⟩) (hs : s = -1 ∨ ∃ j, k.ix s = some j) (n : Int) (hr : k.tl.length ≤ 6) (hb : ¬ badI k t s) (x : EffM) (hx : effI k t s = x) (ha : x.asks = 2) (hv : ((k.atK s t.pc).atR s x.at_ true).2 = 0) (hm : memPutE ((k.atK s t.pc).atK s x.at_).ws ((k.atK s t.pc).atR s x.at_ true).1 = 0) : Tr Tryz.prog 34 [pV kb, .int .i64 n, pV (ad i).tb] (L) (fun u L' => u = .bool true ∧ KH (({ ((k.atK s t.pc).atK s x.at_) with ws := (memPut ((k.atK s t.pc).atK s x.at_).ws ((k.atK s t.pc).atR s x.at_ true).1 x.val) } : Kn).setI i (doneT x)) A ad kb L') := by
 obtain ⟨Iq, Lc, Ls, Lt, E, hI, hC, hS, hT, hE, rfl⟩ := hK
 haveI hBt : Blk E (ad i).tb (thrO t c s b) := hE.tb he
 have htw := (hw.ths i _ he).1
 have he1 : (k.atK s t.pc).ar[i]? = some ⟨.thr t c s b, sp⟩ := he
 have hw1 := hw.atK s t.pc (by omega)
 have hl1 := atK_len s t.pc (k := k) (by omega)
 have he0 : (k.loadR s t.pc).2 = 0 := Decidable.of_not_not (fun h => hb (.inl h))
 have hf0 : (unpM (k.loadR s t.pc).1.toNat).2 = 0 := Decidable.of_not_not (fun h => hb (.inr h))
 have hxo : x.Ok := by rw [← hx]; exact run_ok (unpI_ok hf0) htw.wf.regs htw.pc
 have he2 : ((k.atK s t.pc).atK s x.at_).ar[i]? = some ⟨.thr t c s b, sp⟩ := he
 have he3 : ({ ((k.atK s t.pc).atK s x.at_) with ws := (memPut ((k.atK s t.pc).atK s x.at_).ws ((k.atK s t.pc).atR s x.at_ true).1 x.val) } : Kn).ar[i]? = some ⟨.thr t c s b, sp⟩ := he
 refine Tr.enter Tryz.func34 rfl Tryz.ntmps34 rfl (fun W F => ?_)
 refine Wp.app ?_
 refine zq [3,4,1,2,5,3,4,0,0,0,9,6,6,8] ?_
 refine Ops.pv (pv_conv rfl (u64_id (by have := htw.pc; unfold U64; omega))) rfl ?_
 refine zD (tr_kLoad k A ad kb _ ⟨Iq, Lc, Ls, Lt, E, hI, hC, hS, hT, hE, rfl⟩ hw he hs t.pc htw.pc.1 (by omega)) ?_
 rintro _ _ ⟨rfl, hk1⟩
 refine Ops.app ?_
 obtain ⟨Iq, Lc, Ls, Lt, E, hI, hC, hS, hT, hE, rfl⟩ := hk1
 have hE0 := hE
 obtain ⟨G, R, rfl, hU, hB, hP, hEb⟩ := hE.thr he1
 haveI := hU; haveI := hB; haveI := hP
 refine Ops.app ?_
 refine zq [0,7,7,1,1,2,5,3,4,0] ?_
 refine zC (tr_cUnpackI (k.loadR s t.pc).1 (load_u64 hw s t.pc)) ?_
 refine zq [0,7,7] ?_
 refine zA fun b1 => ?_
 refine zq [14,1,2,5,3,3,4,0,27,0] ?_
 refine Ops.pvcn rfl rfl (fun hg => pv_move rfl) rfl ?_
 refine Ops.pvcn rfl rfl (fun hg => Pv.setE (t := 38) rfl (cv_pos hg) (pv_neq rfl rfl)) rfl ?_
 refine zq [47,2,5] ?_
 refine Wp.cond_t rfl (fun h1 => (by exfalso; unfold badI at hb; simp_all; done)) (fun h1 => ?_)
 refine zq [11,5,3,4,0,9,6,6,8,1,2,5] ?_
 apply Wp.cutB1 [(0, _), (1, _), (2, _), (11, _)] (fun b2 => [(12, _)]) _ ⟨rfl, rfl, rfl, rfl, trivial⟩
 ·
  intro KK hA0
  refine AnyH.start ((G (thrO t c s b)) ++ [(b1, .cells [.int .i64 ((unpM (k.loadR s t.pc).1.toNat).1.op : Nat), .int .i64 ((unpM (k.loadR s t.pc).1.toNat).1.a : Nat), .int .i64 ((unpM (k.loadR s t.pc).1.toNat).1.b : Nat), .int .i64 ((unpM (k.loadR s t.pc).1.toNat).1.imm : Nat)].toArray 165)]) 14 rfl ?_
  refine Tk 0 rfl rfl (pv_loadK [_, _, _, _] rfl rfl rfl ⟨rfl, rfl, rfl, rfl, trivial⟩) rfl ?_
  refine zd [1,1,2,3,3,0,4,0,5,12,6,1] ?_
  refine AnyH.two 7 11 (by kernel_rfl) ?_ ?_
  ·
   refine Turn.ef rfl rfl (ef_callr ((tr_cRun (unpM (k.loadR s t.pc).1.toNat).1 (unpI_ok hf0) t.regs htw.wf.regs t.pc htw.pc).eq (r' := .tuple #[x.v, .int .i64 0]) (by rw [show runM (unpM (k.loadR s t.pc).1.toNat).1 t.regs t.pc = x from hx])) rfl rfl) ?_ ?_
   ·
    rintro _ _ ⟨rfl, rfl⟩; infer_instance
   rintro _ _ ⟨rfl, rfl⟩
   refine zd [8,1,9,4,10,4] ?_
   refine AnyH.one 11 (by kernel_rfl) ?_
   refine Turn.ef rfl rfl (ef_allocK tyZ169 rfl) ?_ ?_
   ·
    rintro _ _ ⟨b2, rfl, rfl⟩; infer_instance
   rintro _ _ ⟨b2, rfl, rfl⟩
   refine zK 12 ?_
   refine zd [13,5] ?_
   refine AnyH.done (by kernel_rfl) ?_
   refine zq [49] ?_
   refine Goes.same (hA0 b2) ⟨rfl, rfl, rfl, rfl, rfl, trivial⟩
  refine Turn.ef rfl rfl (ef_allocK tyZ169 rfl) ?_ ?_
  ·
   rintro _ _ ⟨b3, rfl, rfl⟩; infer_instance
  rintro _ _ ⟨b3, rfl, rfl⟩
  refine AnyH.one 7 (by kernel_rfl) ?_
  refine Turn.ef rfl rfl (ef_callr ((tr_cRun (unpM (k.loadR s t.pc).1.toNat).1 (unpI_ok hf0) t.regs htw.wf.regs t.pc htw.pc).eq (r' := .tuple #[x.v, .int .i64 0]) (by rw [show runM (unpM (k.loadR s t.pc).1.toNat).1 t.regs t.pc = x from hx])) rfl rfl) ?_ ?_
  ·
   rintro _ _ ⟨rfl, rfl⟩; infer_instance
  rintro _ _ ⟨rfl, rfl⟩
  refine zd [8,1,9,4,10,4] ?_
  refine zK 12 ?_
  refine zd [13,5] ?_
  refine AnyH.done (by kernel_rfl) ?_
  refine zq [49] ?_
  refine Goes.back (hA0 b3) ⟨rfl, rfl, rfl, rfl, rfl, trivial⟩
 intro b2
 dsimp only [List.cons_append, List.nil_append]
 refine zq [3,3,4,6,8,2,5,20,3,4,65,1,2,5,17,3,4,65,1,2,5,17,3,4,66,1,2,5,18,3,4,0,0,6,8] ?_
 refine zD (tr_kAt (k.atK s t.pc) A ad kb _ ⟨Iq, Lc, Ls, Lt, _, hI, hC, hS, hT, hE0, rfl⟩ hw1 he1 hs x.at_ hxo.at_.1 true (by omega)) ?_
 rintro _ _ ⟨rfl, hk2⟩
 refine Ops.app ?_
 obtain ⟨Iq, Lc, Ls, Lt, E, hI, hC, hS, hT, hE, rfl⟩ := hk2
 have hE0 := hE
 obtain ⟨G, R, rfl, hU, hB, hP, hEb⟩ := hE.thr he2
 haveI := hU; haveI := hB; haveI := hP
 refine Ops.app ?_
 refine zq [0,7,7,1,1,2,5,3,3,4,0,66,2,5,18] ?_
 refine AnyH.start [(kb, kerO A ((k.atK s t.pc).atK s x.at_).wi), (b2, .cells [.int .u64 x.regs.r0, .int .u64 x.regs.r1, .int .u64 x.regs.r2, .int .u64 x.regs.r3, .int .u64 x.regs.r4, .int .u64 x.regs.r5, .int .u64 x.regs.r6, .int .u64 x.regs.r7, .int .i64 x.pc, .int .i64 x.asks, .int .u64 x.at_, .int .i64 x.reg, .int .u64 x.val].toArray 169)] 9 rfl ?_
 refine zd [0,1,1,3,2,0,3,2,4,1,5,0,6,2] ?_
 refine AnyH.one 7 (by kernel_rfl) ?_
 refine Turn.ef rfl rfl (ef_call (tr_memPutX ((k.atK s t.pc).atK s x.at_).ws A.mb A.wb ((k.atK s t.pc).atR s x.at_ true).1 x.val hw1.len.2) rfl rfl) ?_ ?_
 ·
  rintro _ _ ⟨_, _, ⟨rfl, rfl⟩, rfl, rfl⟩; infer_instance
 rintro _ _ ⟨_, _, ⟨rfl, rfl⟩, rfl, rfl⟩
 refine AnyH.app ?_
 refine zd [8,5] ?_
 refine AnyH.done (by kernel_rfl) ?_
 refine zq [5,3,4,0,67,2,5,17,11,19,5,3] ?_
 refine AnyH.start [(b2, .cells [.int .u64 x.regs.r0, .int .u64 x.regs.r1, .int .u64 x.regs.r2, .int .u64 x.regs.r3, .int .u64 x.regs.r4, .int .u64 x.regs.r5, .int .u64 x.regs.r6, .int .u64 x.regs.r7, .int .i64 x.pc, .int .i64 x.asks, .int .u64 x.at_, .int .i64 x.reg, .int .u64 x.val].toArray 169)] 14 rfl ?_
 refine zd [0,1,1,1,2,0,3,12,4,0,5,2,6,3,7,0,8,0] ?_
 refine zK 9 ?_
 refine zd [10,3,11,0,12,0] ?_
 refine z1 13 ?_
 refine AnyH.done (by kernel_rfl) ?_
 refine zq [5,3,3,4,6,8,65,0,13,13,13,13,13,13,13,26,2,5,17,11,5,3,4,1,2,5,10] ?_
 rw [setI_eq he3]
 exact zr (L' := (kb, kerO A ((k.atK s t.pc).atK s x.at_).wi) :: (A.ob, mapO encI (kvM ad ((k.atK s t.pc).atK s x.at_).mp) ((k.atK s t.pc).atK s x.at_).ck) :: (A.mb, .cells [.slice (some ⟨A.wb, 0, none⟩) ((k.atK s t.pc).atK s x.at_).ws.length ((k.atK s t.pc).atK s x.at_).ws.length].toArray 193) :: (A.wb, .cells (wordsC (memPut ((k.atK s t.pc).atK s x.at_).ws ((k.atK s t.pc).atR s x.at_ true).1 x.val)).toArray 22) :: (Iq ++ (Lc ++ (Ls ++ (Lt ++ (G (thrO (doneT x t) c s b))))))) ⟨rfl, KH_put (k := { ((k.atK s t.pc).atK s x.at_) with ar := setA ((k.atK s t.pc).atK s x.at_).ar i (.thr (doneT x t) c s b) }) hI hC hS hT (hEb (doneT x t) c s b) ((k.atK s t.pc).atR s x.at_ true).1 x.val⟩
set_option maxHeartbeats 8000000 in
theorem tr_kRunCall (k : Kn) (A : KA) (ad : Nat → Ad) (kb : Nat) (L : Hp) (hK : KH k A ad kb L) (hw : KW k) {i : Nat} {t : ThrM} {c : CapM} {s b : Int} {sp : Int × Int} (he : k.ar[i]? = some ⟨.thr t c s b, sp⟩) (hs : s = -1 ∨ ∃ j, k.ix s = some j) (n : Int) (hr : k.tl.length ≤ 6) (hb : ¬ badI k t s) (x : EffM) (hx : effI k t s = x) (ha : x.asks = 3) (K3 : Kn) (hc : ∀ L2, KH ((k.atK s t.pc).setI i (doneT x)) A ad kb L2 → Tr Tryz.prog 79 [.agg #[pV kb, .int .i64 n, pV (ad i).tb], .int .u64 x.val] L2 (fun u L' => u = .bool false ∧ KH K3 A ad kb L')) : Tr Tryz.prog 34 [pV kb, .int .i64 n, pV (ad i).tb] (L) (fun u L' => u = .bool true ∧ KH K3 A ad kb L') := by
 obtain ⟨Iq, Lc, Ls, Lt, E, hI, hC, hS, hT, hE, rfl⟩ := hK
 haveI hBt : Blk E (ad i).tb (thrO t c s b) := hE.tb he
 have htw := (hw.ths i _ he).1
 have he1 : (k.atK s t.pc).ar[i]? = some ⟨.thr t c s b, sp⟩ := he
 have hw1 := hw.atK s t.pc (by omega)
 have hl1 := atK_len s t.pc (k := k) (by omega)
 have he0 : (k.loadR s t.pc).2 = 0 := Decidable.of_not_not (fun h => hb (.inl h))
 have hf0 : (unpM (k.loadR s t.pc).1.toNat).2 = 0 := Decidable.of_not_not (fun h => hb (.inr h))
 have hxo : x.Ok := by rw [← hx]; exact run_ok (unpI_ok hf0) htw.wf.regs htw.pc
 refine Tr.enter Tryz.func34 rfl Tryz.ntmps34 rfl (fun W F => ?_)
 refine Wp.app ?_
 refine zq [3,4,1,2,5,3,4,0,0,0,9,6,6,8] ?_
 refine Ops.pv (pv_conv rfl (u64_id (by have := htw.pc; unfold U64; omega))) rfl ?_
 refine zD (tr_kLoad k A ad kb _ ⟨Iq, Lc, Ls, Lt, E, hI, hC, hS, hT, hE, rfl⟩ hw he hs t.pc htw.pc.1 (by omega)) ?_
 rintro _ _ ⟨rfl, hk1⟩
 refine Ops.app ?_
 obtain ⟨Iq, Lc, Ls, Lt, E, hI, hC, hS, hT, hE, rfl⟩ := hk1
 have hE0 := hE
 obtain ⟨G, R, rfl, hU, hB, hP, hEb⟩ := hE.thr he1
 haveI := hU; haveI := hB; haveI := hP
 refine Ops.app ?_
 refine zq [0,7,7,1,1,2,5,3,4,0] ?_
 refine zC (tr_cUnpackI (k.loadR s t.pc).1 (load_u64 hw s t.pc)) ?_
 refine zq [0,7,7] ?_
 refine zA fun b1 => ?_
 refine zq [14,1,2,5,3,3,4,0,27,0] ?_
 refine Ops.pvcn rfl rfl (fun hg => pv_move rfl) rfl ?_
 refine Ops.pvcn rfl rfl (fun hg => Pv.setE (t := 38) rfl (cv_pos hg) (pv_neq rfl rfl)) rfl ?_
 refine zq [47,2,5] ?_
 refine Wp.cond_t rfl (fun h1 => (by exfalso; unfold badI at hb; simp_all; done)) (fun h1 => ?_)
 refine zq [11,5,3,4,0,9,6,6,8,1,2,5] ?_
 apply Wp.cutB1 [(0, _), (1, _), (2, _), (11, _)] (fun b2 => [(12, _)]) _ ⟨rfl, rfl, rfl, rfl, trivial⟩
 ·
  intro KK hA0
  refine AnyH.start ((G (thrO t c s b)) ++ [(b1, .cells [.int .i64 ((unpM (k.loadR s t.pc).1.toNat).1.op : Nat), .int .i64 ((unpM (k.loadR s t.pc).1.toNat).1.a : Nat), .int .i64 ((unpM (k.loadR s t.pc).1.toNat).1.b : Nat), .int .i64 ((unpM (k.loadR s t.pc).1.toNat).1.imm : Nat)].toArray 165)]) 14 rfl ?_
  refine Tk 0 rfl rfl (pv_loadK [_, _, _, _] rfl rfl rfl ⟨rfl, rfl, rfl, rfl, trivial⟩) rfl ?_
  refine zd [1,1,2,3,3,0,4,0,5,12,6,1] ?_
  refine AnyH.two 7 11 (by kernel_rfl) ?_ ?_
  ·
   refine Turn.ef rfl rfl (ef_callr ((tr_cRun (unpM (k.loadR s t.pc).1.toNat).1 (unpI_ok hf0) t.regs htw.wf.regs t.pc htw.pc).eq (r' := .tuple #[x.v, .int .i64 0]) (by rw [show runM (unpM (k.loadR s t.pc).1.toNat).1 t.regs t.pc = x from hx])) rfl rfl) ?_ ?_
   ·
    rintro _ _ ⟨rfl, rfl⟩; infer_instance
   rintro _ _ ⟨rfl, rfl⟩
   refine zd [8,1,9,4,10,4] ?_
   refine AnyH.one 11 (by kernel_rfl) ?_
   refine Turn.ef rfl rfl (ef_allocK tyZ169 rfl) ?_ ?_
   ·
    rintro _ _ ⟨b2, rfl, rfl⟩; infer_instance
   rintro _ _ ⟨b2, rfl, rfl⟩
   refine zK 12 ?_
   refine zd [13,5] ?_
   refine AnyH.done (by kernel_rfl) ?_
   refine zq [49] ?_
   refine Goes.same (hA0 b2) ⟨rfl, rfl, rfl, rfl, rfl, trivial⟩
  refine Turn.ef rfl rfl (ef_allocK tyZ169 rfl) ?_ ?_
  ·
   rintro _ _ ⟨b3, rfl, rfl⟩; infer_instance
  rintro _ _ ⟨b3, rfl, rfl⟩
  refine AnyH.one 7 (by kernel_rfl) ?_
  refine Turn.ef rfl rfl (ef_callr ((tr_cRun (unpM (k.loadR s t.pc).1.toNat).1 (unpI_ok hf0) t.regs htw.wf.regs t.pc htw.pc).eq (r' := .tuple #[x.v, .int .i64 0]) (by rw [show runM (unpM (k.loadR s t.pc).1.toNat).1 t.regs t.pc = x from hx])) rfl rfl) ?_ ?_
  ·
   rintro _ _ ⟨rfl, rfl⟩; infer_instance
  rintro _ _ ⟨rfl, rfl⟩
  refine zd [8,1,9,4,10,4] ?_
  refine zK 12 ?_
  refine zd [13,5] ?_
  refine AnyH.done (by kernel_rfl) ?_
  refine zq [49] ?_
  refine Goes.back (hA0 b3) ⟨rfl, rfl, rfl, rfl, rfl, trivial⟩
 intro b2
 dsimp only [List.cons_append, List.nil_append]
 refine zq [3,3,4,6,8,2,5,20,3,4,65,1,2,5,17,3,4,65,1,2,5,17,3,4,65,1,2,5,17,11,19,5,3] ?_
 refine AnyH.start [(b2, .cells [.int .u64 x.regs.r0, .int .u64 x.regs.r1, .int .u64 x.regs.r2, .int .u64 x.regs.r3, .int .u64 x.regs.r4, .int .u64 x.regs.r5, .int .u64 x.regs.r6, .int .u64 x.regs.r7, .int .i64 x.pc, .int .i64 x.asks, .int .u64 x.at_, .int .i64 x.reg, .int .u64 x.val].toArray 169)] 14 rfl ?_
 refine zd [0,1,1,1,2,0,3,12,4,0,5,2,6,3,7,0,8,0] ?_
 refine zK 9 ?_
 refine zd [10,3,11,0,12,0] ?_
 refine z1 13 ?_
 refine AnyH.done (by kernel_rfl) ?_
 refine zq [5,3,3,4,6,8,66,0,21,21,21,56,50,51] ?_
 refine Ops.efg ⟨_, _, rfl, rfl, rfl⟩ (ef_call (hc ((kb, kerO A (k.atK s t.pc).wi) :: (A.ob, mapO encI (kvM ad (k.atK s t.pc).mp) (k.atK s t.pc).ck) :: (A.mb, .cells [.slice (some ⟨A.wb, 0, none⟩) (k.atK s t.pc).ws.length (k.atK s t.pc).ws.length].toArray 193) :: (A.wb, .cells (wordsC (k.atK s t.pc).ws).toArray 22) :: (Iq ++ (Lc ++ (Ls ++ (Lt ++ (G (thrO (doneT x t) c s b))))))) (by rw [setI_eq he1]; exact ⟨Iq, Lc, Ls, Lt, _, hI, hC, hS, hT, hEb (doneT x t) c s b, rfl⟩)) rfl rfl) ?_
 rintro _ _ ⟨_, J1, ⟨rfl, hk2⟩, rfl, rfl⟩
 refine Ops.app ?_
 refine zq [24,2,5,17,11,5,3,4,1,2,5,10] ?_
 exact zr (L' := J1) ⟨rfl, hk2⟩
end Go.Proofs.YtipncceiekalfaaGreat
end
section
set_option linter.unusedVariables false
set_option linter.unusedSimpArgs false
set_option linter.unusedSectionVars false
namespace Go.Proofs.YtipncceiekalfaaGreat
open Go.SL
theorem tr_kStepN (k : Kn) (A : KA) (ad : Nat → Ad) (kb : Nat) (L : Hp) (hK : KH k A ad kb L) (hw : KW k) (hB : k.curB = false) : TrR Tryz.prog 12 [pV kb] (L) (.bool false) := by
 obtain ⟨Iq, Lc, Ls, Lt, E, hI, hC, hS, hT, hE, rfl⟩ := hK
 refine Tr.enter Tryz.func12 rfl Tryz.ntmps12 rfl (fun W F => ?_)
 refine Wp.app ?_
 refine zq [3,4,1,2,5,3,4,0,9,6,8] ?_
 refine zC ((tr_sPick _ Ls k.T k.e k.lf k.L hS hw.at_ hw.rw (hw.rl (by decide))).eq (r' := .tuple #[.int .i64 k.cur, .bool false]) (by rw [← hB]; rfl)) ?_
 refine zq [0,7,7,1,1,2,5,3,3,4,0,39,2,5,18,3,4,1,2,5,10,12] ?_
 exact zr ⟨rfl, rfl⟩
theorem tr_kStepT (k : Kn) (A : KA) (ad : Nat → Ad) (kb : Nat) (L : Hp) (hK : KH k A ad kb L) (hw : KW k) (hB : k.curB = true) {i : Nat} {t : ThrM} {c : CapM} {s b : Int} {sp : Int × Int} (hi : k.ix k.cur = some i) (he : k.ar[i]? = some ⟨.thr t c s b, sp⟩) (q1 : Kn) (hrun : ∀ L2, KH k A ad kb L2 → Tr Tryz.prog 34 [pV kb, .int .i64 k.cur, pV (ad i).tb] L2 (fun u L' => u = .bool true ∧ KH q1 A ad kb L')) : Tr Tryz.prog 12 [pV kb] (L) (fun u L' => u = .bool true ∧ KH q1 A ad kb L') := by
 obtain ⟨Iq, Lc, Ls, Lt, E, hI, hC, hS, hT, hE, rfl⟩ := hK
 refine Tr.enter Tryz.func12 rfl Tryz.ntmps12 rfl (fun W F => ?_)
 refine Wp.app ?_
 refine zq [3,4,1,2,5,3,4,0,9,6,8] ?_
 refine zC ((tr_sPick _ Ls k.T k.e k.lf k.L hS hw.at_ hw.rw (hw.rl (by decide))).eq (r' := .tuple #[.int .i64 k.cur, .bool true]) (by rw [← hB]; rfl)) ?_
 refine zq [0,7,7,1,1,2,5,3,3,4,0,39,2,5,17,11,5,3,3,4,0,0] ?_
 refine zC (tr_getThrY k A ad kb _ hE k.cur hi he) ?_
 refine zq [0,7,7,1,1,2,5,3,4,0,0,0] ?_
 refine zD (hrun _ ⟨Iq, Lc, Ls, Lt, E, hI, hC, hS, hT, hE, rfl⟩) ?_
 rintro _ J1 ⟨rfl, hk1⟩
 refine Ops.app ?_
 refine zq [39,2,5,17,11,5,3,4,1,2,5,10] ?_
 exact zr (L' := J1) ⟨rfl, hk1⟩
theorem tr_kStepF (k : Kn) (A : KA) (ad : Nat → Ad) (kb : Nat) (L : Hp) (hK : KH k A ad kb L) (hw : KW k) (hB : k.curB = true) {i : Nat} {t : ThrM} {c : CapM} {s b : Int} {sp : Int × Int} (hi : k.ix k.cur = some i) (he : k.ar[i]? = some ⟨.thr t c s b, sp⟩) (q1 : Kn) (hrun : ∀ L2, KH k A ad kb L2 → Tr Tryz.prog 34 [pV kb, .int .i64 k.cur, pV (ad i).tb] L2 (fun u L' => u = .bool false ∧ KH q1 A ad kb L')) (hwq : KW q1) {t' : ThrM} (hiq : q1.ix k.cur = some i) (heq : q1.ar[i]? = some ⟨.thr t' c s b, sp⟩) : Tr Tryz.prog 12 [pV kb] (L) (fun u L' => u = .bool true ∧ KH (q1.halt k.cur) A ad kb L') := by
 obtain ⟨Iq, Lc, Ls, Lt, E, hI, hC, hS, hT, hE, rfl⟩ := hK
 refine Tr.enter Tryz.func12 rfl Tryz.ntmps12 rfl (fun W F => ?_)
 refine Wp.app ?_
 refine zq [3,4,1,2,5,3,4,0,9,6,8] ?_
 refine zC ((tr_sPick _ Ls k.T k.e k.lf k.L hS hw.at_ hw.rw (hw.rl (by decide))).eq (r' := .tuple #[.int .i64 k.cur, .bool true]) (by rw [← hB]; rfl)) ?_
 refine zq [0,7,7,1,1,2,5,3,3,4,0,39,2,5,17,11,5,3,3,4,0,0] ?_
 refine zC (tr_getThrY k A ad kb _ hE k.cur hi he) ?_
 refine zq [0,7,7,1,1,2,5,3,4,0,0,0] ?_
 refine zD (hrun _ ⟨Iq, Lc, Ls, Lt, E, hI, hC, hS, hT, hE, rfl⟩) ?_
 rintro _ J1 ⟨rfl, hk1⟩
 refine Ops.app ?_
 refine zq [39,2,5,18,4,0,0] ?_
 refine zD (tr_kHalt q1 A ad kb _ hk1 hwq k.cur hiq heq) ?_
 rintro _ J2 ⟨rfl, hk2⟩
 refine Ops.app ?_
 refine zq [2,5,3,4,1,2,5,10] ?_
 exact zr (L' := J2) ⟨rfl, hk2⟩
theorem tr_kThreadN (k : Kn) (A : KA) (ad : Nat → Ad) (kb : Nat) (L : Hp) (hK : KH k A ad kb L) (hw : KW k) (n : Int) (hn : k.thr n = none) : TrR Tryz.prog 15 [pV kb, .int .i64 n] (L) (.tuple #[ThrM.zero.v, .bool false]) := by
 obtain ⟨Iq, Lc, Ls, Lt, E, hI, hC, hS, hT, hE, rfl⟩ := hK
 refine Tr.enter Tryz.func15 rfl Tryz.ntmps15 rfl (fun W F => ?_)
 refine Wp.app ?_
 refine Wr ?_
 refine zA fun b1 => ?_
 refine zq [1,2,5,3,4,0,0] ?_
 refine zC (tr_getThrZ k A ad kb _ hE hw n hn) ?_
 refine zq [0,7,7,1,1,2,5,3,3,4,0,39,2,5,18,3,4,23,14,1,2,5,10,12] ?_
 exact Ends.ret (res_list (rs := [.cell 4 35, .tmp 5]) rfl ⟨_, _, rfl, rv_cellK [_, _, _, _, _, _, _, _, _, _, _, _, _, _, _, _] rfl rfl rfl ⟨rfl, rfl, rfl, rfl, rfl, rfl, rfl, rfl, rfl, rfl, rfl, rfl, rfl, rfl, rfl, rfl, trivial⟩, ⟨_, _, rfl, rv_tmp rfl, rfl⟩⟩ rfl) ⟨rfl, rfl⟩
theorem tr_kThreadS (k : Kn) (A : KA) (ad : Nat → Ad) (kb : Nat) (L : Hp) (hK : KH k A ad kb L) (hw : KW k) (n : Int) {i : Nat} {t : ThrM} {c : CapM} {s b : Int} {sp : Int × Int} (hi : k.ix n = some i) (he : k.ar[i]? = some ⟨.thr t c s b, sp⟩) : TrR Tryz.prog 15 [pV kb, .int .i64 n] (L) (.tuple #[t.v, .bool true]) := by
 obtain ⟨Iq, Lc, Ls, Lt, E, hI, hC, hS, hT, hE, rfl⟩ := hK
 haveI hBt : Blk E (ad i).tb (thrO t c s b) := hE.tb he
 refine Tr.enter Tryz.func15 rfl Tryz.ntmps15 rfl (fun W F => ?_)
 refine Wp.app ?_
 refine Wr ?_
 refine zA fun b1 => ?_
 refine zq [1,2,5,3,4,0,0] ?_
 refine zC (tr_getThrY k A ad kb _ hE n hi he) ?_
 refine zq [0,7,7,1,1,2,5,3,3,4,0,39,2,5,17,11,5,3,4,0,9,6,31,14,1,2,5,10] ?_
 exact Ends.ret (res_list (rs := [.cell 4 35, .tmp 5]) rfl ⟨_, _, rfl, rv_cellK [_, _, _, _, _, _, _, _, _, _, _, _, _, _, _, _] rfl rfl rfl ⟨rfl, rfl, rfl, rfl, rfl, rfl, rfl, rfl, rfl, rfl, rfl, rfl, rfl, rfl, rfl, rfl, trivial⟩, ⟨_, _, rfl, rv_tmp rfl, rfl⟩⟩ rfl) ⟨rfl, rfl⟩
def thrT (k : Kn) (n : Int) : ThrM := match k.thr n with
  | some x => x.1
  | none => .zero
theorem tr_kThread (k : Kn) (A : KA) (ad : Nat → Ad) (kb : Nat) (L : Hp) (hK : KH k A ad kb L) (hw : KW k) (n : Int) : TrR Tryz.prog 15 [pV kb, .int .i64 n] L (.tuple #[(thrT k n).v, .bool (k.thr n).isSome]) := by
 cases hx : k.thr n with
 | none => rw [show thrT k n = .zero by unfold thrT; rw [hx]]; exact tr_kThreadN k A ad kb L hK hw n hx
 | some x =>
  obtain ⟨i, sp, hi, he⟩ := thr_ex hx
  rw [show thrT k n = x.1 by unfold thrT; rw [hx]]; exact tr_kThreadS k A ad kb L hK hw n hi he
theorem tr_kPoke (k : Kn) (A : KA) (ad : Nat → Ad) (kb : Nat) (L : Hp) (hK : KH k A ad kb L) (hw : KW k) (a v : Int) : Tr Tryz.prog 20 [pV kb, .int .i64 a, .int .u64 v] (L) (fun u L' => u = .int .i64 (memPutE k.ws a) ∧ KH { k with ws := memPut k.ws a v } A ad kb L') := by
 obtain ⟨Iq, Lc, Ls, Lt, E, hI, hC, hS, hT, hE, rfl⟩ := hK
 refine Tr.enter Tryz.func20 rfl Tryz.ntmps20 rfl (fun W F => ?_)
 refine Wp.app ?_
 refine zq [3,4,1,2,5,3,4,0,9,6,8,0,0] ?_
 refine zD (tr_memPutX k.ws A.mb A.wb a v hw.len.2) ?_
 rintro _ _ ⟨rfl, rfl⟩
 refine Ops.app ?_
 refine zq [1,2,5,10] ?_
 exact zr (L' := (kb, kerO A k.wi) :: (A.ob, mapO encI (kvM ad k.mp) k.ck) :: (A.mb, .cells [.slice (some ⟨A.wb, 0, none⟩) k.ws.length k.ws.length].toArray 193) :: (A.wb, .cells (wordsC (memPut k.ws a v)).toArray 22) :: (Iq ++ (Lc ++ (Ls ++ (Lt ++ E))))) ⟨rfl, KH_put hI hC hS hT hE a v⟩
theorem tr_kNamed (k : Kn) (A : KA) (ad : Nat → Ad) (kb : Nat) (L : Hp) (hK : KH k A ad kb L) (hw : KW k) (c : CapM) : TrR Tryz.prog 64 [pV kb, c.v] (L) (.bool (k.named c)) := by
 obtain ⟨Iq, Lc, Ls, Lt, E, hI, hC, hS, hT, hE, rfl⟩ := hK
 refine Tr.enter Tryz.func64 rfl Tryz.ntmps64 rfl (fun W F => ?_)
 refine Wp.app ?_
 refine Wr ?_
 refine zB fun b1 => ?_
 refine zq [1,2,5,3,3,4,6,8,2,5,20,3,3,4,22,1,2,5] ?_
 refine Wp.cond_t rfl (fun h1 => ?_) (fun h1 => ?_)
 ·
  refine zq [11,5,18,3,4,1,2,5,10,15,12] ?_
  exact Ends.ret (res1 rfl rfl) ⟨by congr 1; unfold Kn.named; simp_all, rfl⟩
 refine zq [3,4,22,1,2,5] ?_
 refine Wp.cond_t rfl (fun h2 => ?_) (fun h2 => ?_)
 ·
  refine zq [11,5,18,3,4,1,2,5,10,15,12] ?_
  exact Ends.ret (res1 rfl rfl) ⟨by congr 1; unfold Kn.named; simp_all, rfl⟩
 refine zq [4,22,1,2,5] ?_
 refine Wp.cond_t rfl (fun h3 => ?_) (fun h3 => ?_)
 ·
  refine zq [3,4,1,2,5,10,15,12] ?_
  exact Ends.ret (res1 rfl rfl) ⟨by congr 1; unfold Kn.named; simp_all, rfl⟩
 refine zq [3,4,22,1,2,5] ?_
 refine Wp.cond_dect rfl (fun h4 => ?_) (fun h4 => ?_)
 ·
  refine zq [3,4,6,8,43,0] ?_
  refine Ops.pvc rfl rfl (fun hg => pv_fieldAddr0 rfl rfl) rfl ?_
  refine Ops.pvc rfl rfl (fun hg => Pv.setE (t := 17) rfl (cv_pos hg) (pv_load rfl rfl rfl)) rfl ?_
  refine Ops.pvc rfl rfl (fun hg => Pv.setE (t := 17) rfl (cv_pos hg) (Pv.setE (t := 18) rfl (cv_pos hg) (pv_lss rfl rfl))) rfl ?_
  refine zq [46,1,2,5,10,15,12] ?_
  exact Ends.ret (res1 rfl rfl) ⟨by congr 1; unfold Kn.named; simp_all, rfl⟩
 refine zq [11,19,5,3,4,0,6,8,6,8] ?_
 refine zC (tr_is k A ad kb _ hE hw c.object c.kind) ?_
 refine zq [1,2,5,10] ?_
 exact Ends.ret (res1 rfl rfl) ⟨by congr 1; unfold Kn.named; simp_all, rfl⟩
theorem tr_kPlant (k : Kn) (A : KA) (ad : Nat → Ad) (kb : Nat) (L : Hp) (hK : KH k A ad kb L) (hw : KW k) (q : SlotM) (c : CapM) : Tr Tryz.prog 28 [pV kb, slotV q, c.v] (L) (fun u L' => u = .int .i64 (k.plant q c).1 ∧ KH (k.plant q c).2 A ad kb L') := by
 obtain ⟨Iq, Lc, Ls, Lt, E, hI, hC, hS, hT, hE, rfl⟩ := hK
 refine Tr.enter Tryz.func28 rfl Tryz.ntmps28 rfl (fun W F => ?_)
 refine Wp.app ?_
 refine Wr ?_
 refine zB fun b1 => ?_
 refine zB fun b2 => ?_
 refine zq [1,2,5,3,3,4,0,32] ?_
 refine zC (tr_kNamed k A ad kb _ ⟨Iq, Lc, Ls, Lt, E, hI, hC, hS, hT, hE, rfl⟩ hw c) ?_
 refine zq [39,2,5] ?_
 refine Wp.cond_t rfl (fun h1 => ?_) (fun h1 => ?_)
 ·
  refine zq [3,4,1,2,5,10,12] ?_
  have hn : k.named c = false := by simp_all
  rw [show k.plant q c = (3, k) from if_pos hn]
  exact zr (L' := (kb, kerO A k.wi) :: (A.ob, mapO encI (kvM ad k.mp) k.ck) :: (A.mb, .cells [.slice (some ⟨A.wb, 0, none⟩) k.ws.length k.ws.length].toArray 193) :: (A.wb, .cells (wordsC k.ws).toArray 22) :: (Iq ++ (Lc ++ (Ls ++ (Lt ++ E))))) ⟨rfl, ⟨Iq, Lc, Ls, Lt, E, hI, hC, hS, hT, hE, rfl⟩⟩
 refine zq [11,5,3] ?_
 refine AnyH.start [(kb, kerO A k.wi), (b1, .cells [.int .i64 q.1, .int .i64 q.2].toArray 68), (b2, .cells c.cells.toArray 70)] 8 rfl ?_
 refine zd [0,1,1,3,2,0,3,2,4,10,5,11] ?_
 refine AnyH.one 6 (by kernel_rfl) ?_
 refine Turn.ef rfl rfl (ef_call (tr_mPlant k.nk A.cb Lc k.p hC q c) rfl rfl) ?_ ?_
 ·
  rintro _ _ ⟨_, J1, ⟨rfl, hc1⟩, rfl, rfl⟩; infer_instance
 rintro _ _ ⟨_, J1, ⟨rfl, hc1⟩, rfl, rfl⟩
 refine AnyH.app ?_
 refine zd [7,5] ?_
 refine AnyH.done (by kernel_rfl) ?_
 refine zq [5,10] ?_
 have hn : ¬ k.named c = false := by simp_all
 rw [show k.plant q c = ((mPlant k.p q c).1, { k with p := (mPlant k.p q c).2, nk := k.nk + 1 }) from if_neg hn]
 exact zr (L' := (kb, kerO A k.wi) :: (A.ob, mapO encI (kvM ad k.mp) k.ck) :: (A.mb, .cells [.slice (some ⟨A.wb, 0, none⟩) k.ws.length k.ws.length].toArray 193) :: (A.wb, .cells (wordsC k.ws).toArray 22) :: (Iq ++ (J1 ++ (Ls ++ (Lt ++ E))))) ⟨rfl, Iq, J1, Ls, Lt, E, hI, hc1, hS, hT, hE, rfl⟩
theorem tr_kStartN (k : Kn) (A : KA) (ad : Nat → Ad) (kb : Nat) (L : Hp) (hK : KH k A ad kb L) (hw : KW k) (n : Int) (hn : k.thr n = none) : TrR Tryz.prog 31 [pV kb, .int .i64 n] (L) (.int .i64 3) := by
 obtain ⟨Iq, Lc, Ls, Lt, E, hI, hC, hS, hT, hE, rfl⟩ := hK
 refine Tr.enter Tryz.func31 rfl Tryz.ntmps31 rfl (fun W F => ?_)
 refine Wp.app ?_
 refine zq [3,4,1,2,5,3,4,0,0] ?_
 refine zC (tr_getThrZ k A ad kb _ hE hw n hn) ?_
 refine zq [0,7,7,1,1,2,5,3,3,4,0,39,2,5,18,3,4,1,2,5,10,12] ?_
 exact zr ⟨rfl, rfl⟩
theorem tr_kStartS (k : Kn) (A : KA) (ad : Nat → Ad) (kb : Nat) (L : Hp) (hK : KH k A ad kb L) (hw : KW k) (n : Int) {i : Nat} {t : ThrM} {c : CapM} {s b : Int} {sp : Int × Int} (hi : k.ix n = some i) (he : k.ar[i]? = some ⟨.thr t c s b, sp⟩) : Tr Tryz.prog 31 [pV kb, .int .i64 n] (L) (fun u L' => u = .int .i64 (startTM t).2 ∧ KH (if (startTM t).2 = 0 then k.be n (startTM t).1 else k) A ad kb L') := by
 obtain ⟨Iq, Lc, Ls, Lt, E, hI, hC, hS, hT, hE, rfl⟩ := hK
 have hE0 := hE
 obtain ⟨G, R, rfl, hU, hB, hP, hEb⟩ := hE.thr he
 haveI := hU; haveI := hB; haveI := hP
 refine Tr.enter Tryz.func31 rfl Tryz.ntmps31 rfl (fun W F => ?_)
 refine Wp.app ?_
 refine zq [3,4,1,2,5,3,4,0,0] ?_
 refine zC (tr_getThrY k A ad kb _ hE0 n hi he) ?_
 refine zq [0,7,7,1,1,2,5,3,3,4,0,39,2,5,17,11,5,3,4,0,9,6,31] ?_
 refine zC (tr_tStart t) ?_
 refine zq [0,7,7] ?_
 refine zA fun b1 => ?_
 refine zq [14,1,2,5,3,3,4,0,22,2,5] ?_
 refine Wp.cond_dect rfl (fun h1 => ?_) (fun h1 => ?_)
 ·
  refine zq [4,0,0,31] ?_
  refine zD (tr_kBe k A ad kb _ ⟨Iq, Lc, Ls, Lt, _, hI, hC, hS, hT, hE0, rfl⟩ hw n hi he (startTM t).1) ?_
  rintro _ J1 ⟨rfl, hk1⟩
  refine Ops.app ?_
  refine zq [2,5,3,4,0,1,2,5,10] ?_
  rw [if_pos (by assumption)]
  exact zr (L' := J1) ⟨rfl, hk1⟩
 refine zq [11,5,3,4,0,1,2,5,10] ?_
 rw [if_neg (by assumption)]
 exact zr (L' := (kb, kerO A k.wi) :: (A.ob, mapO encI (kvM ad k.mp) k.ck) :: (A.mb, .cells [.slice (some ⟨A.wb, 0, none⟩) k.ws.length k.ws.length].toArray 193) :: (A.wb, .cells (wordsC k.ws).toArray 22) :: (Iq ++ (Lc ++ (Ls ++ (Lt ++ (G (thrO t c s b))))))) ⟨rfl, Iq, Lc, Ls, Lt, _, hI, hC, hS, hT, hE0, rfl⟩
theorem tr_kStart (k : Kn) (A : KA) (ad : Nat → Ad) (kb : Nat) (L : Hp) (hK : KH k A ad kb L) (hw : KW k) (n : Int) : Tr Tryz.prog 31 [pV kb, .int .i64 n] L (fun u L' => u = .int .i64 (k.startE n) ∧ KH (k.start n) A ad kb L') := by
 cases hx : k.thr n with
 | none =>
  rw [show k.startE n = 3 by unfold Kn.startE; rw [hx], show k.start n = k by unfold Kn.start; rw [hx]]
  exact (tr_kStartN k A ad kb L hK hw n hx).mono (fun v L' h => ⟨h.1, by rw [h.2]; exact hK⟩)
 | some x =>
  obtain ⟨i, sp, hi, he⟩ := thr_ex hx
  rw [show k.startE n = (startTM x.1).2 by unfold Kn.startE; rw [hx], show k.start n = (if (startTM x.1).2 = 0 then k.be n (startTM x.1).1 else k) by unfold Kn.start; rw [hx]]
  exact tr_kStartS k A ad kb L hK hw n hi he
set_option maxHeartbeats 8000000 in
theorem tr_kSetup (k : Kn) (A : KA) (ad : Nat → Ad) (kb : Nat) (L : Hp) (hK : KH k A ad kb L) (hw : KW k) (n : Int) {i : Nat} {t : ThrM} {c : CapM} {s b : Int} {sp : Int × Int} (hi : k.ix n = some i) (he : k.ar[i]? = some ⟨.thr t c s b, sp⟩) (lvl dom pc : Int) (root : CapM) (space : Int) (r : RegsM) (h1n : newTM lvl dom = (newT lvl dom, 0)) (h2p : 0 ≤ pc ∧ pc < 4096) (h3s : t.st = 0) (h4k : root.kind = 2) (h5n : k.named root = true) (h6s : space ≠ -1) (h7s : k.isK space 8 = true) : Tr Tryz.prog 30 [pV kb, .int .i64 n, .int .i64 lvl, .int .i64 dom, .int .i64 pc, root.v, .int .i64 space, r.v] (L) (fun u L' => u = .int .i64 0 ∧ KH { k with ar := setA k.ar i (.thr ⟨0, 0, 0, false, t.caller, lvl, dom, pc, r⟩ root space b) } A ad kb L') := by
 obtain ⟨Iq, Lc, Ls, Lt, E, hI, hC, hS, hT, hE, rfl⟩ := hK
 have hE0 := hE
 obtain ⟨G, R, rfl, hU, hB, hP, hEb⟩ := hE.thr he
 haveI := hU; haveI := hB; haveI := hP
 refine Tr.enter Tryz.func30 rfl Tryz.ntmps30 rfl (fun W F => ?_)
 refine Wp.app ?_
 refine Wr ?_
 refine zB fun b1 => ?_
 refine zB fun b2 => ?_
 refine zq [1,2,5,3,4,0,0] ?_
 refine zC (tr_getThrY k A ad kb _ hE0 n hi he) ?_
 refine zq [0,7,7,1,1,2,5,3,3,4,0,39,2,5,17,11,5,3,4,0,0] ?_
 refine zC ((tr_tNew lvl dom).eq (r' := .tuple #[(⟨0, 0, 0, false, -1, lvl, dom, 0, .zero⟩ : ThrM).v, .int .i64 0]) (by rw [h1n]; rfl)) ?_
 refine zq [0,7,7] ?_
 refine zA fun b3 => ?_
 refine zq [14,1,2,5,3,20,3,4,0,67,1,2,5,17,3,4,0,42,0] ?_
 refine Ops.pvcn rfl rfl (fun hg => pv_move rfl) rfl ?_
 refine Ops.pvcn rfl rfl (fun hg => Pv.setE (t := 43) rfl (cv_pos hg) (pv_geq rfl rfl)) rfl ?_
 refine zq [47,1,2,5] ?_
 refine Wp.cond_t rfl (fun h1 => (by exfalso; simp_all; omega)) (fun h1 => ?_)
 refine zq [3,4,0,9,6,6,8,67,1,2,5,17,3,4,6,8,67,0,21] ?_
 refine Ops.pvg ⟨_, _, rfl, rfl, rfl⟩ (pv_loadK [_, _, _, _, _, _] rfl rfl rfl ⟨rfl, rfl, rfl, rfl, rfl, rfl, trivial⟩) rfl ?_
 refine Ops.efg ⟨_, _, rfl, rfl, rfl⟩ (ef_callr ((tr_kNamed k A ad kb _ ⟨Iq, Lc, Ls, Lt, _, hI, hC, hS, hT, hE0, rfl⟩ hw root).eq (by rw [h5n])) rfl rfl) ?_
 rintro _ _ ⟨rfl, rfl⟩
 refine zq [54,26,0,21] ?_
 refine Ops.pvg ⟨_, _, rfl, rfl, rfl⟩ ((pv_neq rfl rfl).tru (by first | rfl | decide | omega | assumption | (simp; done) | (simp; omega))) rfl ?_
 refine zq [21,21,21] ?_
 refine Ops.efg ⟨_, _, rfl, rfl, rfl⟩ (ef_callr ((tr_is k A ad kb _ hE0 hw space 8).eq (by rw [h7s])) rfl rfl) ?_
 rintro _ _ ⟨rfl, rfl⟩
 refine zq [54] ?_
 refine Ops.pvg ⟨_, _, rfl, rfl, rfl⟩ (pv_pick_true rfl rfl) rfl ?_
 refine zq [26,1,2,5,17,11,19,5,3] ?_
 refine AnyH.start (G (thrO t c s b) ++ [(b2, .cells r.cells.toArray 33)]) 13 rfl ?_
 refine zd [0,1,1,12,2,1,3,3,4,0,5,0,6,2,7,0] ?_
 refine z1 8 ?_
 refine zd [9,0] ?_
 refine zK 10 ?_
 refine zd [11,0] ?_
 refine z1 12 ?_
 refine AnyH.done (by kernel_rfl) ?_
 refine zq [5,3] ?_
 refine AnyH.start [(b3, .cells [.int .i64 0, .int .i64 0, .int .u64 0, .bool false, .int .i64 t.caller, .int .i64 lvl, .int .i64 dom, .int .i64 pc, .int .u64 r.r0, .int .u64 r.r1, .int .u64 r.r2, .int .u64 r.r3, .int .u64 r.r4, .int .u64 r.r5, .int .u64 r.r6, .int .u64 r.r7].toArray 35), (b1, .cells root.cells.toArray 70)] 15 rfl ?_
 refine zd [0,1,1,1,2,1,3,13,4,11,5,1,6,3,7,0] ?_
 refine zK 8 ?_
 refine zd [9,3,10,0] ?_
 refine zK 11 ?_
 refine zd [12,3,13,0] ?_
 refine z1 14 ?_
 refine AnyH.done (by kernel_rfl) ?_
 refine zq [5,3,4,1,2,5,10] ?_
 exact zr (L' := (kb, kerO A k.wi) :: (A.ob, mapO encI (kvM ad k.mp) k.ck) :: (A.mb, .cells [.slice (some ⟨A.wb, 0, none⟩) k.ws.length k.ws.length].toArray 193) :: (A.wb, .cells (wordsC k.ws).toArray 22) :: (Iq ++ (Lc ++ (Ls ++ (Lt ++ (G (thrO ⟨0, 0, 0, false, t.caller, lvl, dom, pc, r⟩ root space b))))))) ⟨rfl, Iq, Lc, Ls, Lt, _, hI, hC, hS, hT, hEb ⟨0, 0, 0, false, t.caller, lvl, dom, pc, r⟩ root space b, rfl⟩
theorem table_len (ws : List Int) (d a t : Int) : (tableW ws d a t).length = ws.length := by
 unfold tableW; split
 ·
  rfl
 exact applyW_len ..
theorem smap_len (ws : List Int) (d a t : Int) (wr : Bool) : (smapW ws d a t wr).length = ws.length := by
 unfold smapW; split
 ·
  rfl
 exact applyW_len ..
theorem tr_sTableX (ws : List Int) (mb wb : Nat) (hN : ws.length ≤ 65536) (hw : WdOk ws) (dir a t : Int) (ha : I64 a) : Tr Tryz.prog 68 [memP mb, .int .i64 dir, .int .i64 a, .int .i64 t] ((mb, .cells [.slice (some ⟨wb, 0, none⟩) ws.length ws.length].toArray 193) :: (wb, .cells (wordsC ws).toArray 22) :: []) (fun u L' => u = .int .i64 (tableE ws dir a t) ∧ L' = (mb, .cells [.slice (some ⟨wb, 0, none⟩) ws.length ws.length].toArray 193) :: (wb, .cells (wordsC (tableW ws dir a t)).toArray 22) :: []) := tr_sTable ws mb wb ws.length rfl hN hw dir a t ha
theorem tr_sMapX (ws : List Int) (mb wb : Nat) (hN : ws.length ≤ 65536) (hw : WdOk ws) (dir a t : Int) (wr : Bool) (ha : I64 a) : Tr Tryz.prog 69 [memP mb, .int .i64 dir, .int .i64 a, .int .i64 t, .bool wr] ((mb, .cells [.slice (some ⟨wb, 0, none⟩) ws.length ws.length].toArray 193) :: (wb, .cells (wordsC ws).toArray 22) :: []) (fun u L' => u = .int .i64 (smapE ws dir a t wr) ∧ L' = (mb, .cells [.slice (some ⟨wb, 0, none⟩) ws.length ws.length].toArray 193) :: (wb, .cells (wordsC (smapW ws dir a t wr)).toArray 22) :: []) := tr_sMap ws mb wb ws.length rfl hN hw dir a t wr ha
theorem KH_ws {k : Kn} {A : KA} {ad : Nat → Ad} {kb : Nat} {Iq Lc Ls Lt E : Hp} (hI : IrqH k.q A.ib Iq) (hC : CapsH k.nk k.p A.cb Lc) (hS : SchH k.T k.e k.lf k.L A.sb Ls) (hT : TlbH k.tl A.tb Lt) (hE : EnH k.ar ad E) {ws : List Int} (hl : ws.length = k.ws.length) :
    KH { k with ws := ws } A ad kb ((kb, kerO A k.wi) :: (A.ob, mapO encI (kvM ad k.mp) k.ck) :: (A.mb, .cells [.slice (some ⟨A.wb, 0, none⟩) k.ws.length k.ws.length].toArray 193) :: (A.wb, .cells (wordsC ws).toArray 22) :: (Iq ++ (Lc ++ (Ls ++ (Lt ++ E))))) := ⟨Iq, Lc, Ls, Lt, E, hI, hC, hS, hT, hE, by dsimp only; rw [hl]⟩
set_option maxHeartbeats 8000000 in
theorem tr_kMapTable (k : Kn) (A : KA) (ad : Nat → Ad) (kb : Nat) (L : Hp) (hK : KH k A ad kb L) (hw : KW k) (n into : Int) {i j : Nat} {q s0 a0 : Int} {sp : Int × Int} {en : En} (hi : k.ix n = some i) (he : k.ar[i]? = some ⟨.page q false s0 a0, sp⟩) (hj : k.ix into = some j) (hej : k.ar[j]? = some en) (hk8 : en.th.kind = 8) (a : Int) (ha : I64 a) (wr : Bool) (hq : q = 7) : Tr Tryz.prog 29 [pV kb, .int .i64 n, .int .i64 into, .int .i64 a, .bool wr] (L) (fun u L' => u = .int .i64 (tableE k.ws en.sp.1 a sp.1) ∧ KH (if (tableE k.ws en.sp.1 a sp.1) = 0 then { k with ws := (tableW k.ws en.sp.1 a sp.1), ar := setA k.ar i (.page q true into a) } else { k with ws := (tableW k.ws en.sp.1 a sp.1) }) A ad kb L') := by
 obtain ⟨Iq, Lc, Ls, Lt, E, hI, hC, hS, hT, hE, rfl⟩ := hK
 have hE0 := hE
 have hBo := hE.ob hej
 have hBn := hE.ob he
 have hT7 := table_len k.ws en.sp.1 a sp.1
 obtain ⟨G, R, rfl, hU, hB, hP, hEb⟩ := hE.page he
 haveI := hU; haveI := hB; haveI := hP; haveI := hBo; haveI := hBn
 refine Tr.enter Tryz.func29 rfl Tryz.ntmps29 rfl (fun W F => ?_)
 refine Wp.app ?_
 refine zq [3,4,1,2,5,3,4,0,0] ?_
 refine zC (tr_getPageY k A ad kb _ hE0 n hi he) ?_
 refine zq [0,7,7,1,1,2,5,3,20,3,4,0,0] ?_
 refine zC ((tr_is k A ad kb _ hE0 hw into 8).eq (r' := .bool true) (by rw [isK_some hj hej, decide_eq_true hk8])) ?_
 refine zq [39,0,21,54,26,1,2,5,17,3,4,0,9,6,8,1,2,5,17,11,19,5,3] ?_
 refine AnyH.start ((kb, kerO A k.wi) :: (A.ob, mapO encI (kvM ad k.mp) k.ck) :: (G (pageO q false s0 a0))) 22 rfl ?_
 refine zd [0,1,1,3,2,0,3,2,4,1] ?_
 refine Tk 5 rfl rfl (pv_lookup_i (r := pV (ad j).ob) into rfl rfl ((kv_get k ad into).trans (by rw [hj]; rfl))) rfl ?_
 refine zd [6,3,7,0,8,6,9,2,10,1,11,3,12,0,13,2,14,1] ?_
 refine Tk 15 rfl rfl (pv_lookup_i (r := pV (ad i).ob) n rfl rfl ((kv_get k ad n).trans (by rw [hi]; rfl))) rfl ?_
 refine zd [16,3,17,0,18,6,19,2,20,5,21,5] ?_
 refine AnyH.done (by kernel_rfl) ?_
 refine zq [5,3,4,1,2,5,3,3,4,0,9,6,8,66,2,5,18,4,0,9,6,8,0,0,0] ?_
 refine zD (tr_sTableX k.ws A.mb A.wb hw.len.2 hw.wok en.sp.1 a sp.1 ha) ?_
 rintro _ _ ⟨rfl, rfl⟩
 refine Ops.app ?_
 refine zq [1,2,5,3,3,4,0,22,2,5] ?_
 refine Wp.cond_dect rfl (fun h1 => ?_) (fun h1 => ?_)
 ·
  refine zq [4,0,0,0,0,0,9,6,25,9,6,25,9,6,25,2,5,3,4,0,1,2,5,10] ?_
  rw [if_pos (by assumption)]
  exact zr (L' := (kb, kerO A k.wi) :: (A.ob, mapO encI (kvM ad k.mp) k.ck) :: (A.mb, .cells [.slice (some ⟨A.wb, 0, none⟩) k.ws.length k.ws.length].toArray 193) :: (A.wb, .cells (wordsC (tableW k.ws en.sp.1 a sp.1)).toArray 22) :: (Iq ++ (Lc ++ (Ls ++ (Lt ++ (G (pageO q true into a))))))) ⟨rfl, KH_ws (k := { k with ar := setA k.ar i (.page q true into a) }) hI hC hS hT (hEb q true into a) hT7⟩
 refine zq [11,5,3,4,0,1,2,5,10] ?_
 rw [if_neg (by assumption)]
 exact zr (L' := (kb, kerO A k.wi) :: (A.ob, mapO encI (kvM ad k.mp) k.ck) :: (A.mb, .cells [.slice (some ⟨A.wb, 0, none⟩) k.ws.length k.ws.length].toArray 193) :: (A.wb, .cells (wordsC (tableW k.ws en.sp.1 a sp.1)).toArray 22) :: (Iq ++ (Lc ++ (Ls ++ (Lt ++ (G (pageO q false s0 a0))))))) ⟨rfl, KH_ws hI hC hS hT hE0 hT7⟩
set_option maxHeartbeats 8000000 in
theorem tr_kMapFrame (k : Kn) (A : KA) (ad : Nat → Ad) (kb : Nat) (L : Hp) (hK : KH k A ad kb L) (hw : KW k) (n into : Int) {i j : Nat} {q s0 a0 : Int} {sp : Int × Int} {en : En} (hi : k.ix n = some i) (he : k.ar[i]? = some ⟨.page q false s0 a0, sp⟩) (hj : k.ix into = some j) (hej : k.ar[j]? = some en) (hk8 : en.th.kind = 8) (a : Int) (ha : I64 a) (wr : Bool) (hq : q ≠ 7) : Tr Tryz.prog 29 [pV kb, .int .i64 n, .int .i64 into, .int .i64 a, .bool wr] (L) (fun u L' => u = .int .i64 (smapE k.ws en.sp.1 a sp.1 wr) ∧ KH (if (smapE k.ws en.sp.1 a sp.1 wr) = 0 then { k with ws := (smapW k.ws en.sp.1 a sp.1 wr), ar := setA k.ar i (.page q true into a) } else { k with ws := (smapW k.ws en.sp.1 a sp.1 wr) }) A ad kb L') := by
 obtain ⟨Iq, Lc, Ls, Lt, E, hI, hC, hS, hT, hE, rfl⟩ := hK
 have hE0 := hE
 have hBo := hE.ob hej
 have hBn := hE.ob he
 have hT7 := smap_len k.ws en.sp.1 a sp.1 wr
 obtain ⟨G, R, rfl, hU, hB, hP, hEb⟩ := hE.page he
 haveI := hU; haveI := hB; haveI := hP; haveI := hBo; haveI := hBn
 refine Tr.enter Tryz.func29 rfl Tryz.ntmps29 rfl (fun W F => ?_)
 refine Wp.app ?_
 refine zq [3,4,1,2,5,3,4,0,0] ?_
 refine zC (tr_getPageY k A ad kb _ hE0 n hi he) ?_
 refine zq [0,7,7,1,1,2,5,3,20,3,4,0,0] ?_
 refine zC ((tr_is k A ad kb _ hE0 hw into 8).eq (r' := .bool true) (by rw [isK_some hj hej, decide_eq_true hk8])) ?_
 refine zq [39,0,21,54,26,1,2,5,17,3,4,0,9,6,8,1,2,5,17,11,19,5,3] ?_
 refine AnyH.start ((kb, kerO A k.wi) :: (A.ob, mapO encI (kvM ad k.mp) k.ck) :: (G (pageO q false s0 a0))) 22 rfl ?_
 refine zd [0,1,1,3,2,0,3,2,4,1] ?_
 refine Tk 5 rfl rfl (pv_lookup_i (r := pV (ad j).ob) into rfl rfl ((kv_get k ad into).trans (by rw [hj]; rfl))) rfl ?_
 refine zd [6,3,7,0,8,6,9,2,10,1,11,3,12,0,13,2,14,1] ?_
 refine Tk 15 rfl rfl (pv_lookup_i (r := pV (ad i).ob) n rfl rfl ((kv_get k ad n).trans (by rw [hi]; rfl))) rfl ?_
 refine zd [16,3,17,0,18,6,19,2,20,5,21,5] ?_
 refine AnyH.done (by kernel_rfl) ?_
 refine zq [5,3,4,1,2,5,3,3,4,0,9,6,8,65,2,5,17,4,0,9,6,8,0,0,0,0] ?_
 refine zD (tr_sMapX k.ws A.mb A.wb hw.len.2 hw.wok en.sp.1 a sp.1 wr ha) ?_
 rintro _ _ ⟨rfl, rfl⟩
 refine Ops.app ?_
 refine zq [1,2,5,3,3,4,0,22,2,5] ?_
 refine Wp.cond_dect rfl (fun h1 => ?_) (fun h1 => ?_)
 ·
  refine zq [4,0,0,0,0,0,9,6,25,9,6,25,9,6,25,2,5,3,4,0,1,2,5,10] ?_
  rw [if_pos (by assumption)]
  exact zr (L' := (kb, kerO A k.wi) :: (A.ob, mapO encI (kvM ad k.mp) k.ck) :: (A.mb, .cells [.slice (some ⟨A.wb, 0, none⟩) k.ws.length k.ws.length].toArray 193) :: (A.wb, .cells (wordsC (smapW k.ws en.sp.1 a sp.1 wr)).toArray 22) :: (Iq ++ (Lc ++ (Ls ++ (Lt ++ (G (pageO q true into a))))))) ⟨rfl, KH_ws (k := { k with ar := setA k.ar i (.page q true into a) }) hI hC hS hT (hEb q true into a) hT7⟩
 refine zq [11,5,3,4,0,1,2,5,10] ?_
 rw [if_neg (by assumption)]
 exact zr (L' := (kb, kerO A k.wi) :: (A.ob, mapO encI (kvM ad k.mp) k.ck) :: (A.mb, .cells [.slice (some ⟨A.wb, 0, none⟩) k.ws.length k.ws.length].toArray 193) :: (A.wb, .cells (wordsC (smapW k.ws en.sp.1 a sp.1 wr)).toArray 22) :: (Iq ++ (Lc ++ (Ls ++ (Lt ++ (G (pageO q false s0 a0))))))) ⟨rfl, KH_ws hI hC hS hT hE0 hT7⟩
end Go.Proofs.YtipncceiekalfaaGreat
end
