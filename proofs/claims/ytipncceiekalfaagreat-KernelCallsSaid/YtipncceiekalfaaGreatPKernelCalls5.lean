/- KernelCalls. Laid together by pack.py out of the texts in wip. -/
import Derived.Test.YtipncceiekalfaaGreatPKernelCalls4
set_option linter.unusedVariables false
set_option linter.unusedSimpArgs false
set_option linter.unusedSectionVars false
section
set_option linter.unusedVariables false
set_option linter.unusedSimpArgs false
set_option linter.unusedSectionVars false
namespace Go.Proofs.YtipncceiekalfaaGreat
open Go.SL
theorem tr_kFreeS (k : Kn) (A : KA) (ad : Nat → Ad) (kb : Nat) (L : Hp) (hK : KH k A ad kb L) (hw : KW k) (n : Int) {i : Nat} (hi : k.ix n = some i) : TrR Tryz.prog 57 [pV kb, .int .i64 n] (L) (.bool false) := by
 obtain ⟨Iq, Lc, Ls, Lt, E, hI, hC, hS, hT, hE, rfl⟩ := hK
 obtain ⟨sb, tb, Lx, Ly, hSx, hTx, rfl⟩ := hC
 refine Tr.enter Tryz.func57 rfl Tryz.ntmps57 rfl (fun W F => ?_)
 refine Wp.app ?_
 refine zq [3,4,1,2,5,3,4,0,9,6,8,0] ?_
 refine Ops.pv (pv_lookup_i (r := pV (ad i).ob) n rfl rfl ((kv_get k ad n).trans (by rw [hi]; rfl))) rfl ?_
 refine zq [59,0,13,13,13,13,13,13,13,13,13,13,13,26,1,2,5,10] ?_
 exact zr ⟨rfl, rfl⟩
theorem tr_kFreeN (k : Kn) (A : KA) (ad : Nat → Ad) (kb : Nat) (L : Hp) (hK : KH k A ad kb L) (hw : KW k) (n : Int) (hi : k.ix n = none) : TrR Tryz.prog 57 [pV kb, .int .i64 n] (L) (.bool (decide (dradix k.p.l n = 0))) := by
 obtain ⟨Iq, Lc, Ls, Lt, E, hI, hC, hS, hT, hE, rfl⟩ := hK
 obtain ⟨sb, tb, Lx, Ly, hSx, hTx, rfl⟩ := hC
 refine Tr.enter Tryz.func57 rfl Tryz.ntmps57 rfl (fun W F => ?_)
 refine Wp.app ?_
 simp only [List.cons_append, List.append_assoc]
 refine zq [3,4,1,2,5,3,4,0,9,6,8,0] ?_
 refine Ops.pv (pv_lookup_i (r := .pointer none) n rfl rfl ((kv_get k ad n).trans (by rw [hi]; rfl))) rfl ?_
 refine zq [59,0,21,57,50,51,57,50,50,51,21] ?_
 refine Ops.efg ⟨_, _, rfl, rfl, rfl⟩ (ef_callr (sf_radix hSx n) rfl rfl) ?_
 rintro _ _ ⟨rfl, rfl⟩
 refine Ops.pvg ⟨_, _, rfl, rfl, rfl⟩ (pv_eql rfl rfl) rfl ?_
 refine zq [24,1,2,5,10] ?_
 exact zr ⟨rfl, rfl⟩
theorem tr_kFree (k : Kn) (A : KA) (ad : Nat → Ad) (kb : Nat) (L : Hp) (hK : KH k A ad kb L) (hw : KW k) (n : Int) : TrR Tryz.prog 57 [pV kb, .int .i64 n] L (.bool (k.free n)) := by
 cases hi : k.ix n with
 | none => rw [show k.free n = decide (dradix k.p.l n = 0) by unfold Kn.free; rw [hi]; rfl]; exact tr_kFreeN k A ad kb L hK hw n hi
 | some i => rw [show k.free n = false by unfold Kn.free; rw [hi]; rfl]; exact tr_kFreeS k A ad kb L hK hw n hi
set_option maxHeartbeats 16000000 in
theorem tr_kTaken (k : Kn) (A : KA) (ad : Nat → Ad) (kb : Nat) (E : Hp) (hE : EnH k.ar ad E) (hw : KW k) (kd : Int) (q : Int × Int) : TrR Tryz.prog 61 [pV kb, .int .i64 kd, slotV q] ((kb, kerO A k.wi) :: (A.ob, mapO encI (kvM ad k.mp) k.ck) :: E) (.bool (k.taken kd q)) := by
 refine Tr.enter Tryz.func61 rfl Tryz.ntmps61 rfl (fun W F => ?_)
 refine Wp.app ?_
 refine Wr ?_
 refine zB fun b1 => ?_
 refine zq [1,2,5,3,3,4,0,9,6,8] ?_
 refine Ops.ef rfl (ef_range rfl rfl) ?_
 rintro _ _ ⟨b2, rfl, rfl⟩
 refine zq [2,5,20] ?_
 refine Wp.loopK (σ := Array Nat × Nat) [(1, _), (5, _), (14, _)] (fun s => []) (fun s => (b2, .mapIter (some A.ob) k.ck s.1 s.2) :: (b1, .cells [.int .i64 q.1, .int .i64 q.2].toArray 42) :: (kb, kerO A k.wi) :: (A.ob, mapO encI (kvM ad k.mp) k.ck) :: (E ++ F)) (fun s => seenI k kd q s.1 ∧ k.ck ≤ s.2) (fun s => unseen k s.1) (#[], k.ck) ⟨seen_start k kd q, Nat.le_refl _⟩ ⟨rfl, rfl, rfl, trivial⟩ trivial (by intro w ho; (try dsimp only [List.nil_append, List.cons_append]); exact Drop.own ho) ?_
 rintro ⟨seen, c0⟩ KK ⟨hI, hc0⟩ hK
 dsimp only [List.cons_append, List.nil_append] at hK ⊢
 dsimp only at hI hc0 ⊢
 refine Wr ?_
 refine Ops.ef rfl (ef_next rfl (by intro e he; obtain ⟨n, i, st, hm, rfl⟩ := kv_of he; exact (hw.mp _ hm).2.2.2) hc0 (fun o' => inferInstance) rfl) ?_
 rintro _ _ ⟨q1, ky1, v1, s21, c21, hd1, rfl, rfl⟩
 refine Ops.pv (pv_nx0 rfl) rfl ?_
 refine zq [2,5,3] ?_
 refine Wp.cond_t rfl (fun h1 => ?_) (fun h1 => ?_)
 ·
  have hq1 : q1 = true := by assumption
  obtain ⟨e, hem, hen, rfl, rfl, rfl⟩ : ∃ e, e ∈ kvM ad k.mp ∧ seen.contains e.2.2 = false ∧ v1 = e.2.1 ∧ s21 = seen.push e.2.2 ∧ c21 = k.ck := by rcases hd1 with ⟨_, h⟩ | ⟨h, _⟩; exact h; rw [h] at hq1; cases hq1
  obtain ⟨n, i, st, hm, rfl⟩ := kv_of hem
  obtain ⟨en, he⟩ : ∃ en, k.ar[i]? = some en := ⟨_, List.getElem?_eq_getElem (hw.mp _ hm).2.2.1⟩
  haveI hBo := hE.ob he
  obtain ⟨R0, hR0⟩ := (hE.tb he).take
  obtain ⟨f, hme, hg, ht⟩ := kind_of en.th (ad i).tb (ad i).nb
  haveI := hme; haveI := hg; haveI := hR0
  dsimp only at hen
  refine zq [11,5,20,3,4] ?_
  refine Ops.pv (pv_entry (n, .pointer (some ⟨(ad i).ob, 0, none⟩), st) rfl hem (kv_nd hw.q.2)) rfl ?_
  refine zq [7,1,2,5,3,4,0,9,6,8] ?_
  refine Ops.ef rfl (ef_invr (ht) rfl rfl) ?_
  rintro _ _ ⟨rfl, rfl⟩
  refine zq [1,2,5,20,3] ?_
  refine AnyH.start ((b1, .cells [.int .i64 q.1, .int .i64 q.2].toArray 42) :: E) 7 rfl ?_
  refine zd [0,10,1,1,2,3,3,0,4,10] ?_
  refine AnyH.one 5 (by kernel_rfl) ?_
  refine Turn.ef rfl rfl (ef_callr (tr_spApart q en.sp) rfl rfl) ?_ ?_
  ·
   rintro _ _ ⟨rfl, rfl⟩; infer_instance
  rintro _ _ ⟨rfl, rfl⟩
  refine zd [6,5] ?_
  refine AnyH.done (by kernel_rfl) ?_
  refine Ends.seq ?_
  refine Wp.cond_t rfl (fun h2 => ?_) (fun h2 => ?_)
  ·
   refine zq [11,19,19,49] ?_
   have hcl : clashI k kd q i = false := by unfold clashI; rw [he]; simp_all [clash]
   refine Goes.back (hK (seen.push st, k.ck) ⟨seen_push hw.q.2 hI hm hcl, Nat.le_refl _⟩ (unseen_push k seen hm hen)) ⟨rfl, rfl, rfl, trivial⟩
  refine zq [3,4,0,22,0] ?_
  refine Ops.pvc rfl rfl (fun hg => pv_move rfl) rfl ?_
  refine Ops.pvc rfl rfl (fun hg => Pv.setE (t := 35) rfl (cv_pos hg) (pv_eql rfl rfl)) rfl ?_
  refine zq [46,1,2,5] ?_
  refine Wp.cond_t rfl (fun h3 => ?_) (fun h3 => ?_)
  ·
   refine zq [11,19,19,49] ?_
   have hcl : clashI k kd q i = false := by unfold clashI; rw [he]; simp_all [clash]
   refine Goes.back (hK (seen.push st, k.ck) ⟨seen_push hw.q.2 hI hm hcl, Nat.le_refl _⟩ (unseen_push k seen hm hen)) ⟨rfl, rfl, rfl, trivial⟩
  refine Wp.seq ?_
  refine AnyH.start ((b1, .cells [.int .i64 q.1, .int .i64 q.2].toArray 42) :: E) 11 rfl ?_
  refine zd [0,1,1,7,2,1] ?_
  refine AnyH.split (t := 41) rfl (fun h4 => ?_) (fun h4 => ?_)
  ·
   refine Tk 3 rfl ⟨_, _, rfl, rfl, rfl⟩ (pv_loadK [_, _] rfl rfl rfl ⟨rfl, rfl, trivial⟩) rfl ?_
   refine Tk 4 rfl ⟨_, _, rfl, rfl, rfl⟩ (pv_move rfl) rfl ?_
   refine Tk 5 rfl ⟨_, _, rfl, rfl, rfl⟩ (pv_nilCheck rfl) rfl ?_
   refine Tk 6 rfl ⟨_, _, rfl, rfl, rfl⟩ (pv_fieldAddr0 rfl rfl) rfl ?_
   refine Tk 7 rfl ⟨_, _, rfl, rfl, rfl⟩ (pv_loadK [_, _] rfl rfl rfl ⟨rfl, rfl, trivial⟩) rfl ?_
   refine AnyH.one 8 (by kernel_rfl) ?_
   refine Turn.ef rfl ⟨_, _, rfl, rfl, rfl⟩ (ef_callr (tr_spIs q en.sp) rfl rfl) ?_ ?_
   ·
    rintro _ _ ⟨rfl, rfl⟩; infer_instance
   rintro _ _ ⟨rfl, rfl⟩
   refine Tk 9 rfl rfl (pv_pick_true rfl rfl) rfl ?_
   refine zd [10,5] ?_
   refine AnyH.done (by kernel_rfl) ?_
   refine Ends.seq ?_
   refine Wp.cond_t rfl (fun h5 => ?_) (fun h5 => ?_)
   ·
    refine zq [11,19,19,49] ?_
    have hcl : clashI k kd q i = false := by unfold clashI; rw [he]; simp_all [clash]
    refine Goes.back (hK (seen.push st, k.ck) ⟨seen_push hw.q.2 hI hm hcl, Nat.le_refl _⟩ (unseen_push k seen hm hen)) ⟨rfl, rfl, rfl, trivial⟩
   refine Wp.seq ?_
   refine AnyH.start ((b1, .cells [.int .i64 q.1, .int .i64 q.2].toArray 42) :: E) 11 rfl ?_
   refine zd [0,1,1,7,2,1] ?_
   refine AnyH.split (t := 52) rfl (fun h6 => ?_) (fun h6 => ?_)
   ·
    refine Tk 3 rfl ⟨_, _, rfl, rfl, rfl⟩ (pv_move rfl) rfl ?_
    refine Tk 4 rfl ⟨_, _, rfl, rfl, rfl⟩ (pv_nilCheck rfl) rfl ?_
    refine Tk 5 rfl ⟨_, _, rfl, rfl, rfl⟩ (pv_fieldAddr0 rfl rfl) rfl ?_
    refine Tk 6 rfl ⟨_, _, rfl, rfl, rfl⟩ (pv_loadK [_, _] rfl rfl rfl ⟨rfl, rfl, trivial⟩) rfl ?_
    refine Tk 7 rfl ⟨_, _, rfl, rfl, rfl⟩ (pv_loadK [_, _] rfl rfl rfl ⟨rfl, rfl, trivial⟩) rfl ?_
    refine AnyH.one 8 (by kernel_rfl) ?_
    refine Turn.ef rfl ⟨_, _, rfl, rfl, rfl⟩ (ef_callr (tr_spIs en.sp q) rfl rfl) ?_ ?_
    ·
     rintro _ _ ⟨rfl, rfl⟩; infer_instance
    rintro _ _ ⟨rfl, rfl⟩
    refine Tk 9 rfl rfl (pv_pick_true rfl rfl) rfl ?_
    refine zd [10,5] ?_
    refine AnyH.done (by kernel_rfl) ?_
    refine Ends.seq ?_
    refine Wp.cond_t rfl (fun h7 => ?_) (fun h7 => ?_)
    ·
     refine zq [11,19,19,49] ?_
     have hcl : clashI k kd q i = false := by unfold clashI; rw [he]; simp_all [clash]
     refine Goes.back (hK (seen.push st, k.ck) ⟨seen_push hw.q.2 hI hm hcl, Nat.le_refl _⟩ (unseen_push k seen hm hen)) ⟨rfl, rfl, rfl, trivial⟩
    refine zq [3,4,1,2,5,10,15,15,12,15,12] ?_
    have hcl : clashI k kd q i = true := by unfold clashI; rw [he]; simp_all [clash]
    have hfin : k.taken kd q = true := List.any_eq_true.2 ⟨_, hm, hcl⟩
    exact Ends.ret (res1 rfl rfl) ⟨by rw [hfin], rfl⟩
   refine Ts 3 rfl ⟨_, _, rfl, rfl, rfl⟩ rfl ?_
   refine Ts 4 rfl ⟨_, _, rfl, rfl, rfl⟩ rfl ?_
   refine Ts 5 rfl ⟨_, _, rfl, rfl, rfl⟩ rfl ?_
   refine Ts 6 rfl ⟨_, _, rfl, rfl, rfl⟩ rfl ?_
   refine Ts 7 rfl ⟨_, _, rfl, rfl, rfl⟩ rfl ?_
   refine Ts 8 rfl ⟨_, _, rfl, rfl, rfl⟩ rfl ?_
   refine Tk 9 rfl rfl (pv_pick_false rfl rfl) rfl ?_
   refine zd [10,5] ?_
   refine AnyH.done (by kernel_rfl) ?_
   refine zq [5,17,3,4,1,2,5,10,15,15,12,15,12] ?_
   have hcl : clashI k kd q i = true := by unfold clashI; rw [he]; simp_all [clash]
   have hfin : k.taken kd q = true := List.any_eq_true.2 ⟨_, hm, hcl⟩
   exact Ends.ret (res1 rfl rfl) ⟨by rw [hfin], rfl⟩
  refine Ts 3 rfl ⟨_, _, rfl, rfl, rfl⟩ rfl ?_
  refine Ts 4 rfl ⟨_, _, rfl, rfl, rfl⟩ rfl ?_
  refine Ts 5 rfl ⟨_, _, rfl, rfl, rfl⟩ rfl ?_
  refine Ts 6 rfl ⟨_, _, rfl, rfl, rfl⟩ rfl ?_
  refine Ts 7 rfl ⟨_, _, rfl, rfl, rfl⟩ rfl ?_
  refine Ts 8 rfl ⟨_, _, rfl, rfl, rfl⟩ rfl ?_
  refine Tk 9 rfl rfl (pv_pick_false rfl rfl) rfl ?_
  refine zd [10,5] ?_
  refine AnyH.done (by kernel_rfl) ?_
  refine zq [5,17,3] ?_
  refine AnyH.start ((b1, .cells [.int .i64 q.1, .int .i64 q.2].toArray 42) :: E) 11 rfl ?_
  refine zd [0,1,1,7,2,1] ?_
  refine AnyH.split (t := 52) rfl (fun h8 => ?_) (fun h8 => ?_)
  ·
   refine Tk 3 rfl ⟨_, _, rfl, rfl, rfl⟩ (pv_move rfl) rfl ?_
   refine Tk 4 rfl ⟨_, _, rfl, rfl, rfl⟩ (pv_nilCheck rfl) rfl ?_
   refine Tk 5 rfl ⟨_, _, rfl, rfl, rfl⟩ (pv_fieldAddr0 rfl rfl) rfl ?_
   refine Tk 6 rfl ⟨_, _, rfl, rfl, rfl⟩ (pv_loadK [_, _] rfl rfl rfl ⟨rfl, rfl, trivial⟩) rfl ?_
   refine Tk 7 rfl ⟨_, _, rfl, rfl, rfl⟩ (pv_loadK [_, _] rfl rfl rfl ⟨rfl, rfl, trivial⟩) rfl ?_
   refine AnyH.one 8 (by kernel_rfl) ?_
   refine Turn.ef rfl ⟨_, _, rfl, rfl, rfl⟩ (ef_callr (tr_spIs en.sp q) rfl rfl) ?_ ?_
   ·
    rintro _ _ ⟨rfl, rfl⟩; infer_instance
   rintro _ _ ⟨rfl, rfl⟩
   refine Tk 9 rfl rfl (pv_pick_true rfl rfl) rfl ?_
   refine zd [10,5] ?_
   refine AnyH.done (by kernel_rfl) ?_
   refine Ends.seq ?_
   refine Wp.cond_t rfl (fun h9 => ?_) (fun h9 => ?_)
   ·
    refine zq [11,19,19,49] ?_
    have hcl : clashI k kd q i = false := by unfold clashI; rw [he]; simp_all [clash]
    refine Goes.back (hK (seen.push st, k.ck) ⟨seen_push hw.q.2 hI hm hcl, Nat.le_refl _⟩ (unseen_push k seen hm hen)) ⟨rfl, rfl, rfl, trivial⟩
   refine zq [3,4,1,2,5,10,15,15,12,15,12] ?_
   have hcl : clashI k kd q i = true := by unfold clashI; rw [he]; simp_all [clash]
   have hfin : k.taken kd q = true := List.any_eq_true.2 ⟨_, hm, hcl⟩
   exact Ends.ret (res1 rfl rfl) ⟨by rw [hfin], rfl⟩
  refine Ts 3 rfl ⟨_, _, rfl, rfl, rfl⟩ rfl ?_
  refine Ts 4 rfl ⟨_, _, rfl, rfl, rfl⟩ rfl ?_
  refine Ts 5 rfl ⟨_, _, rfl, rfl, rfl⟩ rfl ?_
  refine Ts 6 rfl ⟨_, _, rfl, rfl, rfl⟩ rfl ?_
  refine Ts 7 rfl ⟨_, _, rfl, rfl, rfl⟩ rfl ?_
  refine Ts 8 rfl ⟨_, _, rfl, rfl, rfl⟩ rfl ?_
  refine Tk 9 rfl rfl (pv_pick_false rfl rfl) rfl ?_
  refine zd [10,5] ?_
  refine AnyH.done (by kernel_rfl) ?_
  refine zq [5,17,3,4,1,2,5,10,15,15,12,15,12] ?_
  have hcl : clashI k kd q i = true := by unfold clashI; rw [he]; simp_all [clash]
  have hfin : k.taken kd q = true := List.any_eq_true.2 ⟨_, hm, hcl⟩
  exact Ends.ret (res1 rfl rfl) ⟨by rw [hfin], rfl⟩
 have hq1 : q1 = false := by assumption
 have hall : ∀ e, e ∈ kvM ad k.mp → seen.contains e.2.2 = true := by rcases hd1 with ⟨h, _⟩ | ⟨_, h, _⟩; (rw [h] at hq1; cases hq1); exact h
 have hfin : k.taken kd q = false := seen_all hI (fun e he => hall _ (List.mem_map.2 ⟨e, he, rfl⟩))
 refine zq [41,16,16,40,5,3,4,1,2,5,10] ?_
 exact Ends.ret (res1 rfl rfl) ⟨by rw [hfin], rfl⟩
def freshT (kd : Int) : Th := if kd = 1 then .unt 0 else if kd = 2 then .node else if kd = 3 then .thr (newT 0 0) .zero (-1) (-1) else if kd = 4 then .ep ⟨0, []⟩ else if kd = 5 then .nt ⟨0, [], []⟩ else if kd = 8 then .spc else .page kd false (-1) 0
def freshP (p : PS) (n kd size : Int) : PS := if kd = 2 then (mNode p n size).2 else p
set_option maxHeartbeats 4000000 in
theorem tr_kFreshUnt (kb : Nat) (n size : Int) : Tr Tryz.prog 63 [pV kb, .int .i64 n, .int .i64 1, .int .i64 size] ([]) (fun u L' => ∃ b, u = .iface 107 (pV b) ∧ L' = (b, .cells [.int .i64 0].toArray 109) :: []) := by
 refine Tr.enter Tryz.func63 rfl Tryz.ntmps63 rfl (fun W F => ?_)
 refine Wp.app ?_
 refine zq [3,4,1,2,5,3,3,4,0,2,5,20,3,4,66,1,2,5,18,3,4,23] ?_
 refine zB fun b1 => ?_
 refine zq [74,1,2,5,10,15,12] ?_
 exact Ends.ret (L' := (b1, .cells [.int .i64 0].toArray 109) :: []) (res1 rfl rfl) ⟨b1, rfl, rfl⟩
set_option maxHeartbeats 4000000 in
theorem tr_kFreshSpc (kb : Nat) (n size : Int) : Tr Tryz.prog 63 [pV kb, .int .i64 n, .int .i64 8, .int .i64 size] ([]) (fun u L' => ∃ b, u = .iface 229 (pV b) ∧ L' = (b, .cells [].toArray 230) :: []) := by
 refine Tr.enter Tryz.func63 rfl Tryz.ntmps63 rfl (fun W F => ?_)
 refine Wp.app ?_
 refine zq [3,4,1,2,5,3,3,4,0,2,5,20,3,4,65,1,2,5,17,3,4,65,1,2,5,17,3,4,65,1,2,5,17,3,4,65,1,2,5,17,3,4,65,1,2,5,17,3,4,66,1,2,5,18,3,4,23] ?_
 refine zB fun b1 => ?_
 refine zq [74,1,2,5,10,15,12] ?_
 exact Ends.ret (L' := (b1, .cells [].toArray 230) :: []) (res1 rfl rfl) ⟨b1, rfl, rfl⟩
set_option maxHeartbeats 4000000 in
theorem tr_kFreshPage (kb : Nat) (n size : Int) (kd : Int) (h1k : kd ≠ 1 ∧ kd ≠ 2 ∧ kd ≠ 3 ∧ kd ≠ 4 ∧ kd ≠ 5 ∧ kd ≠ 8) : Tr Tryz.prog 63 [pV kb, .int .i64 n, .int .i64 kd, .int .i64 size] ([]) (fun u L' => ∃ b, u = .iface 110 (pV b) ∧ L' = (b, pageO kd false (-1) 0) :: []) := by
 refine Tr.enter Tryz.func63 rfl Tryz.ntmps63 rfl (fun W F => ?_)
 refine Wp.app ?_
 refine zq [3,4,1,2,5,3,3,4,0,2,5,20,3,4,65,1,2,5,17,3,4,65,1,2,5,17,3,4,65,1,2,5,17,3,4,65,1,2,5,17,3,4,65,1,2,5,17,3,4,65,1,2,5,17,11,19,5,3,4,0,23] ?_
 refine zB fun b1 => ?_
 refine zq [74,1,2,5,10] ?_
 exact Ends.ret (L' := (b1, pageO kd false (-1) 0) :: []) (res1 rfl rfl) ⟨b1, rfl, rfl⟩
set_option maxHeartbeats 4000000 in
theorem tr_kFreshEp (kb : Nat) (n size : Int) : Tr Tryz.prog 63 [pV kb, .int .i64 n, .int .i64 4, .int .i64 size] ([]) (fun u L' => ∃ b nb J, u = .iface 114 (pV b) ∧ EpH ⟨0, []⟩ nb J ∧ L' = (b, .cells [pV nb].toArray 119) :: J) := by
 refine Tr.enter Tryz.func63 rfl Tryz.ntmps63 rfl (fun W F => ?_)
 refine Wp.app ?_
 refine zq [3,4,1,2,5,3,3,4,0,2,5,20,3,4,65,1,2,5,17,3,4,65,1,2,5,17,3,4,65,1,2,5,17,3,4,66,1,2,5,18,3,4] ?_
 refine zD tr_epNew ?_
 rintro _ J1 ⟨nb1, rfl, hq1⟩
 refine Ops.app ?_
 refine zq [23] ?_
 refine zB fun b1 => ?_
 refine zq [74,1,2,5,10,15,12] ?_
 exact Ends.ret (L' := (b1, .cells [pV nb1].toArray 119) :: J1) (res1 rfl rfl) ⟨b1, nb1, J1, rfl, hq1, rfl⟩
set_option maxHeartbeats 4000000 in
theorem tr_kFreshNt (kb : Nat) (n size : Int) : Tr Tryz.prog 63 [pV kb, .int .i64 n, .int .i64 5, .int .i64 size] ([]) (fun u L' => ∃ b nb J, u = .iface 120 (pV b) ∧ NtH ⟨0, [], []⟩ nb J ∧ L' = (b, .cells [pV nb].toArray 124) :: J) := by
 refine Tr.enter Tryz.func63 rfl Tryz.ntmps63 rfl (fun W F => ?_)
 refine Wp.app ?_
 refine zq [3,4,1,2,5,3,3,4,0,2,5,20,3,4,65,1,2,5,17,3,4,65,1,2,5,17,3,4,65,1,2,5,17,3,4,65,1,2,5,17,3,4,66,1,2,5,18,3,4] ?_
 refine zD tr_ntNew ?_
 rintro _ J1 ⟨nb1, rfl, hq1⟩
 refine Ops.app ?_
 refine zq [23] ?_
 refine zB fun b1 => ?_
 refine zq [74,1,2,5,10,15,12] ?_
 exact Ends.ret (L' := (b1, .cells [pV nb1].toArray 124) :: J1) (res1 rfl rfl) ⟨b1, nb1, J1, rfl, hq1, rfl⟩
set_option maxHeartbeats 4000000 in
theorem tr_kFreshThr (kb : Nat) (n size : Int) : Tr Tryz.prog 63 [pV kb, .int .i64 n, .int .i64 3, .int .i64 size] ([]) (fun u L' => ∃ b, u = .iface 94 (pV b) ∧ L' = (b, thrO ⟨0, 0, 0, false, -1, 0, 0, 0, .zero⟩ .zero (-1) (-1)) :: []) := by
 refine Tr.enter Tryz.func63 rfl Tryz.ntmps63 rfl (fun W F => ?_)
 refine Wp.app ?_
 refine zq [3,4,1,2,5,3,3,4,0,2,5,20,3,4,65,1,2,5,17,3,4,65,1,2,5,17,3,4,66,1,2,5,18,3,4] ?_
 refine zC ((tr_tNew 0 0).eq (r' := .tuple #[(⟨0, 0, 0, false, -1, 0, 0, 0, .zero⟩ : ThrM).v, .int .i64 0]) (by rw [show newTM 0 0 = (newT 0 0, 0) by decide +kernel]; rfl)) ?_
 refine zq [0,7,7] ?_
 refine zA fun b1 => ?_
 refine zq [14,1,2,5,3,4,31,23] ?_
 refine zB fun b2 => ?_
 refine zq [74,1,2,5,10,15,12] ?_
 exact Ends.ret (L' := (b2, thrO ⟨0, 0, 0, false, -1, 0, 0, 0, .zero⟩ .zero (-1) (-1)) :: []) (res1 rfl rfl) ⟨b2, rfl, rfl⟩
theorem tr_kFreshNode (k : Kn) (A : KA) (ad : Nat → Ad) (kb : Nat) (L : Hp) (hK : KH k A ad kb L) (hw : KW k) (n size : Int) : Tr Tryz.prog 63 [pV kb, .int .i64 n, .int .i64 2, .int .i64 size] (L) (fun u L' => ∃ b L1, u = .iface 224 (pV b) ∧ KH { k with p := (mNode k.p n size).2 } A ad kb L1 ∧ L' = (b, .cells [].toArray 226) :: L1) := by
 obtain ⟨Iq, Lc, Ls, Lt, E, hI, hC, hS, hT, hE, rfl⟩ := hK
 obtain ⟨sb, tb, Lx, Ly, hSx, hTx, rfl⟩ := hC
 refine Tr.enter Tryz.func63 rfl Tryz.ntmps63 rfl (fun W F => ?_)
 refine Wp.app ?_
 simp only [List.cons_append, List.append_assoc]
 refine zq [3,4,1,2,5,3,3,4,0,2,5,20,3,4,65,1,2,5,17,3,4,66,1,2,5,18,3,4,0,9,6,8,9,6] ?_
 refine Ops.pv (pv_loadK [_] rfl rfl rfl ⟨rfl, trivial⟩) rfl ?_
 refine zq [0,0] ?_
 refine zD (tr_smNode k.p.l sb Lx hSx n size) ?_
 rintro _ J1 ⟨rfl, hs1⟩
 refine Ops.app ?_
 refine zq [2,5,3,4,23] ?_
 refine zB fun b1 => ?_
 refine zq [74,1,2,5,10,15,12] ?_
 exact Ends.ret (L' := (b1, .cells [].toArray 226) :: (kb, kerO A k.wi) :: (A.ob, mapO encI (kvM ad k.mp) k.ck) :: (A.mb, .cells [.slice (some ⟨A.wb, 0, none⟩) k.ws.length k.ws.length].toArray 193) :: (A.wb, .cells (wordsC k.ws).toArray 22) :: (Iq ++ (cBlk A.cb sb tb :: (J1 ++ (Ly ++ (Ls ++ (Lt ++ E))))))) (res1 rfl rfl) ⟨b1, _, rfl, ⟨Iq, _, Ls, Lt, E, hI, ⟨sb, tb, J1, Ly, hs1, hTx, rfl⟩, hS, hT, hE, by simp only [List.cons_append, List.append_assoc]⟩, rfl⟩
theorem fresh_up {k : Kn} {A : KA} {ad : Nat → Ad} {kb : Nat} {L : Hp} (hK : KH k A ad kb L) {f : Nat} {args : List Value} {th : Th} (h : Tr Tryz.prog f args [] (fun u L' => ∃ b nb J, u = .iface th.ty (pV b) ∧ th.inn nb J ∧ L' = (b, th.obj nb) :: J)) :
    Tr Tryz.prog f args L (fun u L' => ∃ tb nb J L1, u = .iface th.ty (pV tb) ∧ th.inn nb J ∧ KH k A ad kb L1 ∧ L' = (tb, th.obj nb) :: (J ++ L1)) :=
  (h.frame (M := L) (G := L) (by simp)).mono (by
    rintro v L' ⟨L1, ⟨b, nb, J, rfl, hi, rfl⟩, rfl⟩
    exact ⟨b, nb, J, L, rfl, hi, hK, by simp⟩)
theorem tr_kFresh (k : Kn) (A : KA) (ad : Nat → Ad) (kb : Nat) (L : Hp) (hK : KH k A ad kb L) (hw : KW k) (n kd size : Int) : Tr Tryz.prog 63 [pV kb, .int .i64 n, .int .i64 kd, .int .i64 size] L (fun u L' => ∃ tb nb J L1, u = .iface (freshT kd).ty (pV tb) ∧ (freshT kd).inn nb J ∧ KH { k with p := freshP k.p n kd size } A ad kb L1 ∧ L' = (tb, (freshT kd).obj nb) :: (J ++ L1)) := by
 by_cases e2 : kd = 2
 ·
  subst e2
  refine (tr_kFreshNode k A ad kb L hK hw n size).mono ?_
  rintro v L' ⟨b, L1, rfl, h1, rfl⟩
  exact ⟨b, 0, [], L1, rfl, rfl, h1, rfl⟩
 rw [show freshP k.p n kd size = k.p from if_neg e2]
 refine fresh_up hK ?_
 by_cases e1 : kd = 1
 ·
  subst e1
  refine (tr_kFreshUnt kb n size).mono ?_
  rintro v L' ⟨b, rfl, rfl⟩; exact ⟨b, 0, [], rfl, rfl, rfl⟩
 by_cases e3 : kd = 3
 ·
  subst e3
  refine (tr_kFreshThr kb n size).mono ?_
  rintro v L' ⟨b, rfl, rfl⟩; exact ⟨b, 0, [], rfl, rfl, rfl⟩
 by_cases e4 : kd = 4
 ·
  subst e4
  refine (tr_kFreshEp kb n size).mono ?_
  rintro v L' ⟨b, nb, J, rfl, h, rfl⟩; exact ⟨b, nb, J, rfl, h, rfl⟩
 by_cases e5 : kd = 5
 ·
  subst e5
  refine (tr_kFreshNt kb n size).mono ?_
  rintro v L' ⟨b, nb, J, rfl, h, rfl⟩; exact ⟨b, nb, J, rfl, h, rfl⟩
 by_cases e8 : kd = 8
 ·
  subst e8
  refine (tr_kFreshSpc kb n size).mono ?_
  rintro v L' ⟨b, rfl, rfl⟩; exact ⟨b, 0, [], rfl, rfl, rfl⟩
 have ef : freshT kd = .page kd false (-1) 0 := by
  unfold freshT; rw [if_neg e1, if_neg e2, if_neg e3, if_neg e4, if_neg e5, if_neg e8]
 rw [ef]
 refine (tr_kFreshPage kb n size kd ⟨e1, e2, e3, e4, e5, e8⟩).mono ?_
 rintro v L' ⟨b, rfl, rfl⟩; exact ⟨b, 0, [], rfl, rfl, rfl⟩
def bitsE (kd size b : Int) : Int := if (bitsU kd size).2 = 0 ∧ (bitsU kd size).1 ≠ b then 1 else (bitsU kd size).2
def spanE (k : Kn) (kd size : Int) (q : Int × Int) : Int := if bitsE kd size q.2 = 0 then checkS q k.ws.length else bitsE kd size q.2
def createE (k : Kn) (n kd : Int) (q : Int × Int) (size : Int) : Int :=
  if n < 0 ∨ n ≥ 64 then 1 else if k.free n = false then 4 else if spanE k kd size q ≠ 0 then spanE k kd size q else if k.taken kd q = true then 7 else 0
def Kn.made (k : Kn) (n kd : Int) (q : Int × Int) (size : Int) : Kn :=
  { k with ws := if kd ≠ 1 then memZero k.ws q.1 (pw q.2) else k.ws, p := freshP k.p n kd size, ar := k.ar ++ [⟨freshT kd, q⟩], mp := k.mp ++ [(n, k.ar.length, k.ck)], ck := k.ck + 1 }
theorem create_facts {k : Kn} {n kd size : Int} {q : Int × Int} (h : createE k n kd q size = 0) :
    ¬ (n < 0 ∨ n ≥ 64) ∧ k.free n = true ∧ (bitsU kd size).2 = 0 ∧ (bitsU kd size).1 = q.2 ∧ checkS q k.ws.length = 0 ∧ k.taken kd q = false := by
  unfold createE at h
  split at h
  · cases h
  · rename_i h1
    split at h
    · cases h
    · rename_i h2
      split at h
      · rename_i h3; exact absurd h h3
      · rename_i h3
        split at h
        · cases h
        · rename_i h4
          have h5 : spanE k kd size q = 0 := Decidable.of_not_not h3
          unfold spanE at h5
          split at h5
          · rename_i h6
            unfold bitsE at h6
            split at h6
            · cases h6
            · rename_i h7
              exact ⟨h1, by simpa using h2, h6, Decidable.of_not_not (fun h8 => h7 ⟨h6, h8⟩), h5, by simpa using h4⟩
          · rename_i h6; exact absurd h5 h6
theorem free_ix {k : Kn} {n : Int} (h : k.free n = true) : k.ix n = none := by
 unfold Kn.free at h
 rw [Bool.and_eq_true] at h
 exact Option.isNone_iff_eq_none.1 h.1
theorem ix_none {k : Kn} {n : Int} (h : k.ix n = none) : ∀ e, e ∈ k.mp → n ≠ e.1 := by
 unfold Kn.ix at h
 rw [Option.map_eq_none_iff, List.find?_eq_none] at h
 intro e he; have := h e he; simpa using this
theorem mput_fresh {n : Int} {v : Value} {t : Nat} : ∀ {l : List (Int × Value × Nat)}, (∀ e, e ∈ l → n ≠ e.1) → mput n v t l = l ++ [(n, v, t)] ∧ mget n l = none
  | [], _ => ⟨rfl, rfl⟩
  | e :: l, h => by
    obtain ⟨h1, h2⟩ := mput_fresh (n := n) (v := v) (t := t) (l := l) (fun x hx => h x (List.mem_cons_of_mem _ hx))
    have h3 := h e (List.mem_cons_self ..)
    unfold mput mget
    rw [if_neg h3, if_neg h3, h1]
    exact ⟨rfl, h2⟩
theorem kv_more {k : Kn} (hw : KW k) {n : Int} (hi : k.ix n = none) (ad : Nat → Ad) (a : Ad) : mput n (pV a.ob) k.ck (kvM ad k.mp) = kvM (fset ad k.ar.length a) (k.mp ++ [(n, k.ar.length, k.ck)]) ∧ mclk n (kvM ad k.mp) k.ck = k.ck + 1 := by
 have hne : ∀ e, e ∈ kvM ad k.mp → n ≠ e.1 := fun e he => by
  obtain ⟨m, i, st, hm, rfl⟩ := kv_of he
  exact ix_none hi _ hm
 obtain ⟨h1, h2⟩ := mput_fresh (v := pV a.ob) (t := k.ck) hne
 refine ⟨?_, by unfold mclk; rw [h2]; rfl⟩
 rw [h1]
 unfold kvM
 rw [List.map_append]
 congr 1
 ·
  refine List.map_congr_left (fun e he => ?_)
  rw [fset_ne (by have := (hw.mp e he).2.2.1; omega)]
 simp [fset_same]
theorem check_in {q : Int × Int} {N : Nat} (h : checkS q N = 0) : 0 ≤ q.1 ∧ 0 ≤ q.2 ∧ q.2 ≤ 16 ∧ q.1 + pw q.2 ≤ N := by
 unfold checkS at h
 split at h
 ·
  cases h
 rename_i h1
 have h2 : inRangeS q := Decidable.of_not_not h1
 unfold inRangeS at h2
 split at h
 ·
  cases h
 split at h
 ·
  cases h
 rename_i h3
 unfold endS at h3
 omega
theorem tr_memZeroX (ws : List Int) (mb wb : Nat) (a n : Int) (hN : ws.length ≤ 65536) (h1 : 0 ≤ a) (h2 : 0 < n) (h3 : a + n ≤ ws.length) : Tr Tryz.prog 62 [memP mb, .int .i64 a, .int .i64 n] ((mb, .cells [.slice (some ⟨wb, 0, none⟩) ws.length ws.length].toArray 193) :: (wb, .cells (wordsC ws).toArray 22) :: []) (fun u L' => u = .int .i64 0 ∧ L' = (mb, .cells [.slice (some ⟨wb, 0, none⟩) ws.length ws.length].toArray 193) :: (wb, .cells (wordsC (memZero ws a n)).toArray 22) :: []) := by
 obtain ⟨x, rfl⟩ : ∃ x : Nat, a = x := ⟨a.toNat, by omega⟩
 obtain ⟨y, rfl⟩ : ∃ y : Nat, n = y := ⟨n.toNat, by omega⟩
 have := tr_memZero ws mb wb ws.length x y rfl hN (by omega) (by omega)
 rw [show memZero ws (x : Int) (y : Int) = zeroW ws x y by
  unfold memZero; rw [if_pos (by unfold memIn; omega)]; rfl]
 exact this
theorem KH_more {k : Kn} {A : KA} {ad : Nat → Ad} {kb : Nat} {Iq Lc Ls Lt E : Hp} (hw : KW k) (hI : IrqH k.q A.ib Iq) {p : PS} (hC : CapsH k.nk p A.cb Lc) (hS : SchH k.T k.e k.lf k.L A.sb Ls) (hT : TlbH k.tl A.tb Lt) (hE : EnH k.ar ad E) {n kd size : Int} {q : Int × Int} (hp : p = freshP k.p n kd size) (hi : k.ix n = none)
    {ws : List Int} (hws : ws = if kd ≠ 1 then memZero k.ws q.1 (pw q.2) else k.ws) (ob tb nb : Nat) {J : Hp} (hJ : (freshT kd).inn nb J) :
    KH (k.made n kd q size) A (fset ad k.ar.length ⟨ob, tb, nb⟩) kb ((kb, kerO A k.wi) :: (A.ob, mapO encI (mput n (pV ob) k.ck (kvM ad k.mp)) (mclk n (kvM ad k.mp) k.ck)) :: (A.mb, .cells [.slice (some ⟨A.wb, 0, none⟩) k.ws.length k.ws.length].toArray 193) :: (A.wb, .cells (wordsC ws).toArray 22) ::
      (Iq ++ (Lc ++ (Ls ++ (Lt ++ (E ++ ((ob, objO (freshT kd).ty tb q) :: (tb, (freshT kd).obj nb) :: J))))))) := by
  subst hp; subst hws
  obtain ⟨h1, h2⟩ := kv_more hw hi ad ⟨ob, tb, nb⟩
  have hl : (if kd ≠ 1 then memZero k.ws q.1 (pw q.2) else k.ws).length = k.ws.length := by split; exact memZero_len ..; rfl
  refine ⟨Iq, Lc, Ls, Lt, _, hI, hC, hS, hT, hE.more ⟨ob, tb, nb⟩ ⟨freshT kd, q⟩ hJ, ?_⟩
  unfold Kn.made
  dsimp only
  rw [← h1, h2, hl]
theorem KW.setZ {k : Kn} (h : KW k) (a n : Int) : KW { k with ws := memZero k.ws a n } := ⟨by dsimp only; rw [memZero_len]; exact h.len, h.wok.zero a n, h.nk, h.mp, h.q, h.at_, h.rw, h.rr, h.ths, h.tk⟩
set_option maxHeartbeats 16000000 in
theorem tr_kCreateZa (k : Kn) (A : KA) (ad : Nat → Ad) (kb : Nat) (L : Hp) (hK : KH k A ad kb L) (hw : KW k) (n kd : Int) (q : Int × Int) (size : Int) (hsz : I64 size) (hc : createE k n kd q size = 0) (hk1 : kd ≠ 1) : Tr Tryz.prog 27 [pV kb, .int .i64 n, .int .i64 kd, slotV q, .int .i64 size] (L) (fun u L' => u = .int .i64 0 ∧ ∃ a, KH (k.made n kd q size) A (fset ad k.ar.length a) kb L') := by
 obtain ⟨Iq, Lc, Ls, Lt, E, hI, hC, hS, hT, hE, rfl⟩ := hK
 obtain ⟨f1, f2, f3, f4, f5, f6⟩ := create_facts hc
 have hin := check_in f5
 have hpw := pw_le hin.2.2.1
 refine Tr.enter Tryz.func27 rfl Tryz.ntmps27 rfl (fun W F => ?_)
 refine Wp.app ?_
 refine Wr ?_
 refine zB fun b1 => ?_
 refine zq [1,2,5,3,20,3,4,0,42,0] ?_
 refine Ops.pvcn rfl rfl (fun hg => pv_move rfl) rfl ?_
 refine Ops.pvcn rfl rfl (fun hg => Pv.setE (t := 17) rfl (cv_pos hg) (pv_geq rfl rfl)) rfl ?_
 refine zq [47,1,2,5] ?_
 refine Wp.cond_t rfl (fun h1 => (by exfalso; first | (simp_all; done) | (simp_all; omega))) (fun h1 => ?_)
 refine zq [3,4,0,0] ?_
 refine zC ((tr_kFree k A ad kb _ ⟨Iq, Lc, Ls, Lt, E, hI, hC, hS, hT, hE, rfl⟩ hw n).eq (r' := .bool true) (by rw [f2])) ?_
 refine zq [39,1,2,5,17,11,19,5,3,4,0,0] ?_
 refine zC ((tr_uBits kd size hsz).eq (r' := .tuple #[.int .i64 q.2, .int .i64 0]) (by rw [f3, f4])) ?_
 refine zq [0,7,7,1,1,2,5,3,3,4,0,22,0] ?_
 refine Ops.pvc rfl rfl (fun hg => pv_move rfl) rfl ?_
 refine Ops.pvc rfl rfl (fun hg => Pv.setE (t := 34) rfl (cv_pos hg) (pv_fieldAddr0 rfl rfl)) rfl ?_
 refine Ops.pvc rfl rfl (fun hg => Pv.setE (t := 34) rfl (cv_pos hg) (Pv.setE (t := 35) rfl (cv_pos hg) (pv_load rfl rfl rfl))) rfl ?_
 refine Ops.pvc rfl rfl (fun hg => Pv.setE (t := 34) rfl (cv_pos hg) (Pv.setE (t := 35) rfl (cv_pos hg) (Pv.setE (t := 36) rfl (cv_pos hg) (pv_neq rfl rfl)))) rfl ?_
 refine zq [46,2,5] ?_
 refine Wp.cond_t rfl (fun h2 => (by exfalso; simp_all; done)) (fun h2 => ?_)
 refine zq [11,5,3,3,4,0,66,2,5,18] ?_
 refine AnyH.start [(kb, kerO A k.wi), (b1, .cells [.int .i64 q.1, .int .i64 q.2].toArray 42)] 8 rfl ?_
 refine zd [0,10,1,1,2,3,3,0,4,2] ?_
 refine AnyH.one 5 (by kernel_rfl) ?_
 refine Turn.ef rfl rfl (ef_callr (tr_memSize k.ws A.mb A.wb k.ws.length) rfl rfl) ?_ ?_
 ·
  rintro _ _ ⟨rfl, rfl⟩; infer_instance
 rintro _ _ ⟨rfl, rfl⟩
 refine AnyH.one 6 (by kernel_rfl) ?_
 refine Turn.ef rfl rfl (ef_callr ((tr_spCheck q k.ws.length).eq (r' := .int .i64 0) (by rw [f5])) rfl rfl) ?_ ?_
 ·
  rintro _ _ ⟨rfl, rfl⟩; infer_instance
 rintro _ _ ⟨rfl, rfl⟩
 refine zd [7,5] ?_
 refine AnyH.done (by kernel_rfl) ?_
 refine zq [5,3,20,3,4,0,67,1,2,5,17,3,4,0,0,30] ?_
 refine zC ((tr_kTaken k A ad kb E hE hw kd q).eq (r' := .bool false) (by rw [f6])) ?_
 refine zq [1,2,5,17,3,4,0,68,1,2,5,18] ?_
 refine AnyH.start [(kb, kerO A k.wi), (b1, .cells [.int .i64 q.1, .int .i64 q.2].toArray 42)] 10 rfl ?_
 refine zd [0,1,1,3,2,0,3,2,4,0,5,2,6,0,7,2] ?_
 refine Tk 8 rfl rfl (pv_shl rfl rfl hin.2.1 (sh1i hin.2.1 hin.2.2.1)) rfl ?_
 refine AnyH.one 9 (by kernel_rfl) ?_
 refine Turn.ef rfl rfl (ef_call (tr_memZeroX k.ws A.mb A.wb q.1 (pw q.2) hw.len.2 hin.1 (by omega) hin.2.2.2) rfl rfl) ?_ ?_
 ·
  rintro _ _ ⟨_, _, ⟨rfl, rfl⟩, rfl, rfl⟩; infer_instance
 rintro _ _ ⟨_, _, ⟨rfl, rfl⟩, rfl, rfl⟩
 refine AnyH.app ?_
 refine AnyH.done (by kernel_rfl) ?_
 refine zq [19,5,3] ?_
 refine AnyH.start [(b1, .cells [.int .i64 q.1, .int .i64 q.2].toArray 42)] 14 rfl ?_
 refine zd [0,1,1,3,2,0,4,1,5,1,6,1,7,1,8,1,10,10] ?_
 refine AnyH.two 3 9 (by kernel_rfl) ?_ ?_
 ·
  refine Turn.ef rfl rfl (ef_pv (pv_load rfl rfl rfl) rfl) ?_ ?_
  ·
   rintro _ _ ⟨rfl, rfl⟩; infer_instance
  rintro _ _ ⟨rfl, rfl⟩
  refine AnyH.one 9 (by kernel_rfl) ?_
  refine Turn.ef rfl rfl (ef_call (tr_kFresh { k with ws := (memZero k.ws q.1 (pw q.2)) } A ad kb ((kb, kerO A k.wi) :: (A.ob, mapO encI (kvM ad k.mp) k.ck) :: (A.mb, .cells [.slice (some ⟨A.wb, 0, none⟩) k.ws.length k.ws.length].toArray 193) :: (A.wb, .cells (wordsC (memZero k.ws q.1 (pw q.2))).toArray 22) :: (Iq ++ (Lc ++ (Ls ++ (Lt ++ E))))) (KH_ws hI hC hS hT hE (memZero_len ..)) (hw.setZ _ _) n kd size) rfl rfl) ?_ ?_
  ·
   rintro _ _ ⟨_, _, ⟨tb1, nb1, J1, M1, rfl, hj1, hk1, rfl⟩, rfl, rfl⟩; infer_instance
  rintro _ _ ⟨_, _, ⟨tb1, nb1, J1, M1, rfl, hj1, hk1, rfl⟩, rfl, rfl⟩
  refine AnyH.app ?_
  obtain ⟨Iq1, Lc1, Ls1, Lt1, E1, hI1, hC1, hS1, hT1, hE1, rfl⟩ := hk1
  simp only [List.cons_append, List.append_assoc, memZero_len]
  refine zd [11,9] ?_
  refine AnyH.one 12 (by kernel_rfl) ?_
  refine Turn.ef rfl rfl (ef_boxK rfl rfl) ?_ ?_
  ·
   rintro _ _ ⟨b2, rfl, rfl⟩; infer_instance
  rintro _ _ ⟨b2, rfl, rfl⟩
  refine AnyH.one 13 (by kernel_rfl) ?_
  refine Turn.ef rfl rfl (ef_mapUpdate_i _ rfl rfl rfl) ?_ ?_
  ·
   rintro _ _ ⟨rfl, rfl⟩; infer_instance
  rintro _ _ ⟨rfl, rfl⟩
  refine AnyH.done (by kernel_rfl) ?_
  refine zq [5,3,4,1,2,5,10] ?_
  exact zr (L' := (kb, kerO A k.wi) :: (A.ob, mapO encI (mput n (pV b2) k.ck (kvM ad k.mp)) (mclk n (kvM ad k.mp) k.ck)) :: (A.mb, .cells [.slice (some ⟨A.wb, 0, none⟩) k.ws.length k.ws.length].toArray 193) :: (A.wb, .cells (wordsC (memZero k.ws q.1 (pw q.2))).toArray 22) :: (Iq1 ++ (Lc1 ++ (Ls1 ++ (Lt1 ++ (E1 ++ ((b2, objO (freshT kd).ty tb1 q) :: (tb1, (freshT kd).obj nb1) :: J1))))))) ⟨rfl, _, KH_more hw hI1 hC1 hS1 hT1 hE1 rfl (free_ix f2) (if_pos hk1).symm b2 tb1 nb1 hj1⟩
 refine Turn.ef rfl rfl (ef_call (tr_kFresh { k with ws := (memZero k.ws q.1 (pw q.2)) } A ad kb ((kb, kerO A k.wi) :: (A.ob, mapO encI (kvM ad k.mp) k.ck) :: (A.mb, .cells [.slice (some ⟨A.wb, 0, none⟩) k.ws.length k.ws.length].toArray 193) :: (A.wb, .cells (wordsC (memZero k.ws q.1 (pw q.2))).toArray 22) :: (Iq ++ (Lc ++ (Ls ++ (Lt ++ E))))) (KH_ws hI hC hS hT hE (memZero_len ..)) (hw.setZ _ _) n kd size) rfl rfl) ?_ ?_
 ·
  rintro _ _ ⟨_, _, ⟨tb2, nb2, J2, M2, rfl, hj2, hk2, rfl⟩, rfl, rfl⟩; infer_instance
 rintro _ _ ⟨_, _, ⟨tb2, nb2, J2, M2, rfl, hj2, hk2, rfl⟩, rfl, rfl⟩
 refine AnyH.app ?_
 obtain ⟨Iq1, Lc1, Ls1, Lt1, E1, hI1, hC1, hS1, hT1, hE1, rfl⟩ := hk2
 simp only [List.cons_append, List.append_assoc, memZero_len]
 refine zd [11,9] ?_
 refine AnyH.two 3 12 (by kernel_rfl) ?_ ?_
 ·
  refine Turn.ef rfl rfl (ef_pv (pv_load rfl rfl rfl) rfl) ?_ ?_
  ·
   rintro _ _ ⟨rfl, rfl⟩; infer_instance
  rintro _ _ ⟨rfl, rfl⟩
  refine AnyH.one 12 (by kernel_rfl) ?_
  refine Turn.ef rfl rfl (ef_boxK rfl rfl) ?_ ?_
  ·
   rintro _ _ ⟨b3, rfl, rfl⟩; infer_instance
  rintro _ _ ⟨b3, rfl, rfl⟩
  refine AnyH.one 13 (by kernel_rfl) ?_
  refine Turn.ef rfl rfl (ef_mapUpdate_i _ rfl rfl rfl) ?_ ?_
  ·
   rintro _ _ ⟨rfl, rfl⟩; infer_instance
  rintro _ _ ⟨rfl, rfl⟩
  refine AnyH.done (by kernel_rfl) ?_
  refine zq [5,3,4,1,2,5,10] ?_
  exact zr (L' := (kb, kerO A k.wi) :: (A.ob, mapO encI (mput n (pV b3) k.ck (kvM ad k.mp)) (mclk n (kvM ad k.mp) k.ck)) :: (A.mb, .cells [.slice (some ⟨A.wb, 0, none⟩) k.ws.length k.ws.length].toArray 193) :: (A.wb, .cells (wordsC (memZero k.ws q.1 (pw q.2))).toArray 22) :: (Iq1 ++ (Lc1 ++ (Ls1 ++ (Lt1 ++ (E1 ++ ((b3, objO (freshT kd).ty tb2 q) :: (tb2, (freshT kd).obj nb2) :: J2))))))) ⟨rfl, _, KH_more hw hI1 hC1 hS1 hT1 hE1 rfl (free_ix f2) (if_pos hk1).symm b3 tb2 nb2 hj2⟩
 refine Turn.ef rfl rfl (ef_boxK rfl rfl) ?_ ?_
 ·
  rintro _ _ ⟨b4, rfl, rfl⟩; infer_instance
 rintro _ _ ⟨b4, rfl, rfl⟩
 refine AnyH.one 3 (by kernel_rfl) ?_
 refine Turn.ef rfl rfl (ef_pv (pv_load rfl rfl rfl) rfl) ?_ ?_
 ·
  rintro _ _ ⟨rfl, rfl⟩; infer_instance
 rintro _ _ ⟨rfl, rfl⟩
 refine AnyH.one 13 (by kernel_rfl) ?_
 refine Turn.ef rfl rfl (ef_mapUpdate_i _ rfl rfl rfl) ?_ ?_
 ·
  rintro _ _ ⟨rfl, rfl⟩; infer_instance
 rintro _ _ ⟨rfl, rfl⟩
 refine AnyH.done (by kernel_rfl) ?_
 refine zq [5,3,4,1,2,5,10] ?_
 exact zr (L' := (kb, kerO A k.wi) :: (A.ob, mapO encI (mput n (pV b4) k.ck (kvM ad k.mp)) (mclk n (kvM ad k.mp) k.ck)) :: (A.mb, .cells [.slice (some ⟨A.wb, 0, none⟩) k.ws.length k.ws.length].toArray 193) :: (A.wb, .cells (wordsC (memZero k.ws q.1 (pw q.2))).toArray 22) :: (Iq1 ++ (Lc1 ++ (Ls1 ++ (Lt1 ++ (E1 ++ ((b4, objO (freshT kd).ty tb2 q) :: (tb2, (freshT kd).obj nb2) :: J2))))))) ⟨rfl, _, KH_more hw hI1 hC1 hS1 hT1 hE1 rfl (free_ix f2) (if_pos hk1).symm b4 tb2 nb2 hj2⟩
theorem tr_kCreateZ (k : Kn) (A : KA) (ad : Nat → Ad) (kb : Nat) (L : Hp) (hK : KH k A ad kb L) (hw : KW k) (n kd : Int) (q : Int × Int) (size : Int) (hsz : I64 size) (hc : createE k n kd q size = 0) (hk1 : kd ≠ 1) : Tr Tryz.prog 27 [pV kb, .int .i64 n, .int .i64 kd, slotV q, .int .i64 size] L (fun u L' => u = .int .i64 0 ∧ ∃ ad', KH (k.made n kd q size) A ad' kb L') := (tr_kCreateZa k A ad kb L hK hw n kd q size hsz hc hk1).mono (fun v L' ⟨h1, a, h2⟩ => ⟨h1, _, h2⟩)
end Go.Proofs.YtipncceiekalfaaGreat
end
section
set_option linter.unusedVariables false
set_option linter.unusedSimpArgs false
set_option linter.unusedSectionVars false
namespace Go.Proofs.YtipncceiekalfaaGreat
open Go.SL
abbrev clrV (kb : Nat) (n : Int) (tb : Nat) : Value := .agg #[pV kb, .int .i64 n, pV tb]
def Kn.tell (k : Kn) (i : Nat) (e : Int) : Kn := k.setI i (fun t => { t with regs := ansR t.regs e })
theorem tr_sYield (sb : Nat) (H : Hp) (T : Ones) (e : Nat) (l : Int) (L : Nat → Ones) (hH : SchH T e l L sb H) (hA : At T e l) (hW : RdysW L) (hl : RdysL L (2 ^ 20)) (x : Int) : Tr Tryz.prog 106 [.pointer (some ⟨sb, 0, none⟩), .int .i64 x] (H) (fun u L' => u = .bool (findM L x).isSome ∧ SchH T e l (syL L x) sb L') := by
 cases hf : findM L x with
 | none =>
  have e2 : syL L x = L := by unfold syL; rw [hf]
  rw [e2]; exact tr_sYield_none sb H T e l L hH hA hW hl x hf
 | some dk =>
  obtain ⟨d, k⟩ := dk
  have e2 : syL L x = fset L d (putR (dropR (L d) x) x k) := by unfold syL; rw [hf]
  rw [e2]; exact tr_sYield_some sb H T e l L hH hA hW hl x d k hf
set_option maxHeartbeats 8000000 in
theorem tr_cTell (k : Kn) (A : KA) (ad : Nat → Ad) (kb : Nat) (L : Hp) (hK : KH k A ad kb L) (hw : KW k) (n : Int) {i : Nat} {t : ThrM} {c : CapM} {s b : Int} {sp : Int × Int} (he : k.ar[i]? = some ⟨.thr t c s b, sp⟩) (e : Int) (he9 : 0 ≤ e ∧ e < 100) : Tr Tryz.prog 144 [clrV kb n (ad i).tb, .int .i64 e] (L) (fun u L' => u = .tuple #[] ∧ KH (k.tell i e) A ad kb L') := by
 obtain ⟨Iq, Lc, Ls, Lt, E, hI, hC, hS, hT, hE, rfl⟩ := hK
 have hE0 := hE
 obtain ⟨G, R, rfl, hU, hB, hP, hEb⟩ := hE.thr he
 haveI := hU; haveI := hB; haveI := hP
 refine Tr.enter Tryz.func144 rfl Tryz.ntmps144 rfl (fun W F => ?_)
 refine Wp.app ?_
 refine Wr ?_
 refine zB fun b1 => ?_
 refine On ?_
 refine AnyH.start [(b1, .cells [pV kb, .int .i64 n, pV (ad i).tb].toArray 174)] 14 rfl ?_
 refine zd [0,0,1,2,2,0,3,2,4,3,5,0,6,0,8,1] ?_
 refine AnyH.one 7 (by kernel_rfl) ?_
 refine Turn.ef rfl rfl (ef_pv (pv_loadK [_, _, _, _, _, _, _, _] rfl rfl rfl ⟨rfl, rfl, rfl, rfl, rfl, rfl, rfl, rfl, trivial⟩) rfl) ?_ ?_
 ·
  rintro _ _ ⟨rfl, rfl⟩; infer_instance
 rintro _ _ ⟨rfl, rfl⟩
 refine AnyH.one 9 (by kernel_rfl) ?_
 refine Turn.ef rfl rfl (ef_callr (tr_answered t.regs e he9) rfl rfl) ?_ ?_
 ·
  rintro _ _ ⟨rfl, rfl⟩; infer_instance
 rintro _ _ ⟨rfl, rfl⟩
 refine zd [10,3,11,0,12,0] ?_
 refine zK 13 ?_
 refine AnyH.done (by kernel_rfl) ?_
 rw [show k.tell i e = { k with ar := setA k.ar i (.thr { t with regs := ansR t.regs e } c s b) } from setI_eq he _]
 exact zf (L' := (kb, kerO A k.wi) :: (A.ob, mapO encI (kvM ad k.mp) k.ck) :: (A.mb, .cells [.slice (some ⟨A.wb, 0, none⟩) k.ws.length k.ws.length].toArray 193) :: (A.wb, .cells (wordsC k.ws).toArray 22) :: (Iq ++ (Lc ++ (Ls ++ (Lt ++ (G (thrO { t with regs := ansR t.regs e } c s b))))))) ⟨rfl, Iq, Lc, Ls, Lt, _, hI, hC, hS, hT, hEb { t with regs := ansR t.regs e } c s b, rfl⟩
set_option maxHeartbeats 8000000 in
theorem tr_cYield (k : Kn) (A : KA) (ad : Nat → Ad) (kb : Nat) (L : Hp) (hK : KH k A ad kb L) (hw : KW k) (n : Int) {i : Nat} {t : ThrM} {c : CapM} {s b : Int} {sp : Int × Int} (he : k.ar[i]? = some ⟨.thr t c s b, sp⟩) : Tr Tryz.prog 79 [clrV kb n (ad i).tb, .int .u64 7] (L) (fun u L' => u = .bool false ∧ KH (({ k with L := syL k.L n } : Kn).tell i 0) A ad kb L') := by
 obtain ⟨Iq, Lc, Ls, Lt, E, hI, hC, hS, hT, hE, rfl⟩ := hK
 refine Tr.enter Tryz.func79 rfl Tryz.ntmps79 rfl (fun W F => ?_)
 refine Wp.app ?_
 have hwy : KW { k with L := syL k.L n } := hw.setL (syW hw.rw n) (syR hw.rr n)
 refine Wr ?_
 refine zB fun b1 => ?_
 refine zq [1,2,5,3,3,4,0,2,5,20,3,3,4,65,1,2,5,17,3,4,65,1,2,5,17,4,65,1,2,5,17,3,3,4,65,1,2,5,17,4,65,1,2,5,17,3,4,65,1,2,5,17,3,4,65,1,2,5,17,3,4,66,1,2,5,18,3] ?_
 refine AnyH.start [(kb, kerO A k.wi), (b1, .cells [pV kb, .int .i64 n, pV (ad i).tb].toArray 174)] 8 rfl ?_
 refine zd [0,0,1,2,2,3,3,0,4,2,5,0,6,2] ?_
 refine AnyH.one 7 (by kernel_rfl) ?_
 refine Turn.ef rfl rfl (ef_call (tr_sYield _ Ls k.T k.e k.lf k.L hS hw.at_ hw.rw (hw.rl (by decide)) n) rfl rfl) ?_ ?_
 ·
  rintro _ _ ⟨_, J1, ⟨rfl, hs1⟩, rfl, rfl⟩; infer_instance
 rintro _ _ ⟨_, J1, ⟨rfl, hs1⟩, rfl, rfl⟩
 refine AnyH.app ?_
 refine AnyH.done (by kernel_rfl) ?_
 refine zq [5,4,29] ?_
 refine zD (tr_cTell { k with L := syL k.L n } A ad kb ((kb, kerO A k.wi) :: (A.ob, mapO encI (kvM ad k.mp) k.ck) :: (A.mb, .cells [.slice (some ⟨A.wb, 0, none⟩) k.ws.length k.ws.length].toArray 193) :: (A.wb, .cells (wordsC k.ws).toArray 22) :: (Iq ++ (Lc ++ (J1 ++ (Lt ++ E))))) ⟨Iq, Lc, J1, Lt, E, hI, hC, hs1, hT, hE, rfl⟩ hwy n he 0 (by decide)) ?_
 rintro _ M1 ⟨rfl, hk1⟩
 refine Ops.app ?_
 refine zq [2,19,5,3,4,1,2,5,10] ?_
 exact zr (L' := M1) ⟨rfl, hk1⟩
end Go.Proofs.YtipncceiekalfaaGreat
end
section
set_option linter.unusedVariables false
set_option linter.unusedSimpArgs false
set_option linter.unusedSectionVars false
namespace Go.Proofs.YtipncceiekalfaaGreat
open Go.SL
def Kn.word (k : Kn) (i : Nat) (w : Int) : Kn := k.setI i (fun t => { t with regs := { ansR t.regs 0 with r5 := w } })
theorem setA_twice (ar : List En) (i : Nat) (a b : Th) : setA (setA ar i a) i b = setA ar i b := by
 refine List.ext_getElem? (fun j => ?_)
 by_cases e : j = i
 ·
  subst e
  cases h : ar[j]? with
  | none => unfold setA; simp [h]
  | some en => rw [setA_same (setA_same h a) b, setA_same h b]
 rw [setA_ne e, setA_ne e, setA_ne e]
def Kn.wait (k : Kn) (i : Nat) (n st on badge : Int) (calls : Bool) : Kn := match k.thI i with
  | none => k
  | some x => if (blockTM x.1 st on badge calls).2 = 0 then k.be n (blockTM x.1 st on badge calls).1 else k
set_option maxHeartbeats 8000000 in
theorem tr_cWait (k : Kn) (A : KA) (ad : Nat → Ad) (kb : Nat) (L : Hp) (hK : KH k A ad kb L) (hw : KW k) (n : Int) {i : Nat} {t : ThrM} {c : CapM} {s b : Int} {sp : Int × Int} (he : k.ar[i]? = some ⟨.thr t c s b, sp⟩) (hi : k.ix n = some i) (st on badge : Int) (calls : Bool) : Tr Tryz.prog 183 [clrV kb n (ad i).tb, .int .i64 st, .int .i64 on, .int .u64 badge, .bool calls] (L) (fun u L' => u = .tuple #[] ∧ KH (k.wait i n st on badge calls) A ad kb L') := by
 obtain ⟨Iq, Lc, Ls, Lt, E, hI, hC, hS, hT, hE, rfl⟩ := hK
 have hE0 := hE
 obtain ⟨G, R, rfl, hU, hB, hP, hEb⟩ := hE.thr he
 haveI := hU; haveI := hB; haveI := hP
 have ew : k.wait i n st on badge calls = if (blockTM t st on badge calls).2 = 0 then k.be n (blockTM t st on badge calls).1 else k := by unfold Kn.wait; rw [thI_eq he]
 rw [ew]
 refine Tr.enter Tryz.func183 rfl Tryz.ntmps183 rfl (fun W F => ?_)
 refine Wp.app ?_
 refine Wr ?_
 refine zB fun b1 => ?_
 refine zq [2,5,3,4,6,8,9,6,31,0,0,0,0] ?_
 refine zC (tr_tBlock t st on badge calls) ?_
 refine zq [0,7,7] ?_
 refine zA fun b2 => ?_
 refine zq [14,1,2,5,3,4,0,22,2,5] ?_
 refine Wp.cond_dect rfl (fun h1 => ?_) (fun h1 => ?_)
 ·
  refine zq [4,6,8,6,8,31] ?_
  refine zD (tr_kBe k A ad kb _ ⟨Iq, Lc, Ls, Lt, _, hI, hC, hS, hT, hE0, rfl⟩ hw n hi he (blockTM t st on badge calls).1) ?_
  rintro _ J1 ⟨rfl, hk1⟩
  refine Ops.app ?_
  refine Ops.nil ?_
  rw [if_pos (by assumption)]
  exact zf (L' := J1) ⟨rfl, hk1⟩
 refine Wp.skip ?_
 rw [if_neg (by assumption)]
 exact zf (L' := (kb, kerO A k.wi) :: (A.ob, mapO encI (kvM ad k.mp) k.ck) :: (A.mb, .cells [.slice (some ⟨A.wb, 0, none⟩) k.ws.length k.ws.length].toArray 193) :: (A.wb, .cells (wordsC k.ws).toArray 22) :: (Iq ++ (Lc ++ (Ls ++ (Lt ++ (G (thrO t c s b))))))) ⟨rfl, Iq, Lc, Ls, Lt, _, hI, hC, hS, hT, hE0, rfl⟩
set_option maxHeartbeats 8000000 in
theorem tr_cWord (k : Kn) (A : KA) (ad : Nat → Ad) (kb : Nat) (L : Hp) (hK : KH k A ad kb L) (hw : KW k) (n : Int) {i : Nat} {t : ThrM} {c : CapM} {s b : Int} {sp : Int × Int} (he : k.ar[i]? = some ⟨.thr t c s b, sp⟩) (w : Int) : Tr Tryz.prog 185 [clrV kb n (ad i).tb, .int .u64 w] (L) (fun u L' => u = .tuple #[] ∧ KH (k.word i w) A ad kb L') := by
 have he1 : (k.tell i 0).ar[i]? = some ⟨.thr { t with regs := ansR t.regs 0 } c s b, sp⟩ := setI_get he _
 have ew : k.word i w = { k with ar := setA k.ar i (.thr { t with regs := { ansR t.regs 0 with r5 := w } } c s b) } := setI_eq he _
 have et : (k.tell i 0) = { k with ar := setA k.ar i (.thr { t with regs := ansR t.regs 0 } c s b) } := setI_eq he _
 refine Tr.enter Tryz.func185 rfl Tryz.ntmps185 rfl (fun W F => ?_)
 refine Wp.app ?_
 refine Wr ?_
 refine zB fun b1 => ?_
 refine zq [2,5,3,4,29] ?_
 refine zD (tr_cTell k A ad kb L hK hw n he 0 (by decide)) ?_
 rintro _ _ ⟨rfl, hk1⟩
 refine Ops.app ?_
 obtain ⟨Iq, Lc, Ls, Lt, E, hI, hC, hS, hT, hE, rfl⟩ := hk1
 obtain ⟨G, R, rfl, hU, hB, hP, hEb⟩ := hE.thr he1
 haveI := hU; haveI := hB; haveI := hP
 refine Ops.app ?_
 refine zq [2,5,4,6,8,0,9,6,6] ?_
 refine Ops.pv (pv_indexAddrN (i := 5) (o2 := 13) rfl rfl rfl (by decide) (by rfl)) rfl ?_
 refine zq [25,2] ?_
 rw [ew]
 have hEc := hEb { t with regs := { ansR t.regs 0 with r5 := w } } c s b
 rw [et] at hI hC hS hT hEc ⊢
 rw [show setA (setA k.ar i (.thr { t with regs := ansR t.regs 0 } c s b)) i (.thr { t with regs := { ansR t.regs 0 with r5 := w } } c s b) = setA k.ar i (.thr { t with regs := { ansR t.regs 0 with r5 := w } } c s b) from setA_twice ..] at hEc
 exact zf (L' := (kb, kerO A k.wi) :: (A.ob, mapO encI (kvM ad k.mp) k.ck) :: (A.mb, .cells [.slice (some ⟨A.wb, 0, none⟩) k.ws.length k.ws.length].toArray 193) :: (A.wb, .cells (wordsC k.ws).toArray 22) :: (Iq ++ (Lc ++ (Ls ++ (Lt ++ (G (thrO { t with regs := { ansR t.regs 0 with r5 := w } } c s b))))))) ⟨rfl, Iq, Lc, Ls, Lt, _, hI, hC, hS, hT, hEc, rfl⟩
end Go.Proofs.YtipncceiekalfaaGreat
end
section
set_option linter.unusedVariables false
set_option linter.unusedSimpArgs false
set_option linter.unusedSectionVars false
namespace Go.Proofs.YtipncceiekalfaaGreat
open Go.SL
section
attribute [local semireducible] Tr
theorem _root_.Go.SL.Tr.conv {P : Program} {f : FuncId} {args : List Value} {L J G : Hp} {R R' : Value → Hp → Prop} (h : Tr P f args J R) (hp : L.Perm (J ++ G)) (hb : ∀ v J', R v J' → ∃ L', R' v L' ∧ (J' ++ G).Perm L') : Tr P f args L R' := fun W w F ho => by
 have ho2 : Own W w (J ++ (G ++ F)) := ho.perm (by rw [← List.append_assoc]; exact hp.append_right F)
 refine (h W w (G ++ F) ho2).mono ?_
 rintro e' w' ⟨v, J', he, hR, ho'⟩
 obtain ⟨L', h1, h2⟩ := hb v J' hR
 exact ⟨v, L', he, h1, ho'.perm (by rw [← List.append_assoc]; exact h2.append_right F)⟩
end
theorem _root_.Go.SL.TrR.conv {P : Program} {f : FuncId} {args : List Value} {L J G : Hp} {r : Value} (h : TrR P f args J r) (hp : L.Perm (J ++ G)) : TrR P f args L r :=
  Tr.conv h hp (by rintro v J' ⟨rfl, rfl⟩; exact ⟨L, ⟨rfl, rfl⟩, hp.symm⟩)
theorem pull {A E J R : Hp} (h : E.Perm (J ++ R)) : (A ++ E).Perm (J ++ (A ++ R)) := (h.append_left A).trans (List.perm_append_comm_assoc ..)
theorem push {A E J R : Hp} (h : (J ++ R).Perm E) : (J ++ (A ++ R)).Perm (A ++ E) := (List.perm_append_comm_assoc ..).trans (h.append_left A)
abbrev hd4 (k : Kn) (A : KA) (ad : Nat → Ad) (kb : Nat) : Hp := [(kb, kerO A k.wi), (A.ob, mapO encI (kvM ad k.mp) k.ck), (A.mb, .cells [.slice (some ⟨A.wb, 0, none⟩) k.ws.length k.ws.length].toArray 193), (A.wb, .cells (wordsC k.ws).toArray 22)]
section
variable {k : Kn} {A : KA} {ad : Nat → Ad} {kb : Nat} {L : Hp} (hK : KH k A ad kb L)
include hK
theorem KH.kblk : Blk L kb (kerO A k.wi) := by
 obtain ⟨Iq, Lc, Ls, Lt, E, hI, hC, hS, hT, hE, rfl⟩ := hK
 infer_instance
theorem KH.oblk : Blk L A.ob (mapO encI (kvM ad k.mp) k.ck) := by
 obtain ⟨Iq, Lc, Ls, Lt, E, hI, hC, hS, hT, hE, rfl⟩ := hK
 infer_instance
theorem KH.tb {i : Nat} {en : En} (he : k.ar[i]? = some en) : Blk L (ad i).tb (en.th.obj (ad i).nb) := by
 obtain ⟨Iq, Lc, Ls, Lt, E, hI, hC, hS, hT, hE, rfl⟩ := hK
 haveI := hE.tb he
 infer_instance
theorem KH.ob {i : Nat} {en : En} (he : k.ar[i]? = some en) : Blk L (ad i).ob (objO en.th.ty (ad i).tb en.sp) := by
 obtain ⟨Iq, Lc, Ls, Lt, E, hI, hC, hS, hT, hE, rfl⟩ := hK
 haveI := hE.ob he
 infer_instance
theorem KH.thr {i : Nat} {t : ThrM} {c : CapM} {s b : Int} {sp : Int × Int} (he : k.ar[i]? = some ⟨.thr t c s b, sp⟩) : Blk L (ad i).tb (thrO t c s b) := hK.tb he
theorem KH.upd {i : Nat} {en : En} (he : k.ar[i]? = some en) :
    ∃ (G : Obj → Hp) (R : Hp), L = G (en.th.obj (ad i).nb) ∧ (∀ o o', Upd (G o) (ad i).tb o' (G o')) ∧ (∀ o, Blk (G o) (ad i).tb o) ∧ (∀ o, Take (G o) (ad i).tb o R) ∧
      ∀ th', en.th.like th' → KH { k with ar := setA k.ar i th' } A ad kb (G (th'.obj (ad i).nb)) := by
  obtain ⟨Iq, Lc, Ls, Lt, E, hI, hC, hS, hT, hE, rfl⟩ := hK
  obtain ⟨G, R, h0, h1, h2, h3, h4⟩ := hE.upd he
  subst h0
  refine ⟨fun o => (kb, kerO A k.wi) :: (A.ob, mapO encI (kvM ad k.mp) k.ck) :: (A.mb, .cells [.slice (some ⟨A.wb, 0, none⟩) k.ws.length k.ws.length].toArray 193) :: (A.wb, .cells (wordsC k.ws).toArray 22) :: (Iq ++ (Lc ++ (Ls ++ (Lt ++ G o)))),
    (kb, kerO A k.wi) :: (A.ob, mapO encI (kvM ad k.mp) k.ck) :: (A.mb, .cells [.slice (some ⟨A.wb, 0, none⟩) k.ws.length k.ws.length].toArray 193) :: (A.wb, .cells (wordsC k.ws).toArray 22) :: (Iq ++ (Lc ++ (Ls ++ (Lt ++ R)))), rfl, fun o o' => ?_, fun o => ?_, fun o => ?_, fun th' hl => ⟨Iq, Lc, Ls, Lt, _, hI, hC, hS, hT, h4 th' hl, rfl⟩⟩
  · haveI := h1 o o'; dsimp only; infer_instance
  · haveI := h2 o; dsimp only; infer_instance
  · haveI := h3 o; dsimp only; infer_instance
theorem KH.thrU {i : Nat} {t : ThrM} {c : CapM} {s b : Int} {sp : Int × Int} (he : k.ar[i]? = some ⟨.thr t c s b, sp⟩) :
    ∃ (G : Obj → Hp) (R : Hp), L = G (thrO t c s b) ∧ (∀ o o', Upd (G o) (ad i).tb o' (G o')) ∧ (∀ o, Blk (G o) (ad i).tb o) ∧ (∀ o, Take (G o) (ad i).tb o R) ∧
      ∀ t' c' s' b', KH { k with ar := setA k.ar i (.thr t' c' s' b') } A ad kb (G (thrO t' c' s' b')) := by
  obtain ⟨G, R, h0, h1, h2, h3, h4⟩ := hK.upd he
  exact ⟨G, R, h0, h1, h2, h3, fun t' c' s' b' => h4 (.thr t' c' s' b') trivial⟩
theorem KH.epI {j : Nat} {S : Ep} {sp : Int × Int} (he : k.ar[j]? = some ⟨.ep S, sp⟩) :
    ∃ J R, EpH S (ad j).nb J ∧ L.Perm (J ++ R) ∧ ∀ S' J', EpH S' (ad j).nb J' → ∃ L', KH { k with ar := setA k.ar j (.ep S') } A ad kb L' ∧ (J' ++ R).Perm L' := by
  obtain ⟨Iq, Lc, Ls, Lt, E, hI, hC, hS, hT, hE, rfl⟩ := hK
  obtain ⟨J, R, h1, h2, h3, h4⟩ := hE.ep he
  refine ⟨J, hd4 k A ad kb ++ (Iq ++ (Lc ++ (Ls ++ (Lt ++ R)))), h1, ?_, fun S' J' hJ => ?_⟩
  · exact pull (A := hd4 k A ad kb) (pull (pull (pull (pull h2))))
  · obtain ⟨E', hE', hp⟩ := h4 S' J' hJ
    exact ⟨_, ⟨Iq, Lc, Ls, Lt, E', hI, hC, hS, hT, hE', rfl⟩, push (A := hd4 k A ad kb) (push (push (push (push hp))))⟩
theorem KH.ntI {j : Nat} {S : Nt} {sp : Int × Int} (he : k.ar[j]? = some ⟨.nt S, sp⟩) :
    ∃ J R, NtH S (ad j).nb J ∧ L.Perm (J ++ R) ∧ ∀ S' J', NtH S' (ad j).nb J' → ∃ L', KH { k with ar := setA k.ar j (.nt S') } A ad kb L' ∧ (J' ++ R).Perm L' := by
  obtain ⟨Iq, Lc, Ls, Lt, E, hI, hC, hS, hT, hE, rfl⟩ := hK
  obtain ⟨J, R, h1, h2, h3, h4⟩ := hE.nt he
  refine ⟨J, hd4 k A ad kb ++ (Iq ++ (Lc ++ (Ls ++ (Lt ++ R)))), h1, ?_, fun S' J' hJ => ?_⟩
  · exact pull (A := hd4 k A ad kb) (pull (pull (pull (pull h2))))
  · obtain ⟨E', hE', hp⟩ := h4 S' J' hJ
    exact ⟨_, ⟨Iq, Lc, Ls, Lt, E', hI, hC, hS, hT, hE', rfl⟩, push (A := hd4 k A ad kb) (push (push (push (push hp))))⟩
theorem KH.caps : ∃ J R, CapsH k.nk k.p A.cb J ∧ L.Perm (J ++ R) ∧ ∀ n p' J', CapsH n p' A.cb J' → ∃ L', KH { k with p := p', nk := n } A ad kb L' ∧ (J' ++ R).Perm L' := by
 obtain ⟨Iq, Lc, Ls, Lt, E, hI, hC, hS, hT, hE, rfl⟩ := hK
 exact ⟨Lc, hd4 k A ad kb ++ (Iq ++ (Ls ++ (Lt ++ E))), hC, pull (A := hd4 k A ad kb) (pull (List.Perm.refl _)), fun n p' J' hJ => ⟨_, ⟨Iq, J', Ls, Lt, E, hI, hJ, hS, hT, hE, rfl⟩, push (A := hd4 k A ad kb) (push (List.Perm.refl _))⟩⟩
theorem KH.sch : ∃ J R, SchH k.T k.e k.lf k.L A.sb J ∧ L.Perm (J ++ R) ∧ ∀ T e l L2 J', SchH T e l L2 A.sb J' → ∃ L', KH { k with T := T, e := e, lf := l, L := L2 } A ad kb L' ∧ (J' ++ R).Perm L' := by
 obtain ⟨Iq, Lc, Ls, Lt, E, hI, hC, hS, hT, hE, rfl⟩ := hK
 exact ⟨Ls, hd4 k A ad kb ++ (Iq ++ (Lc ++ (Lt ++ E))), hS, pull (A := hd4 k A ad kb) (pull (pull (List.Perm.refl _))), fun T e l L2 J' hJ => ⟨_, ⟨Iq, Lc, J', Lt, E, hI, hC, hJ, hT, hE, rfl⟩, push (A := hd4 k A ad kb) (push (push (List.Perm.refl _)))⟩⟩
theorem KH.objs {f : FuncId} {args : List Value} {r : Value} (h : ∀ E, EnH k.ar ad E → TrR Tryz.prog f args ((kb, kerO A k.wi) :: (A.ob, mapO encI (kvM ad k.mp) k.ck) :: E) r) : TrR Tryz.prog f args L r := by
 obtain ⟨Iq, Lc, Ls, Lt, E, hI, hC, hS, hT, hE, rfl⟩ := hK
 exact (h E hE).frame
end
end Go.Proofs.YtipncceiekalfaaGreat
end
section
set_option linter.unusedVariables false
set_option linter.unusedSimpArgs false
set_option linter.unusedSectionVars false
namespace Go.Proofs.YtipncceiekalfaaGreat
open Go.SL
theorem dput_no {l : List DN} {s : SlotM} {c : CapM} (h : (dput l s c).1 ≠ 0) : (dput l s c).2 = l := by
 unfold dput at h ⊢
 split
 ·
  rfl
 ·
  rename_i hx
  rw [hx] at h
  dsimp only at h
  split
  ·
   rfl
  ·
   rename_i h1
   rw [if_neg h1] at h
   split
   ·
    rfl
   ·
    rename_i h2
    rw [if_neg h2] at h
    split
    ·
     rfl
    ·
     rename_i h3
     rw [if_neg h3] at h
     exact absurd rfl h
theorem mPlant_no {p : PS} {s : SlotM} {c : CapM} (h : (mPlant p s c).1 ≠ 0) : (mPlant p s c).2 = p := by
 unfold mPlant at h ⊢
 dsimp only at h ⊢
 rw [if_neg h, dput_no h]
theorem mChild_no {p : PS} {o s : SlotM} {c : CapM} (h : (mChild p o s c).1 ≠ 0) : (mChild p o s c).2 = p := by
 unfold mChild at h ⊢
 split
 ·
  rfl
 ·
  rename_i hb
  rw [if_neg hb] at h
  dsimp only at h ⊢
  rw [if_neg h, dput_no h]
structure OpC where
  kind : Int
  a : SlotM
  b : SlotM
  d : SlotM
  c : CapM
  n : Int
  rights : Int
  badge : Int
  guard : Int
  bits : Int
abbrev OpC.cells (o : OpC) : List Value := [.int .i64 o.kind, .int .i64 o.a.1, .int .i64 o.a.2, .int .i64 o.b.1, .int .i64 o.b.2, .int .i64 o.d.1, .int .i64 o.d.2, .int .i64 o.c.kind, .int .i64 o.c.object, .int .i64 o.c.rights, .int .u64 o.c.badge, .int .u64 o.c.guard, .int .i64 o.c.bits, .int .i64 o.n, .int .i64 o.rights, .int .u64 o.badge, .int .u64 o.guard, .int .i64 o.bits]
end Go.Proofs.YtipncceiekalfaaGreat
end
section
set_option linter.unusedVariables false
set_option linter.unusedSimpArgs false
namespace Go.Proofs.YtipncceiekalfaaGreat
open Go.SL
structure OpT where
  kind : Int
  a : SlotM
  b : SlotM
abbrev OpT.cells (o : OpT) : List Value := [.int .i64 o.kind, .int .i64 o.a.1, .int .i64 o.a.2, .int .i64 o.b.1, .int .i64 o.b.2]
end Go.Proofs.YtipncceiekalfaaGreat
end
section
set_option linter.unusedVariables false
set_option linter.unusedSimpArgs false
set_option linter.unusedSectionVars false
namespace Go.Proofs.YtipncceiekalfaaGreat
open Go.SL
namespace Fo
section
variable {α : Type} [DecidableEq α]
def leads (f : Fo α) (to : α) : Nat → α → Bool
  | 0, _ => false
  | k + 1, s => match parO s f none with
    | none => false
    | some p => if p = to then true else leads f to k p
theorem sub_app {x : α} : ∀ {a b : Fo α}, sub x (app a b) = if x ∈ all a then sub x a else sub x b
  | .nil, b => by simp [app, all]
  | .cons i c r, b => by
    simp only [app, sub, sub_app (a := r), all, List.mem_cons, List.mem_append]
    by_cases e : i = x
    · simp [e]
    · by_cases e2 : x ∈ all c
      · simp [e, e2]
      · have : ¬ x = i := fun h => e h.symm
        simp [e, e2, this]
theorem sub_drop {x s : α} (hxs : x ≠ s) : ∀ {f : Fo α}, Nd f → sub x (drop s f) = drop s (sub x f)
  | .nil, _ => rfl
  | .cons i c r, hn => by
    obtain ⟨n1, n2, n3, n4, n5⟩ := nd_cons hn
    simp only [drop]
    by_cases e : i = s
    · rw [if_pos e, sub_app]
      have e1 : i ≠ x := fun h => hxs (h.symm.trans e)
      simp only [sub]; rw [if_neg e1]
      split
      · rw [drop_no]; exact fun h => n1 (e ▸ sub_all c x s h)
      · rw [drop_no]; exact fun h => n2 (e ▸ sub_all r x s h)
    · rw [if_neg e]
      simp only [sub]
      by_cases e1 : i = x
      · rw [if_pos e1, if_pos e1]
      · rw [if_neg e1, if_neg e1, sub_drop hxs n3, sub_drop hxs n4]
        by_cases e2 : x ∈ all c
        · rw [if_pos e2, if_pos ((all_drop n3).2 ⟨e2, hxs⟩)]
        · rw [if_neg e2, if_neg (fun h => e2 ((all_drop n3).1 h).1)]
theorem all_drop_eq {s : α} : ∀ {f : Fo α}, Nd f → all (drop s f) = (all f).filter fun z => decide (z ≠ s)
  | .nil, _ => rfl
  | .cons i c r, hn => by
    obtain ⟨n1, n2, n3, n4, n5⟩ := nd_cons hn
    have hid : ∀ g : Fo α, s ∉ all g → (all g).filter (fun z => decide (z ≠ s)) = all g := fun g hg => List.filter_eq_self.2 fun z hz => decide_eq_true fun e => hg (e ▸ hz)
    simp only [drop]
    by_cases e : i = s
    · rw [if_pos e, all_app]
      simp only [all, List.filter_cons, List.filter_append]
      rw [hid c (e ▸ n1), hid r (e ▸ n2), if_neg (by simp [e])]
    · rw [if_neg e]
      simp only [all, List.filter_cons, List.filter_append, all_drop_eq n3, all_drop_eq n4]
      rw [if_pos (by simp [e])]
theorem nd_sub {x : α} : ∀ {f : Fo α}, Nd f → Nd (sub x f)
  | .nil, h => h
  | .cons i c r, hn => by
    obtain ⟨n1, n2, n3, n4, n5⟩ := nd_cons hn
    simp only [sub]
    split
    · exact n3
    · split
      · exact nd_sub n3
      · exact nd_sub n4
theorem kin_drop {x s : α} {f : Fo α} (hn : Nd f) (hxs : x ≠ s) : all (sub x (drop s f)) = (all (sub x f)).filter fun z => decide (z ≠ s) := by
 rw [sub_drop hxs hn, all_drop_eq (nd_sub hn)]
end
end Fo
def KinMap (F : FoS) (ins : List SlotM) (M : List (SlotM × Value × Nat)) (H : Hp) (i : Nat) : Prop := ∀ j z, j < i → ins[j]? = some z → ∃ v, mget z M = some v ∧ View H 2 v (ftKin F z).length (slotsCells (ftKin F z))
theorem KinMap.step {F : FoS} {ins : List SlotM} {M : List (SlotM × Value × Nat)} {H C : Hp} {i t : Nat} {z : SlotM} {v : Value} (h : KinMap F ins M H i) (hz : ins[i]? = some z) (hv : View C 2 v (ftKin F z).length (slotsCells (ftKin F z))) : KinMap F ins (mput z v t M) (C ++ H) (i + 1) := by
 intro j y hj hy
 rw [mget_mput]
 by_cases e : y = z
 ·
  subst e; rw [if_pos rfl]
  exact ⟨v, rfl, hv.mono fun p hp => List.mem_append_left _ hp⟩
 ·
  rw [if_neg e]
  have hji : j ≠ i := fun e2 => by subst e2; rw [hz] at hy; exact e (Option.some.inj hy).symm
  obtain ⟨u, h1, h2⟩ := h j y (by omega) hy
  exact ⟨u, h1, h2.mono fun p hp => List.mem_append_right _ hp⟩
theorem KinMap.mono {F : FoS} {ins : List SlotM} {M : List (SlotM × Value × Nat)} {H : Hp} {i j : Nat} (h : KinMap F ins M H i) (hj : j ≤ i) : KinMap F ins M H j := fun k z hk => h k z (by omega)
end Go.Proofs.YtipncceiekalfaaGreat
end
section
set_option linter.unusedVariables false
set_option linter.unusedSimpArgs false
namespace Go.Proofs.YtipncceiekalfaaGreat
open Go.SL
def mask4 (a b : Nat) : Nat → Nat
  | 0 => 0
  | k + 1 => mask4 a b k + (if a / 2 ^ k % 2 = 1 ∧ b / 2 ^ k % 2 = 1 then 2 ^ k else 0)
def withinM (a b : Int) : Prop := (0 ≤ a ∧ a ≤ 7) ∧ (0 ≤ b ∧ b ≤ 7) ∧ (mask4 a.toNat b.toNat 3 : Int) = a
def weakM (a b : CapM) : Prop := checkM a = 0 ∧ checkM b = 0 ∧ a.kind = b.kind ∧ a.object = b.object ∧ withinM a.rights b.rights ∧ (b.badge = 0 ∨ a.badge = b.badge)
def d8 (P : Nat → Nat → Nat → Bool) : Bool := (List.range 8).all fun a => (List.range 8).all fun b => (List.range 8).all fun c => P a b c
theorem d8_at {P : Nat → Nat → Nat → Bool} (h : d8 P = true) {a b c : Nat} (ha : a < 8) (hb : b < 8) (hc : c < 8) : P a b c = true := by
 unfold d8 at h
 rw [List.all_eq_true] at h
 have h1 := h a (List.mem_range.2 ha)
 rw [List.all_eq_true] at h1
 have h2 := h1 b (List.mem_range.2 hb)
 rw [List.all_eq_true] at h2
 exact h2 c (List.mem_range.2 hc)
theorem mask_trans : d8 (fun a b c => !decide (mask4 a b 3 = a) || !decide (mask4 b c 3 = b) || decide (mask4 a c 3 = a)) = true := by decide
theorem mask_self : d8 (fun a _ _ => decide (mask4 a a 3 = a)) = true := by decide
theorem mask_in : d8 (fun a b _ => decide (mask4 (mask4 a b 3) a 3 = mask4 a b 3) && decide (mask4 a b 3 < 8)) = true := by decide
theorem withinM.trans {a b c : Int} (h : withinM a b) (k : withinM b c) : withinM a c := by
 obtain ⟨h1, h2, h3⟩ := h
 obtain ⟨k1, k2, k3⟩ := k
 refine ⟨h1, k2, ?_⟩
 have := d8_at mask_trans (a := a.toNat) (b := b.toNat) (c := c.toNat) (by omega) (by omega) (by omega)
 simp only [Bool.or_eq_true, Bool.not_eq_true', decide_eq_false_iff_not, decide_eq_true_iff] at this
 omega
theorem withinM.self {a : Int} (h : 0 ≤ a ∧ a ≤ 7) : withinM a a := by
 refine ⟨h, h, ?_⟩
 have := d8_at mask_self (a := a.toNat) (b := 0) (c := 0) (by omega) (by omega) (by omega)
 simp only [decide_eq_true_iff] at this
 omega
theorem weakM.trans {a b c : CapM} (h : weakM a b) (k : weakM b c) : weakM a c := by
 obtain ⟨h1, h2, h3, h4, h5, h6⟩ := h
 obtain ⟨k1, k2, k3, k4, k5, k6⟩ := k
 refine ⟨h1, k2, h3.trans k3, h4.trans k4, h5.trans k5, ?_⟩
 rcases k6 with k6 | k6
 ·
  exact .inl k6
 ·
  rcases h6 with h6 | h6
  ·
   exact .inl (k6 ▸ h6)
  ·
   exact .inr (h6.trans k6)
end Go.Proofs.YtipncceiekalfaaGreat
end
section
set_option linter.unusedVariables false
set_option linter.unusedSimpArgs false
set_option linter.unusedSectionVars false
namespace Go.Proofs.YtipncceiekalfaaGreat
open Go.SL
abbrev HasS (l : List DN) : Prop := ∃ S, Rel S l
theorem dget_le {l : List DN} {s : SlotM} (h : (dget l s).1.kind ≠ 0) : (dget l s).2 = 0 := by
 unfold dget at h ⊢
 cases e : dcap? l s with
 | none => rw [e] at h; exact absurd rfl h
 | some x => rfl
theorem dget_cap {l : List DN} {s : SlotM} {x : CapM} (h : dget l s = (x, 0)) : dcap? l s = some x := by
 unfold dget at h
 cases e : dcap? l s with
 | none => rw [e] at h; have := congrArg Prod.snd h; simp at this
 | some y => rw [e] at h; exact congrArg some (congrArg Prod.fst h)
section
variable {l : List DN} (h : HasS l)
include h
theorem HasS.zero {s : SlotM} (hk : (dget l s).1.kind = 0) : (dget l s).1 = CapM.zero := by
 obtain ⟨S, hR⟩ := h
 unfold dget at hk ⊢
 cases e : dcap? l s with
 | none => rfl
 | some x =>
  rw [e] at hk
  rw [← rel_cap hR] at e
  obtain ⟨n, hn, _, hc, _⟩ := StoreM.cap_some e
  exact hR.zero _ n _ x hn hc hk
theorem HasS.check {s : SlotM} (hk : (dget l s).1.kind ≠ 0) : checkM (dget l s).1 = 0 := by
 obtain ⟨S, hR⟩ := h
 unfold dget at hk ⊢
 cases e : dcap? l s with
 | none => rw [e] at hk; exact absurd rfl hk
 | some x =>
  rw [e] at hk
  rw [← rel_cap hR] at e
  obtain ⟨n, hn, _, hc, _⟩ := StoreM.cap_some e
  exact (hR.tidy _ n _ x hn hc hk).2
theorem HasS.put (s : SlotM) (c : CapM) : HasS (dput l s c).2 := by
 obtain ⟨S, hR⟩ := h
 exact ⟨_, (rel_put hR s c).2⟩
theorem HasS.take (s : SlotM) : HasS (dtake l s).2.2 := by
 obtain ⟨S, hR⟩ := h
 exact ⟨_, (rel_take hR s).2.2⟩
theorem put_iff {s : SlotM} {c : CapM} : (dput l s c).1 = 0 ↔ (dget l s).2 = 0 ∧ (dget l s).1.kind = 0 ∧ checkM c = 0 ∧ c.kind ≠ 0 := by
 unfold dput dget
 cases e : dcap? l s with
 | none => simp
 | some x =>
  dsimp only
  by_cases h1 : checkM c = 0
  ·
   by_cases h2 : c.kind = 0
   ·
    simp [h1, h2]
   ·
    by_cases h3 : x.kind = 0
    ·
     simp [h1, h2, h3]
    ·
     simp [h1, h2, h3]
  ·
   simp [h1]
theorem put_get {s : SlotM} {c : CapM} (h0 : (dput l s c).1 = 0) (t : SlotM) : dget (dput l s c).2 t = if t = s then (c, 0) else dget l t := by
 obtain ⟨S, hR⟩ := h
 obtain ⟨h1, h2, h3, h4⟩ := (put_iff ⟨S, hR⟩).1 h0
 obtain ⟨e, hR2⟩ := rel_put hR s c
 rw [← rel_get hR2, ← rel_get hR]
 have hx : S.cap? s = some (dget l s).1 := by
  rw [rel_cap hR]
  refine dget_cap ?_
  rw [← h1]
 have : (S.put s c).2 = S.setCap s c := by
  unfold StoreM.put; rw [hx]; dsimp only
  rw [if_neg (by simp [h3]), if_neg h4, if_neg (by simp [h2])]
 rw [this, get_set hx]
theorem take_iff {s : SlotM} : (dtake l s).2.1 = 0 ↔ (dget l s).1.kind ≠ 0 := by
 unfold dtake dget
 cases e : dcap? l s with
 | none => simp
 | some x =>
  dsimp only
  by_cases h3 : x.kind = 0
  ·
   simp [h3]
  ·
   simp [h3]
theorem take_get {s : SlotM} (h0 : (dget l s).1.kind ≠ 0) (t : SlotM) : dget (dtake l s).2.2 t = if t = s then (CapM.zero, 0) else dget l t := by
 obtain ⟨S, hR⟩ := h
 obtain ⟨e, e2, hR2⟩ := rel_take hR s
 rw [← rel_get hR2, ← rel_get hR]
 have hx : S.cap? s = some (dget l s).1 := by
  rw [rel_cap hR]
  refine dget_cap ?_
  rw [← dget_le h0]
 have : (S.take s).2.2 = S.setCap s CapM.zero := by
  unfold StoreM.take; rw [hx]; dsimp only
  rw [if_neg h0]
 rw [this, get_set hx]
theorem take_no {s : SlotM} (h0 : (dtake l s).2.1 ≠ 0) : (dtake l s).2.2 = l := by
 unfold dtake at h0 ⊢
 cases e : dcap? l s with
 | none => rfl
 | some x =>
  rw [e] at h0
  dsimp only at h0 ⊢
  split
  ·
   rfl
  ·
   rename_i hk; rw [if_neg hk] at h0; exact absurd rfl h0
end
structure POk (p : PS) : Prop where
  rel : HasS p.l
  nd : Fo.Nd p.F
  on : ∀ s, s ∈ p.F.all ↔ (dget p.l s).1.kind ≠ 0
theorem src_ok {p : PS} {s : SlotM} (h : (mSource p s).2 = 0) : mSource p s = dget p.l s ∧ (dget p.l s).1.kind ≠ 0 ∧ (dget p.l s).2 = 0 := by
 unfold mSource at h ⊢
 split at h
 ·
  cases h
 ·
  rename_i hn
  rw [if_neg hn]
  exact ⟨rfl, fun e => hn ⟨h, e⟩, h⟩
theorem plc_ok {p : PS} {s : SlotM} (h : mPlace p s = 0) : (dget p.l s).1.kind = 0 ∧ (dget p.l s).2 = 0 := by
 unfold mPlace at h
 split at h
 ·
  cases h
 ·
  rename_i hn
  exact ⟨Decidable.byContradiction fun e => hn ⟨h, e⟩, h⟩
theorem both_ok {p : PS} {s d : SlotM} (h : (mBoth p s d).2 = 0) : (mBoth p s d).1 = (dget p.l s).1 ∧ (dget p.l s).1.kind ≠ 0 ∧ (dget p.l s).2 = 0 ∧ (dget p.l d).1.kind = 0 ∧ (dget p.l d).2 = 0 := by
 unfold mBoth at h ⊢
 dsimp only at h ⊢
 split at h
 ·
  rename_i h1
  obtain ⟨e1, e2, e3⟩ := src_ok h1
  obtain ⟨e4, e5⟩ := plc_ok h
  exact ⟨by rw [e1], e2, e3, e4, e5⟩
 ·
  rename_i h1; exact absurd h h1
structure Went (p p' : PS) (σ : SlotM → SlotM) : Prop where
  inj : ∀ a b, a ∈ p.F.all → b ∈ p.F.all → σ a = σ b → a = b
  F : p'.F = p.F.map σ
  val : ∀ z, z ∈ p.F.all → (dget p'.l (σ z)).1 = (dget p.l z).1
  only : ∀ s, (dget p'.l s).1.kind ≠ 0 → ∃ z, z ∈ p.F.all ∧ s = σ z
theorem Went.ok {p p' : PS} {σ : SlotM → SlotM} (h : Went p p' σ) (hp : POk p) (hr : HasS p'.l) : POk p' where
  rel := hr
  nd := by rw [h.F]; exact Fo.nd_map hp.nd h.inj
  on := fun s => by
    rw [h.F, Fo.all_map, List.mem_map]
    constructor
    · rintro ⟨z, hz, rfl⟩
      rw [h.val z hz]; exact (hp.on z).1 hz
    · intro hk
      obtain ⟨z, hz, e⟩ := h.only s hk
      exact ⟨z, hz, e.symm⟩
section
variable {p : PS} (hp : POk p)
include hp
theorem POk.out {s : SlotM} (h : (dget p.l s).1.kind = 0) : s ∉ p.F.all := fun e => (hp.on s).1 e h
end
end Go.Proofs.YtipncceiekalfaaGreat
end
section
set_option linter.unusedVariables false
set_option linter.unusedSimpArgs false
set_option linter.unusedSectionVars false
namespace Go.Proofs.YtipncceiekalfaaGreat
open Go.SL
theorem hasS_nil : HasS [] := ⟨⟨0, 0, []⟩, rel_new rfl⟩
theorem HasS.add {l : List DN} (h : HasS l) (id r : Int) : HasS (dadd l id r).2 := by
 obtain ⟨S, hR⟩ := h
 unfold dadd
 dsimp only
 split
 ·
  rename_i h0; exact ⟨_, rel_add hR (by rw [rel_addErr hR]; exact h0) (insAt_place l) 0 0⟩
 ·
  exact ⟨S, hR⟩
theorem aadd_get {l : List DN} (h : HasS l) (id r : Int) (s : SlotM) : (dget (dadd l id r).2 s).1 = (dget l s).1 := by
 obtain ⟨S, hR⟩ := h
 unfold dadd
 dsimp only
 split
 ·
  rename_i h0
  have h0' : addErr S id r = 0 := by rw [rel_addErr hR]; exact h0
  have hR2 := rel_add hR h0' (insAt_place l) 0 0
  rw [← rel_get hR2, ← rel_get hR]
  have hno : nget id S.nodes = none := by
   unfold addErr at h0'
   split at h0'
   ·
    cases h0'
   ·
    cases e : nget id S.nodes with
    | none => rfl
    | some n => rw [e] at h0'; simp at h0'
  unfold StoreM.get
  rw [addNode_cap hno]
  by_cases e : s.1 = id
  ·
   rw [if_pos e]
   have : S.cap? s = none := by unfold StoreM.cap?; rw [e, hno]
   rw [this]
   split
   ·
    rfl
   ·
    rename_i x hx
    split at hx
    ·
     cases hx; rfl
    ·
     cases hx
  ·
   rw [if_neg e]
 ·
  rfl
section
variable {p : PS} (hp : POk p)
include hp
theorem POk.plant (s : SlotM) (c : CapM) : POk (mPlant p s c).2 := by
 unfold mPlant
 dsimp only
 by_cases h0 : (dput p.l s c).1 = 0
 ·
  rw [if_pos h0]
  obtain ⟨_, h2, _, h4⟩ := (put_iff hp.rel).1 h0
  have hs := hp.out h2
  have hg := put_get hp.rel h0
  have hF : (ftRoot p.F s).2 = p.F.app (.one s) := by unfold ftRoot; rw [if_neg hs]
  refine ⟨hp.rel.put s c, ftRoot_nd hp.nd, fun t => ?_⟩
  rw [hF]
  show t ∈ (p.F.app (.one s)).all ↔ (dget (dput p.l s c).2 t).1.kind ≠ 0
  rw [hg, Fo.all_app, List.mem_append]
  by_cases e : t = s
  ·
   subst e; rw [if_pos rfl]; simp [Fo.one, Fo.all, h4]
  ·
   rw [if_neg e, ← hp.on t]; simp [Fo.one, Fo.all, e]
 ·
  rw [if_neg h0, dput_no h0]; exact hp
theorem child_F {o s : SlotM} (ho : (dget p.l o).1.kind ≠ 0) (hs : (dget p.l s).1.kind = 0) : (ftChild p.F o s).2 = p.F.addc o s := by
 unfold ftChild; rw [if_pos ((hp.on o).2 ho), if_neg (hp.out hs)]
theorem POk.child (o s : SlotM) (c : CapM) : POk (mChild p o s c).2 := by
 unfold mChild
 split
 ·
  exact hp
 ·
  rename_i hb
  obtain ⟨e1, e2, e3, e4, e5⟩ := both_ok (Decidable.not_not.1 hb)
  dsimp only
  by_cases h0 : (dput p.l s c).1 = 0
  ·
   rw [if_pos h0]
   obtain ⟨_, h2, _, h4⟩ := (put_iff hp.rel).1 h0
   have hg := put_get hp.rel h0
   refine ⟨hp.rel.put s c, ftChild_nd hp.nd, fun t => ?_⟩
   rw [child_F hp e2 e4]
   show t ∈ (p.F.addc o s).all ↔ (dget (dput p.l s c).2 t).1.kind ≠ 0
   rw [hg, Fo.all_addc]
   by_cases e : t = s
   ·
    subst e; rw [if_pos rfl]; simp [h4, (hp.on o).2 e2]
   ·
    rw [if_neg e, ← hp.on t]; simp [e]
  ·
   rw [if_neg h0, dput_no h0]; exact hp
theorem POk.mint (s d : SlotM) (r b g n : Int) : POk (mMint p s d r b g n).2 := by
 unfold mMint
 split
 ·
  exact hp
 ·
  split
  ·
   exact hp
  ·
   exact hp.child _ _ _
theorem POk.copy (s d : SlotM) (r : Int) : POk (mCopy p s d r).2 := hp.mint _ _ _ _ _ _
theorem take_F {s : SlotM} (h : (dget p.l s).1.kind ≠ 0) : (mTake p s).2.2 = ⟨(dtake p.l s).2.2, p.F.drop s⟩ := by
 unfold mTake
 rw [if_pos ((take_iff hp.rel).2 h)]
 unfold ftDrop
 rw [if_pos ((hp.on s).2 h)]
theorem take_noF {s : SlotM} (h : (dget p.l s).1.kind = 0) : (mTake p s).2.2 = p := by
 have h0 : ¬ (dtake p.l s).2.1 = 0 := fun e => (take_iff hp.rel).1 e h
 unfold mTake
 rw [if_neg h0, take_no hp.rel h0]
theorem POk.take (s : SlotM) : POk (mTake p s).2.2 := by
 by_cases h : (dget p.l s).1.kind = 0
 ·
  rw [take_noF hp h]; exact hp
 ·
  rw [take_F hp h]
  have hg := take_get hp.rel h
  refine ⟨hp.rel.take s, Fo.nd_drop hp.nd, fun t => ?_⟩
  show t ∈ (p.F.drop s).all ↔ (dget (dtake p.l s).2.2 t).1.kind ≠ 0
  rw [hg, Fo.all_drop hp.nd]
  by_cases e : t = s
  ·
   subst e; rw [if_pos rfl]; simp
  ·
   rw [if_neg e, ← hp.on t]; simp [e]
end
theorem zero_rg : CapM.zero.Rg := ⟨by unfold i64R; decide, by unfold u64R; decide, by unfold u64R; decide⟩
structure WOk (p : PS) : Prop where
  ok : POk p
  rg : ∀ s, (dget p.l s).1.Rg
  weak : ∀ t x, x ∈ ftKin p.F t → weakM (dget p.l x).1 (dget p.l t).1
theorem kin_in {F : FoS} {t x : SlotM} (h : x ∈ ftKin F t) : t ∈ F.all ∧ x ∈ F.all := by
 refine ⟨Decidable.byContradiction fun e => ?_, Fo.sub_all F t x h⟩
 unfold ftKin at h
 rw [Fo.sub_no _ _ e] at h; cases h
theorem Went.wok {p p' : PS} {σ : SlotM → SlotM} (w : Went p p' σ) (h : WOk p) (hr : HasS p'.l) : WOk p' := by
 have hok := w.ok h.ok hr
 refine ⟨hok, fun s => ?_, fun t x hx => ?_⟩
 ·
  by_cases hk : (dget p'.l s).1.kind = 0
  ·
   rw [hr.zero hk]; exact zero_rg
  ·
   obtain ⟨z, hz, rfl⟩ := w.only s hk
   rw [w.val z hz]; exact h.rg z
 ·
  obtain ⟨ht, _⟩ := kin_in hx
  rw [w.F, Fo.all_map, List.mem_map] at ht
  obtain ⟨z, hz, rfl⟩ := ht
  have hi : Fo.Inj1 σ z p.F := fun y hy e => w.inj y z hy hz e
  unfold ftKin at hx
  rw [w.F, Fo.sub_map hi, Fo.all_map, List.mem_map] at hx
  obtain ⟨y, hy, rfl⟩ := hx
  rw [w.val z hz, w.val y (Fo.sub_all _ _ _ hy)]
  exact h.weak z y hy
theorem Fo.sub_addc_mem {α : Type} [DecidableEq α] {o s t x : α} : ∀ {f : Fo α}, Fo.Nd f → s ∉ f.all → x ∈ (Fo.sub t (f.addc o s)).all → x ∈ (Fo.sub t f).all ∨ (x = s ∧ (t = o ∨ o ∈ (Fo.sub t f).all))
  | .nil, _, _, h => .inl h
  | .cons i c r, hn, hs, h => by
    obtain ⟨n1, n2, n3, n4, n5⟩ := Fo.nd_cons hn
    simp only [Fo.all, List.mem_cons, List.mem_append, not_or] at hs
    have hsc : Fo.sub s c = .nil := Fo.sub_no _ _ hs.2.1
    have hsr : Fo.sub s r = .nil := Fo.sub_no _ _ hs.2.2
    simp only [Fo.addc] at h
    by_cases e : i = o
    · rw [if_pos e] at h
      subst e
      simp only [Fo.sub] at h ⊢
      by_cases e1 : i = t
      · rw [if_pos e1] at h ⊢
        rw [Fo.all_app, List.mem_append] at h
        rcases h with h | h
        · exact .inl h
        · simp [Fo.all] at h; exact .inr ⟨h, .inl e1.symm⟩
      · rw [if_neg e1] at h ⊢
        by_cases e2 : t ∈ c.all
        · rw [if_pos (by rw [Fo.all_app]; exact List.mem_append_left _ e2), Fo.sub_app, if_pos e2] at h
          rw [if_pos e2]; exact .inl h
        · rw [if_neg e2]
          by_cases e3 : t = s
          · subst e3
            rw [if_pos (by rw [Fo.all_app]; simp [Fo.all]), Fo.sub_app, if_neg e2] at h
            simp [Fo.sub, Fo.all] at h
          · rw [if_neg (by rw [Fo.all_app]; simp [Fo.all, e2, e3])] at h
            exact .inl h
    · rw [if_neg e] at h
      simp only [Fo.sub] at h ⊢
      by_cases e1 : i = t
      · rw [if_pos e1] at h ⊢
        rw [Fo.all_addc] at h
        rcases h with h | ⟨h, h2⟩
        · exact .inl h
        · exact .inr ⟨h, .inr h2⟩
      · rw [if_neg e1] at h ⊢
        by_cases e2 : t ∈ c.all
        · rw [if_pos (Fo.all_addc.2 (.inl e2))] at h
          rw [if_pos e2]
          exact Fo.sub_addc_mem n3 hs.2.1 h
        · rw [if_neg e2]
          by_cases e3 : t ∈ (c.addc o s).all
          · rw [if_pos e3] at h
            rcases Fo.all_addc.1 e3 with e4 | ⟨e4, e5⟩
            · exact absurd e4 e2
            · rcases Fo.sub_addc_mem n3 hs.2.1 h with h | ⟨_, h | h⟩
              · rw [e4, hsc] at h; cases h
              · exact absurd (h.symm ▸ e5) e2
              · rw [e4, hsc] at h; cases h
          · rw [if_neg e3] at h
            exact Fo.sub_addc_mem n4 hs.2.2 h
section
variable {p : PS} (h : WOk p)
include h
theorem WOk.plant (s : SlotM) {c : CapM} (hc : c.Rg) : WOk (mPlant p s c).2 := by
 have hok := h.ok.plant s c
 by_cases h0 : (dput p.l s c).1 = 0
 ·
  have hs : s ∉ p.F.all := h.ok.out ((put_iff h.ok.rel).1 h0).2.1
  have hg := put_get h.ok.rel h0
  have he : (mPlant p s c).2 = ⟨(dput p.l s c).2, p.F.app (.one s)⟩ := by
   unfold mPlant ftRoot; rw [if_pos h0, if_neg hs]
  rw [he] at hok ⊢
  refine ⟨hok, fun t => ?_, fun t x hx => ?_⟩
  ·
   show (dget (dput p.l s c).2 t).1.Rg
   rw [hg]; split
   ·
    exact hc
   ·
    exact h.rg t
  ·
   have hx2 : x ∈ ftKin p.F t := by
    have hx' : x ∈ (Fo.sub t (p.F.app (.one s))).all := hx
    rw [Fo.sub_app] at hx'
    split at hx'
    ·
     exact hx'
    ·
     unfold Fo.one Fo.sub at hx'
     split at hx'
     ·
      cases hx'
     ·
      simp [Fo.sub, Fo.all] at hx'
   obtain ⟨ht, hxa⟩ := kin_in hx2
   show weakM (dget (dput p.l s c).2 x).1 (dget (dput p.l s c).2 t).1
   rw [hg, hg, if_neg (fun e : x = s => hs (e ▸ hxa)), if_neg (fun e : t = s => hs (e ▸ ht))]
   exact h.weak t x hx2
 ·
  have : (mPlant p s c).2 = p := mPlant_no h0
  rw [this]; exact h
theorem WOk.child (o s : SlotM) {c : CapM} (hc : c.Rg) (hw : (dget p.l o).1.kind ≠ 0 → checkM c = 0 → weakM c (dget p.l o).1) : WOk (mChild p o s c).2 := by
 have hok := h.ok.child o s c
 by_cases hz : (mChild p o s c).1 = 0
 ·
  unfold mChild at hz hok ⊢
  split at hz
  ·
   rename_i hb; exact absurd hz hb
  ·
   rename_i hb
   rw [if_neg hb] at hok ⊢
   obtain ⟨e1, e2, e3, e4, e5⟩ := both_ok (Decidable.not_not.1 hb)
   have h0 : (dput p.l s c).1 = 0 := hz
   have hs : s ∉ p.F.all := h.ok.out e4
   have hos : o ≠ s := fun e => e2 (e ▸ e4)
   have hg := put_get h.ok.rel h0
   have hwc := hw e2 ((put_iff h.ok.rel).1 h0).2.2.1
   dsimp only at hok ⊢
   rw [if_pos h0, child_F h.ok e2 e4] at hok ⊢
   refine ⟨hok, fun t => ?_, fun t x hx => ?_⟩
   ·
    show (dget (dput p.l s c).2 t).1.Rg
    rw [hg]; split
    ·
     exact hc
    ·
     exact h.rg t
   ·
    show weakM (dget (dput p.l s c).2 x).1 (dget (dput p.l s c).2 t).1
    have key : ∀ {t x : SlotM}, x ∈ ftKin p.F t → weakM (dget (dput p.l s c).2 x).1 (dget (dput p.l s c).2 t).1 := fun {t x} hx => by
     obtain ⟨ht, hxa⟩ := kin_in hx
     rw [hg, hg, if_neg (fun e : x = s => hs (e ▸ hxa)), if_neg (fun e : t = s => hs (e ▸ ht))]
     exact h.weak t x hx
    have hso : weakM (dget (dput p.l s c).2 s).1 (dget (dput p.l s c).2 o).1 := by
     rw [hg, hg, if_pos rfl, if_neg hos]; exact hwc
    rcases Fo.sub_addc_mem h.ok.nd hs hx with hx | ⟨rfl, rfl | hx⟩
    ·
     exact key hx
    ·
     exact hso
    ·
     exact hso.trans (key hx)
 ·
  rw [mChild_no hz]; exact h
theorem WOk.take (s : SlotM) : WOk (mTake p s).2.2 := by
 by_cases hk : (dget p.l s).1.kind = 0
 ·
  rw [take_noF h.ok hk]; exact h
 ·
  have hok := h.ok.take s
  have hg := take_get h.ok.rel hk
  rw [take_F h.ok hk] at hok ⊢
  refine ⟨hok, fun t => ?_, fun t x hx => ?_⟩
  ·
   show (dget (dtake p.l s).2.2 t).1.Rg
   rw [hg]; split
   ·
    exact zero_rg
   ·
    exact h.rg t
  ·
   show weakM (dget (dtake p.l s).2.2 x).1 (dget (dtake p.l s).2.2 t).1
   obtain ⟨ht, hxa⟩ := kin_in hx
   have ht2 := (Fo.all_drop h.ok.nd).1 ht
   have hx2 := (Fo.all_drop h.ok.nd).1 hxa
   have hx3 : x ∈ ftKin p.F t := by
    have hx' : x ∈ (Fo.sub t (p.F.drop s)).all := hx
    rw [Fo.kin_drop h.ok.nd ht2.2] at hx'
    exact (List.mem_filter.1 hx').1
   rw [hg, hg, if_neg hx2.2, if_neg ht2.2]
   exact h.weak t x hx3
end
theorem and_mask4 : d8 (fun a b _ => decide (bitsI .and .i64 (a : Int) (b : Int) = (mask4 a b 3 : Nat))) = true := by kernel_rfl
theorem maskM_eq {a b : Int} (ha : 0 ≤ a ∧ a ≤ 7) (hb : 0 ≤ b ∧ b ≤ 7) (ha2 : rightsOk a = true) (hb2 : rightsOk b = true) : maskM a b = (mask4 a.toNat b.toNat 3 : Nat) := by
 unfold maskM
 rw [if_pos ⟨ha2, hb2⟩]
 have := d8_at and_mask4 (a := a.toNat) (b := b.toNat) (c := 0) (by omega) (by omega) (by omega)
 have e1 : ((a.toNat : Nat) : Int) = a := by omega
 have e2 : ((b.toNat : Nat) : Int) = b := by omega
 simp only [decide_eq_true_iff, e1, e2] at this
 exact this
theorem check_rights {c : CapM} (h : checkM c = 0) : rightsOk c.rights = true := by
 unfold checkM at h
 split at h
 ·
  cases h
 ·
  split at h
  ·
   cases h
  ·
   rename_i hn
   cases e : rightsOk c.rights
   ·
    exact absurd (by simp [e]) hn
   ·
    rfl
theorem mask_rg {a b : Int} (ha : 0 ≤ a ∧ a ≤ 7) (hb : 0 ≤ b ∧ b ≤ 7) (ha2 : rightsOk a = true) (hb2 : rightsOk b = true) : i64R (maskM a b) ∧ withinM (maskM a b) a := by
 rw [maskM_eq ha hb ha2 hb2]
 have := d8_at mask_in (a := a.toNat) (b := b.toNat) (c := 0) (by omega) (by omega) (by omega)
 simp only [Bool.and_eq_true, decide_eq_true_iff] at this
 refine ⟨by unfold i64R; omega, by omega, ha, ?_⟩
 rw [Int.toNat_natCast, this.1]
theorem derive_cases {c : CapM} {r bd g n : Int} (h : (derive c r bd g n).2 = 0) : checkM c = 0 ∧ ((c.kind = 6 ∧ rightsOk r = true ∧ derive c r bd g n = ({ c with rights := maskM c.rights r }, 0)) ∨ (c.kind = 2 ∧ fitsM g n = true ∧ derive c r bd g n = ({ c with guard := g, bits := n }, 0)) ∨
    ((c.kind = 4 ∨ c.kind = 5) ∧ rightsOk r = true ∧ ¬ (bd ≠ 0 ∧ c.badge ≠ 0) ∧ derive c r bd g n = ({ c with rights := maskM c.rights r, badge := if bd ≠ 0 then bd else c.badge }, 0)) ∨ derive c r bd g n = (c, 0)) := by
  have hck : checkM c = 0 := by
    unfold derive at h
    split at h
    · rename_i h1; exact absurd h h1
    · rename_i h1; exact Decidable.not_not.1 h1
  refine ⟨hck, ?_⟩
  unfold derive at h ⊢
  rw [if_neg (fun e => e hck)] at h ⊢
  by_cases h2 : c.kind = 0
  · rw [if_pos h2] at h; cases h
  rw [if_neg h2] at h ⊢
  by_cases h3 : c.kind = 1 ∨ c.kind = 10 ∨ c.kind = 11
  · rw [if_pos h3] at h; cases h
  rw [if_neg h3] at h ⊢
  by_cases h4 : rightsOk r = false
  · rw [if_pos h4] at h; cases h
  have h4' : rightsOk r = true := by cases e : rightsOk r; exact absurd e h4; rfl
  rw [if_neg h4] at h ⊢
  by_cases h5 : c.kind = 6
  · rw [if_pos h5]; exact .inl ⟨h5, h4', rfl⟩
  rw [if_neg h5] at h ⊢
  by_cases h6 : c.kind = 2
  · rw [if_pos h6] at h ⊢
    by_cases h7 : fitsM g n = false
    · rw [if_pos h7] at h; cases h
    · rw [if_neg h7]
      have h7' : fitsM g n = true := by cases e : fitsM g n; exact absurd e h7; rfl
      exact .inr (.inl ⟨h6, h7', rfl⟩)
  rw [if_neg h6] at h ⊢
  by_cases h8 : c.kind = 4 ∨ c.kind = 5
  · rw [if_pos h8] at h ⊢
    by_cases h9 : bd ≠ 0 ∧ c.badge ≠ 0
    · rw [if_pos h9] at h; cases h
    rw [if_neg h9] at h ⊢
    by_cases h10 : (if bd ≠ 0 then bd else c.badge).fdiv (2 ^ 28) ≠ 0
    · rw [if_pos h10] at h; cases h
    rw [if_neg h10]
    exact .inr (.inr (.inl ⟨h8, h4', h9, rfl⟩))
  · rw [if_neg h8]; exact .inr (.inr (.inr rfl))
theorem derive_rg {c : CapM} {r bd g n : Int} (hc : c.Rg) (hr : i64R r) (hb : u64R bd) (hg : u64R g) (h : (derive c r bd g n).2 = 0) : (derive c r bd g n).1.Rg := by
 obtain ⟨hck, h | h | h | h⟩ := derive_cases h
 ·
  have hcr := check_rights hck
  rw [h.2.2]
  exact ⟨(mask_rg ((rights_iff hc.rights).1 hcr) ((rights_iff hr).1 h.2.1) hcr h.2.1).1, hc.badge, hc.guard⟩
 ·
  rw [h.2.2]; exact ⟨hc.rights, hc.badge, hg⟩
 ·
  have hcr := check_rights hck
  rw [h.2.2.2]
  refine ⟨(mask_rg ((rights_iff hc.rights).1 hcr) ((rights_iff hr).1 h.2.1) hcr h.2.1).1, ?_, hc.guard⟩
  dsimp only
  split
  ·
   exact hb
  ·
   exact hc.badge
 ·
  rw [h]; exact hc
theorem derive_weak {c : CapM} {r bd g n : Int} (hc : c.Rg) (hr : i64R r) (h : (derive c r bd g n).2 = 0) (hk : checkM (derive c r bd g n).1 = 0) : weakM (derive c r bd g n).1 c := by
 obtain ⟨hck, h2⟩ := derive_cases h
 have hcr := check_rights hck
 have hc07 := (rights_iff hc.rights).1 hcr
 have h0 := withinM.self hc07
 refine ⟨hk, hck, ?_⟩
 rcases h2 with h | h | h | h
 ·
  have hm := mask_rg hc07 ((rights_iff hr).1 h.2.1) hcr h.2.1
  rw [h.2.2]; exact ⟨rfl, rfl, hm.2, .inr rfl⟩
 ·
  rw [h.2.2]; exact ⟨rfl, rfl, h0, .inr rfl⟩
 ·
  have hm := mask_rg hc07 ((rights_iff hr).1 h.2.1) hcr h.2.1
  rw [h.2.2.2]
  refine ⟨rfl, rfl, hm.2, ?_⟩
  dsimp only
  by_cases hb : bd = 0
  ·
   right; rw [if_neg (by simp [hb])]
  ·
   left; exact Decidable.byContradiction fun e => h.2.2.1 ⟨hb, e⟩
 ·
  rw [h]; exact ⟨rfl, rfl, h0, .inr rfl⟩
theorem WOk.mint {p : PS} (h : WOk p) (s d : SlotM) {r bd g n : Int} (hr : i64R r) (hb : u64R bd) (hg : u64R g) : WOk (mMint p s d r bd g n).2 := by
 unfold mMint
 split
 ·
  exact h
 ·
  rename_i hbo
  split
  ·
   exact h
  ·
   rename_i hd
   obtain ⟨e1, e2, _⟩ := both_ok (Decidable.not_not.1 hbo)
   have hd0 := Decidable.not_not.1 hd
   rw [e1] at hd0 ⊢
   exact h.child s d (derive_rg (h.rg s) hr hb hg hd0) fun _ hck => derive_weak (h.rg s) hr hd0 hck
theorem WOk.copy {p : PS} (h : WOk p) (s d : SlotM) {r : Int} (hr : i64R r) : WOk (mCopy p s d r).2 := h.mint s d hr (by unfold u64R; decide) (h.rg s).guard
end Go.Proofs.YtipncceiekalfaaGreat
end
section
set_option linter.unusedVariables false
set_option linter.unusedSimpArgs false
namespace Go.Proofs.YtipncceiekalfaaGreat
open Go.SL
def takeBits (p l n : Nat) : Nat := p / 2 ^ (l - n) % 2 ^ n
def errS (e : Int) : SlotM × Int × Int := ((0, 0), 0, e)
def nxtOk (l : Nat) (n : Int) : Bool := decide (0 ≤ n ∧ n ≤ (l : Int))
def nxtV (p l : Nat) (n : Int) : Nat := if 0 ≤ n ∧ n ≤ (l : Int) then takeBits p l n.toNat else 0
def nxtL (l : Nat) (n : Int) : Nat := if 0 ≤ n ∧ n ≤ (l : Int) then l - n.toNat else l
def resLoop (S : StoreM) (p : Nat) : Nat → CapM → Nat → SlotM × Int × Int
  | 0, _, _ => errS 6
  | k + 1, c, l =>
    if S.radix c.object = 0 ∨ nxtOk l c.bits = false ∨ (nxtV p l c.bits : Int) ≠ c.guard then errS 6
    else if nxtOk (nxtL l c.bits) (S.radix c.object) = false then errS 6
    else if nxtL (nxtL l c.bits) (S.radix c.object) = 0 ∨ (S.get (c.object, (nxtV p (nxtL l c.bits) (S.radix c.object) : Int))).1.kind ≠ 2 then
      ((c.object, (nxtV p (nxtL l c.bits) (S.radix c.object) : Int)), (nxtL (nxtL l c.bits) (S.radix c.object) : Int), 0)
    else resLoop S p k (S.get (c.object, (nxtV p (nxtL l c.bits) (S.radix c.object) : Int))).1 (nxtL (nxtL l c.bits) (S.radix c.object))
def resolveM (S : StoreM) (root : CapM) (p : Nat) (depth : Int) : SlotM × Int × Int :=
  if depth < 1 ∨ 16 < depth ∨ p / 2 ^ depth.toNat ≠ 0 then errS 1
  else if root.kind ≠ 2 then errS 2
  else resLoop S p (depth.toNat + 1) root depth.toNat
def gFindM (S : StoreM) (root : CapM) (p : Nat) (depth : Int) : SlotM × Int :=
  if (resolveM S root p depth).2.2 ≠ 0 then ((0, 0), (resolveM S root p depth).2.2)
  else if 0 < (resolveM S root p depth).2.1 then ((0, 0), 6)
  else ((resolveM S root p depth).1, 0)
theorem takeBits_lt (p l n : Nat) : takeBits p l n < 2 ^ n := Nat.mod_lt _ (Nat.two_pow_pos n)
theorem bits_next {p l n : Nat} (hp : p < 2 ^ 64) (hl : l ≤ 16) (hn : n ≤ l) :
    bitsI .and .u64 ((p : Int).fdiv (2 ^ (min ((l : Int) - (n : Int)).toNat 64))) (IntKind.u64.wrap (IntKind.u64.wrap (1 * 2 ^ (min (n : Int).toNat 64)) - 1)) = (takeBits p l n : Int) := by
  have e1 : min ((l : Int) - (n : Int)).toNat 64 = l - n := by omega
  have e2 : min (n : Int).toNat 64 = n := by omega
  have hpos : 0 < 2 ^ n := Nat.two_pow_pos n
  have hle : 2 ^ n ≤ 2 ^ 16 := Nat.pow_le_pow_right (by omega) (by omega)
  have e3 : IntKind.u64.wrap (1 * 2 ^ n) = ((2 ^ n : Nat) : Int) := by
    rw [Int.one_mul, show ((2 : Int) ^ n) = ((2 ^ n : Nat) : Int) by norm_cast]
    exact u64 (by omega) (by omega)
  have e4 : IntKind.u64.wrap (((2 ^ n : Nat) : Int) - 1) = ((2 ^ n - 1 : Nat) : Int) := by
    rw [show (((2 ^ n : Nat) : Int) - 1) = ((2 ^ n - 1 : Nat) : Int) by omega]
    exact u64 (by omega) (by omega)
  rw [e1, e2, e3, e4, fdiv_pow, and_mask _ _ (Nat.lt_of_le_of_lt (Nat.div_le_self _ _) hp) (by omega)]
  rfl
theorem nxtL_le (l : Nat) (n : Int) : nxtL l n ≤ l := by unfold nxtL; split <;> omega
theorem nxtL_lt {l : Nat} {n : Int} (h : nxtOk l n = true) (hn : n ≠ 0) : nxtL l n < l := by
 have := of_decide_eq_true h
 unfold nxtL; rw [if_pos this]; omega
theorem nxtV_lt {p l : Nat} {n : Int} (hl : l ≤ 16) : nxtV p l n < 65536 := by
 unfold nxtV
 split
 ·
  have h1 := takeBits_lt p l n.toNat
  have h2 : 2 ^ n.toNat ≤ 2 ^ 16 := Nat.pow_le_pow_right (by omega) (by omega)
  omega
 ·
  omega
theorem StoreM.radix_nonneg (S : StoreM) (id : Int) : 0 ≤ S.radix id := by
 unfold StoreM.radix; split <;> omega
theorem resolve_e1 {S : StoreM} {root : CapM} {p : Nat} {depth : Int} (h : depth < 1 ∨ 16 < depth) : resolveM S root p depth = errS 1 := by
 unfold resolveM; rw [if_pos (by rcases h with h | h <;> simp [h])]
theorem resolve_e1' {S : StoreM} {root : CapM} {p : Nat} {depth : Int} (h1 : ¬ depth < 1) (h2 : ¬ 16 < depth) (h3 : (p : Int).fdiv (2 ^ (min depth.toNat 64)) ≠ 0) : resolveM S root p depth = errS 1 := by
 rw [show min depth.toNat 64 = depth.toNat by omega, fdiv_pow] at h3
 unfold resolveM; rw [if_pos (.inr (.inr (by omega)))]
theorem resolve_go0 {S : StoreM} {root : CapM} {p : Nat} {depth : Int} (h1 : ¬ depth < 1) (h2 : ¬ 16 < depth) (h3 : ¬ (p : Int).fdiv (2 ^ (min depth.toNat 64)) ≠ 0) : ¬ (depth < 1 ∨ 16 < depth ∨ p / 2 ^ depth.toNat ≠ 0) := by
 rw [show min depth.toNat 64 = depth.toNat by omega, fdiv_pow] at h3
 intro h
 rcases h with h | h | h
 ·
  exact h1 h
 ·
  exact h2 h
 ·
  exact h3 (by omega)
theorem resolve_e2 {S : StoreM} {root : CapM} {p : Nat} {depth : Int} (h1 : ¬ depth < 1) (h2 : ¬ 16 < depth) (h3 : ¬ (p : Int).fdiv (2 ^ (min depth.toNat 64)) ≠ 0) (h4 : root.kind ≠ 2) : resolveM S root p depth = errS 2 := by
 unfold resolveM; rw [if_neg (resolve_go0 (S := S) (root := root) h1 h2 h3), if_pos h4]
theorem resolve_go {S : StoreM} {root : CapM} {p : Nat} {k : Nat} (h1 : ¬ (k : Int) < 1) (h2 : ¬ 16 < (k : Int)) (h3 : ¬ (p : Int).fdiv (2 ^ (min (k : Int).toNat 64)) ≠ 0) (h4 : ¬ root.kind ≠ 2) : resolveM S root p k = resLoop S p (k + 1) root k := by
 unfold resolveM; rw [if_neg (resolve_go0 (S := S) (root := root) h1 h2 h3), if_neg h4]; rfl
section
variable {S : StoreM} {p m l : Nat} {c : CapM}
theorem rl_e (h : S.radix c.object = 0 ∨ nxtOk l c.bits = false ∨ (nxtV p l c.bits : Int) ≠ c.guard) : resLoop S p (m + 1) c l = errS 6 := by rw [resLoop, if_pos h]
theorem rl_n (h5 : ¬ S.radix c.object = 0) (h6 : ¬ ¬ (0 ≤ c.bits ∧ c.bits ≤ (l : Int))) (h7 : ¬ (nxtV p l c.bits : Int) ≠ c.guard) :
    ¬ (S.radix c.object = 0 ∨ nxtOk l c.bits = false ∨ (nxtV p l c.bits : Int) ≠ c.guard) := by
  rintro (h | h | h)
  · exact h5 h
  · exact h6 (of_decide_eq_false h)
  · exact h7 h
theorem rl_e2 (h : ¬ (S.radix c.object = 0 ∨ nxtOk l c.bits = false ∨ (nxtV p l c.bits : Int) ≠ c.guard)) (h2 : nxtOk (nxtL l c.bits) (S.radix c.object) = false) : resLoop S p (m + 1) c l = errS 6 := by
 rw [resLoop, if_neg h, if_pos h2]
theorem rl_f (h : ¬ (S.radix c.object = 0 ∨ nxtOk l c.bits = false ∨ (nxtV p l c.bits : Int) ≠ c.guard)) (h2 : ¬ nxtOk (nxtL l c.bits) (S.radix c.object) = false)
    (h3 : nxtL (nxtL l c.bits) (S.radix c.object) = 0 ∨ (S.get (c.object, (nxtV p (nxtL l c.bits) (S.radix c.object) : Int))).1.kind ≠ 2) :
    resLoop S p (m + 1) c l = ((c.object, (nxtV p (nxtL l c.bits) (S.radix c.object) : Int)), (nxtL (nxtL l c.bits) (S.radix c.object) : Int), 0) := by
  rw [resLoop, if_neg h, if_neg h2, if_pos h3]
theorem rl_g (h : ¬ (S.radix c.object = 0 ∨ nxtOk l c.bits = false ∨ (nxtV p l c.bits : Int) ≠ c.guard)) (h2 : ¬ nxtOk (nxtL l c.bits) (S.radix c.object) = false)
    (h3 : ¬ (nxtL (nxtL l c.bits) (S.radix c.object) = 0 ∨ (S.get (c.object, (nxtV p (nxtL l c.bits) (S.radix c.object) : Int))).1.kind ≠ 2)) :
    resLoop S p (m + 1) c l = resLoop S p m (S.get (c.object, (nxtV p (nxtL l c.bits) (S.radix c.object) : Int))).1 (nxtL (nxtL l c.bits) (S.radix c.object)) := by
  rw [resLoop, if_neg h, if_neg h2, if_neg h3]
end
end Go.Proofs.YtipncceiekalfaaGreat
end
section
set_option linter.unusedVariables false
set_option linter.unusedSimpArgs false
namespace Go.Proofs.YtipncceiekalfaaGreat
open Go.SL
def capM (S : StoreM) (root : CapM) (p : Nat) : SlotM × CapM × Int :=
  if (resolveM S root p 16).2.2 ≠ 0 then ((0, 0), CapM.zero, (resolveM S root p 16).2.2)
  else if (S.get (resolveM S root p 16).1).1.kind = 0 then ((0, 0), CapM.zero, 3)
  else ((resolveM S root p 16).1, (S.get (resolveM S root p 16).1).1, 0)
section
variable {S : StoreM} {p m l : Nat} {c : CapM}
end
structure PutM where
  slot : SlotM
  c : CapM
abbrev PutM.cells (o : PutM) : List Value := [.int .i64 o.slot.1, .int .i64 o.slot.2, .int .i64 o.c.kind, .int .i64 o.c.object, .int .i64 o.c.rights, .int .u64 o.c.badge, .int .u64 o.c.guard, .int .i64 o.c.bits]
end Go.Proofs.YtipncceiekalfaaGreat
end
section
set_option linter.unusedVariables false
set_option linter.unusedSimpArgs false
set_option linter.unusedSectionVars false
namespace Go.Proofs.YtipncceiekalfaaGreat
open Go.SL
section
variable {S S1 : StoreM} (hg : ∀ s, S.get s = S1.get s) (hr : ∀ id, S.radix id = S1.radix id)
include hg hr
theorem resLoop_congr {p : Nat} : ∀ (k : Nat) (c : CapM) (l : Nat), resLoop S p k c l = resLoop S1 p k c l
  | 0, _, _ => rfl
  | k + 1, c, l => by
    simp only [resLoop, hg, hr]
    rw [resLoop_congr k]
theorem resolve_congr (root : CapM) (p : Nat) (depth : Int) : resolveM S root p depth = resolveM S1 root p depth := by
 unfold resolveM; rw [resLoop_congr hg hr]
theorem find_congr (root : CapM) (p : Nat) (depth : Int) : gFindM S root p depth = gFindM S1 root p depth := by
 unfold gFindM; rw [resolve_congr hg hr]
theorem cap_congr (root : CapM) (p : Nat) : capM S root p = capM S1 root p := by
 unfold capM; rw [resolve_congr hg hr, hg]
end
end Go.Proofs.YtipncceiekalfaaGreat
end
section
set_option linter.unusedVariables false
set_option linter.unusedSimpArgs false
set_option linter.unusedSectionVars false
namespace Go.Proofs.YtipncceiekalfaaGreat
open Go.SL
theorem PS.ext' {p q : PS} (h1 : p.l = q.l) (h2 : p.F = q.F) : p = q := by cases p; cases q; simp only at h1 h2; rw [h1, h2]
end Go.Proofs.YtipncceiekalfaaGreat
end
section
set_option linter.unusedVariables false
set_option linter.unusedSimpArgs false
set_option linter.unusedSectionVars false
namespace Go.Proofs.YtipncceiekalfaaGreat
open Go.SL
theorem HasS.drop {l : List DN} (h : HasS l) (id : Int) : HasS (ddrop l id).2 := by
 obtain ⟨S, hR⟩ := h
 unfold ddrop
 cases e : dfind l id with
 | none => exact ⟨S, hR⟩
 | some d =>
  dsimp only
  split
  ·
   exact ⟨_, rel_del hR e⟩
  ·
   exact ⟨S, hR⟩
theorem POk.same {p : PS} (hp : POk p) {l : List DN} (hl : HasS l) (hg : ∀ s, (dget l s).1 = (dget p.l s).1) : POk ⟨l, p.F⟩ := ⟨hl, hp.nd, fun s => by rw [hg]; exact hp.on s⟩
theorem POk.node {p : PS} (hp : POk p) (id r : Int) : POk (mNode p id r).2 := hp.same (hp.rel.add id r) (aadd_get hp.rel id r)
theorem WOk.same {p : PS} (hp : WOk p) {l : List DN} (hl : HasS l) (hg : ∀ s, (dget l s).1 = (dget p.l s).1) : WOk ⟨l, p.F⟩ := ⟨hp.ok.same hl hg, fun s => by rw [hg]; exact hp.rg s, fun t x hx => by rw [hg, hg]; exact hp.weak t x hx⟩
theorem WOk.node {p : PS} (hp : WOk p) (id r : Int) : WOk (mNode p id r).2 := hp.same (hp.ok.rel.add id r) (aadd_get hp.ok.rel id r)
end Go.Proofs.YtipncceiekalfaaGreat
end
section
set_option linter.unusedVariables false
set_option linter.unusedSimpArgs false
namespace Go.Proofs.YtipncceiekalfaaGreat
open Go.SL
structure OpC.Rg (o : OpC) : Prop where
  c : o.c.Rg
  rights : i64R o.rights
  badge : u64R o.badge
  guard : u64R o.guard
end Go.Proofs.YtipncceiekalfaaGreat
end
section
set_option linter.unusedVariables false
set_option linter.unusedSimpArgs false
set_option linter.unusedSectionVars false
namespace Go.Proofs.YtipncceiekalfaaGreat
open Go.SL
structure ROk (p : PS) : Prop where
  ok : POk p
  rg : ∀ s, (dget p.l s).1.Rg
theorem ROk.new : ROk PS.new := by
 refine ⟨⟨hasS_nil, List.nodup_nil, fun s => ?_⟩, fun s => ?_⟩
 ·
  show s ∈ ([] : List SlotM) ↔ _
  simp [PS.new, dget, dcap?, dfind]
 ·
  simp only [PS.new, dget, dcap?, dfind]; exact zero_rg
theorem rg_put {l : List DN} (h : HasS l) (hr : ∀ s, (dget l s).1.Rg) (s : SlotM) {c : CapM} (hc : c.Rg) (t : SlotM) : (dget (dput l s c).2 t).1.Rg := by
 by_cases h0 : (dput l s c).1 = 0
 ·
  rw [put_get h h0]; split
  ·
   exact hc
  ·
   exact hr t
 ·
  rw [dput_no h0]; exact hr t
theorem rg_take {l : List DN} (h : HasS l) (hr : ∀ s, (dget l s).1.Rg) (s : SlotM) (t : SlotM) : (dget (dtake l s).2.2 t).1.Rg := by
 by_cases h0 : (dget l s).1.kind = 0
 ·
  rw [take_no h (fun e => (take_iff h).1 e h0)]; exact hr t
 ·
  rw [take_get h h0]; split
  ·
   exact zero_rg
  ·
   exact hr t
section
variable {p : PS} (h : ROk p)
include h
theorem ROk.node (id r : Int) : ROk (mNode p id r).2 := ⟨h.ok.node id r, fun s => by
 show (dget (dadd p.l id r).2 s).1.Rg
 rw [aadd_get h.ok.rel]; exact h.rg s⟩
theorem ROk.plant (s : SlotM) {c : CapM} (hc : c.Rg) : ROk (mPlant p s c).2 := ⟨h.ok.plant s c, rg_put h.ok.rel h.rg s hc⟩
theorem ROk.child (o s : SlotM) {c : CapM} (hc : c.Rg) : ROk (mChild p o s c).2 := by
 refine ⟨h.ok.child o s c, fun t => ?_⟩
 unfold mChild
 split
 ·
  exact h.rg t
 ·
  exact rg_put h.ok.rel h.rg s hc t
theorem ROk.mint (s d : SlotM) {r bd g n : Int} (hr : i64R r) (hb : u64R bd) (hg : u64R g) : ROk (mMint p s d r bd g n).2 := by
 unfold mMint
 split
 ·
  exact h
 ·
  rename_i hbo
  split
  ·
   exact h
  ·
   rename_i hd
   obtain ⟨e1, e2, _⟩ := both_ok (Decidable.not_not.1 hbo)
   have hd0 := Decidable.not_not.1 hd
   rw [e1] at hd0 ⊢
   exact h.child s d (derive_rg (h.rg s) hr hb hg hd0)
theorem ROk.copy (s d : SlotM) {r : Int} (hr : i64R r) : ROk (mCopy p s d r).2 := h.mint s d hr (by unfold u64R; decide) (h.rg s).guard
theorem ROk.take (s : SlotM) : ROk (mTake p s).2.2 := ⟨h.ok.take s, rg_take h.ok.rel h.rg s⟩
end
end Go.Proofs.YtipncceiekalfaaGreat
end
section
set_option linter.unusedVariables false
set_option linter.unusedSimpArgs false
set_option linter.unusedSectionVars false
namespace Go.Proofs.YtipncceiekalfaaGreat
open Go.SL
def rslG (g : SlotM → CapM) (rd : Int → Int) (p : Nat) : Nat → CapM → Nat → SlotM × Int × Int
  | 0, _, _ => errS 6
  | k + 1, c, l =>
    if rd c.object = 0 ∨ nxtOk l c.bits = false ∨ (nxtV p l c.bits : Int) ≠ c.guard then errS 6
    else if nxtOk (nxtL l c.bits) (rd c.object) = false then errS 6
    else if nxtL (nxtL l c.bits) (rd c.object) = 0 ∨ (g (c.object, (nxtV p (nxtL l c.bits) (rd c.object) : Int))).kind ≠ 2 then
      ((c.object, (nxtV p (nxtL l c.bits) (rd c.object) : Int)), (nxtL (nxtL l c.bits) (rd c.object) : Int), 0)
    else rslG g rd p k (g (c.object, (nxtV p (nxtL l c.bits) (rd c.object) : Int))) (nxtL (nxtL l c.bits) (rd c.object))
theorem rsl_eq (S : StoreM) (p : Nat) : ∀ (k : Nat) (c : CapM) (l : Nat), resLoop S p k c l = rslG (fun s => (S.get s).1) S.radix p k c l
  | 0, _, _ => rfl
  | k + 1, c, l => by
    simp only [resLoop, rslG]
    rw [rsl_eq S p k]
def resG (g : SlotM → CapM) (rd : Int → Int) (root : CapM) (p : Nat) (depth : Int) : SlotM × Int × Int :=
  if depth < 1 ∨ 16 < depth ∨ p / 2 ^ depth.toNat ≠ 0 then errS 1
  else if root.kind ≠ 2 then errS 2
  else rslG g rd p (depth.toNat + 1) root depth.toNat
theorem res_eq (S : StoreM) (root : CapM) (p : Nat) (depth : Int) : resolveM S root p depth = resG (fun s => (S.get s).1) S.radix root p depth := by
 unfold resolveM resG; rw [rsl_eq]
def Kn.res (k : Kn) (root : CapM) (p : Int) (depth : Int) : SlotM × Int × Int := resG (fun s => (dget k.p.l s).1) (dradix k.p.l) root p.toNat depth
def Kn.find (k : Kn) (root : CapM) (p : Int) : SlotM × CapM × Int :=
  if (k.res root p 16).2.2 ≠ 0 then ((0, 0), CapM.zero, (k.res root p 16).2.2)
  else if (dget k.p.l (k.res root p 16).1).1.kind = 0 then ((0, 0), CapM.zero, 3)
  else ((k.res root p 16).1, (dget k.p.l (k.res root p 16).1).1, 0)
def Kn.slot (k : Kn) (root : CapM) (p : Int) (depth : Int) : SlotM × Int :=
  if (k.res root p depth).2.2 ≠ 0 then ((0, 0), (k.res root p depth).2.2)
  else if 0 < (k.res root p depth).2.1 then ((0, 0), 6)
  else ((k.res root p depth).1, 0)
theorem res_rel {S : StoreM} {k : Kn} (h : Rel S k.p.l) (root : CapM) (p depth : Int) : resolveM S root p.toNat depth = k.res root p depth := by
 rw [res_eq]
 unfold Kn.res
 congr 1
 ·
  funext s; rw [rel_get h]
 ·
  funext i; rw [rel_radix h]
theorem find_rel {S : StoreM} {k : Kn} (h : Rel S k.p.l) (root : CapM) (p : Int) : capM S root p.toNat = k.find root p := by
 unfold capM Kn.find; rw [res_rel h]; simp only [rel_get h]
theorem slot_rel {S : StoreM} {k : Kn} (h : Rel S k.p.l) (root : CapM) (p depth : Int) : gFindM S root p.toNat depth = k.slot root p depth := by
 unfold gFindM Kn.slot; rw [res_rel h]
theorem rsl_err {g : SlotM → CapM} {rd : Int → Int} {p : Nat} : ∀ (k : Nat) (c : CapM) (l : Nat), (rslG g rd p k c l).2.2 = 0 ∨ (rslG g rd p k c l).2.2 = 6
  | 0, _, _ => .inr rfl
  | k + 1, c, l => by
    unfold rslG
    split
    · exact .inr rfl
    · split
      · exact .inr rfl
      · split
        · exact .inl rfl
        · exact rsl_err k _ _
theorem res_err (k : Kn) (root : CapM) (p depth : Int) : 0 ≤ (k.res root p depth).2.2 ∧ (k.res root p depth).2.2 < 100 := by
 unfold Kn.res resG
 split
 ·
  decide
 ·
  split
  ·
   decide
  ·
   rcases rsl_err (g := fun s => (dget k.p.l s).1) (rd := dradix k.p.l) (p := p.toNat) (depth.toNat + 1) root depth.toNat with h | h <;> rw [h] <;> decide
theorem find_err (k : Kn) (root : CapM) (p : Int) : 0 ≤ (k.find root p).2.2 ∧ (k.find root p).2.2 < 100 := by
 unfold Kn.find
 split
 ·
  exact res_err ..
 ·
  split <;> exact ⟨by dsimp only; omega, by dsimp only; omega⟩
theorem find_yes {k : Kn} {root : CapM} {p : Int} (h : (k.find root p).2.2 = 0) : (k.find root p).2.1 = (dget k.p.l (k.find root p).1).1 ∧ (k.find root p).2.1.kind ≠ 0 := by
 unfold Kn.find at *
 split
 ·
  rename_i h1; rw [if_pos h1] at h; exact absurd h h1
 ·
  split
  ·
   rename_i h1 h2; rw [if_neg h1, if_pos h2] at h; cases h
  ·
   rename_i h2; exact ⟨rfl, h2⟩
def Kn.epI (k : Kn) (n : Int) : Option (Nat × Ep) := match k.ix n with
  | none => none
  | some j => match k.ar[j]? with
    | some ⟨.ep S, _⟩ => some (j, S)
    | _ => none
def Kn.ntI (k : Kn) (n : Int) : Option (Nat × Nt) := match k.ix n with
  | none => none
  | some j => match k.ar[j]? with
    | some ⟨.nt S, _⟩ => some (j, S)
    | _ => none
theorem epI_ex {k : Kn} {n : Int} {x : Nat × Ep} (h : k.epI n = some x) : ∃ sp, k.ix n = some x.1 ∧ k.ar[x.1]? = some ⟨.ep x.2, sp⟩ := by
 unfold Kn.epI at h
 split at h
 ·
  cases h
 ·
  rename_i j hj
  split at h
  ·
   rename_i S sp he; cases h; exact ⟨sp, hj, he⟩
  ·
   cases h
theorem ntI_ex {k : Kn} {n : Int} {x : Nat × Nt} (h : k.ntI n = some x) : ∃ sp, k.ix n = some x.1 ∧ k.ar[x.1]? = some ⟨.nt x.2, sp⟩ := by
 unfold Kn.ntI at h
 split at h
 ·
  cases h
 ·
  rename_i j hj
  split at h
  ·
   rename_i S sp he; cases h; exact ⟨sp, hj, he⟩
  ·
   cases h
theorem ntI_eq {k : Kn} {n : Int} {j : Nat} {S : Nt} {sp : Int × Int} (hi : k.ix n = some j) (he : k.ar[j]? = some ⟨.nt S, sp⟩) : k.ntI n = some (j, S) := by
 unfold Kn.ntI; rw [hi]; dsimp only; rw [he]
theorem ep_is {k : Kn} (hw : KW k) (n : Int) : gIs k n 114 = (k.epI n).isSome := by
 cases hi : k.ix n with
 | none => rw [gIs_none hi]; unfold Kn.epI; rw [hi]; rfl
 | some i =>
  obtain ⟨⟨th, sp⟩, he⟩ := hw.en hi
  rw [gIs_some hi he]; unfold Kn.epI; rw [hi]; dsimp only; rw [he]
  cases th <;> rfl
theorem nt_is {k : Kn} (hw : KW k) (n : Int) : gIs k n 120 = (k.ntI n).isSome := by
 cases hi : k.ix n with
 | none => rw [gIs_none hi]; unfold Kn.ntI; rw [hi]; rfl
 | some i =>
  obtain ⟨⟨th, sp⟩, he⟩ := hw.en hi
  rw [gIs_some hi he]; unfold Kn.ntI; rw [hi]; dsimp only; rw [he]
  cases th <;> rfl
def Kn.setEp (k : Kn) (j : Nat) (S : Ep) : Kn := { k with ar := setA k.ar j (.ep S) }
def Kn.setNt (k : Kn) (j : Nat) (S : Nt) : Kn := { k with ar := setA k.ar j (.nt S) }
def wthR (a b : Int) : Bool := rightsOk a && rightsOk b && decide (bitsI .andNot .i64 a b = 0)
def Kn.withR (k : Kn) (c : CapM) (p kind right : Int) : CapM × Int :=
  if (k.find c p).2.2 ≠ 0 then (.zero, (k.find c p).2.2)
  else if (k.find c p).2.1.kind ≠ kind then (.zero, 2)
  else if wthR right (k.find c p).2.1.rights = false then (.zero, 5)
  else ((k.find c p).2.1, 0)
theorem with_err (k : Kn) (c : CapM) (p kind right : Int) : 0 ≤ (k.withR c p kind right).2 ∧ (k.withR c p kind right).2 < 100 := by
 unfold Kn.withR
 split
 ·
  exact find_err ..
 ·
  split
  ·
   decide
  ·
   split
   ·
    decide
   ·
    exact ⟨Int.le_refl 0, (by decide : (0 : Int) < 100)⟩
theorem with_yes {k : Kn} {c : CapM} {p kind right : Int} (h : (k.withR c p kind right).2 = 0) : (k.withR c p kind right).1 = (dget k.p.l (k.find c p).1).1 ∧ (k.withR c p kind right).1.kind = kind := by
 unfold Kn.withR at *
 split at h
 ·
  rename_i h1; exact absurd h h1
 ·
  rename_i h1
  split at h
  ·
   cases h
  ·
   rename_i h2
   split at h
   ·
    cases h
   ·
    rename_i h3
    rw [if_neg h1, if_neg h2, if_neg h3]
    exact ⟨(find_yes (Decidable.not_not.1 h1)).1, Decidable.not_not.1 h2⟩
def Kn.carryB (k : Kn) (fr to : ThrM) (cf ct : CapM) (may : Int) : Bool :=
  infCap fr.regs.r0.toNat && wthR 4 may && decide ((k.find cf fr.regs.r6).2.2 = 0 ∧ (k.slot ct to.regs.r6 16).2 = 0)
def Kn.carryK (k : Kn) (fr to : ThrM) (cf ct : CapM) (may : Int) : Kn :=
  if k.carryB fr to cf ct may then { k with p := (mCopy k.p (k.find cf fr.regs.r6).1 (k.slot ct to.regs.r6 16).1 7).2, nk := k.nk + 1 } else k
def Kn.send (k : Kn) (n : Int) (i : Nat) (wt calls : Bool) : Kn := match k.thI i with
  | none => k
  | some (t, c, _, _) =>
    if (k.withR c t.regs.r7 4 2).2 ≠ 0 then k.tell i (k.withR c t.regs.r7 4 2).2
    else if infE t.regs.r0.toNat ≠ 0 then k.tell i (infE t.regs.r0.toNat)
    else match k.epI (k.withR c t.regs.r7 4 2).1.object with
    | none => k
    | some (j, S) =>
      let k1 := k.setEp j (meetS S n 1 wt)
      if meetB S n 1 = true then
        match k1.ix (meetV S n 1) with
        | none => k1
        | some m => match k1.thI m with
          | none => k1
          | some (w, cw, _, _) =>
            let k2 := (k1.carryK t w c cw (k.withR c t.regs.r7 4 2).1.rights).wake (meetV S n 1) (carryM t.regs w.regs (k.withR c t.regs.r7 4 2).1.badge).1
            if calls = true then (k2.wait i n 4 0 0 false).setI m (fun u => { u with caller := n }) else k2.tell i 0
      else if wt = true then k1.wait i n 2 (k.withR c t.regs.r7 4 2).1.object (k.withR c t.regs.r7 4 2).1.badge calls
      else k1.tell i 0
def mayR (k : Kn) (f : ThrM) (cf : CapM) (on : Int) : Int :=
  if (k.find cf f.regs.r7).2.2 = 0 ∧ (k.find cf f.regs.r7).2.1.kind = 4 ∧ (k.find cf f.regs.r7).2.1.object = on then (k.find cf f.regs.r7).2.1.rights else 0
def Kn.meet (k : Kn) (i : Nat) (m on : Int) : Kn := match k.thI i with
  | none => k
  | some (t, c, _, _) => match k.ix m with
    | none => k
    | some j => match k.thI j with
      | none => k
      | some (f, cf, _, _) =>
        let k1 := (k.carryK f t cf c (mayR k f cf on)).setI i (fun u => { u with regs := (carryM f.regs t.regs f.badge).1 })
        if f.calls = false then k1.excuse m 0
        else (k1.setI j (fun u => { stopT u with st := 4 })).setI i (fun u => { u with caller := m })
def Kn.recv1 (k : Kn) (n : Int) (i : Nat) (wt : Bool) (on : Int) : Kn := match k.epI on with
  | none => k
  | some (j, S) =>
    let k1 := k.setEp j (meetS S n 2 wt)
    if meetB S n 2 = true then k1.meet i (meetV S n 2) on
    else if wt = true then k1.wait i n 3 on 0 false
    else k1.tell i 3
def Kn.recv (k : Kn) (n : Int) (i : Nat) (wt : Bool) : Kn := match k.thI i with
  | none => k
  | some (t, c, _, b) =>
    if (k.withR c t.regs.r7 4 1).2 ≠ 0 then k.tell i (k.withR c t.regs.r7 4 1).2
    else
      let k1 := k.orphan i
      match k1.ntI b with
      | some (j, S) => if S.w ≠ 0 then (k1.setNt j (wtS S n false)).word i S.w else k1.recv1 n i wt (k.withR c t.regs.r7 4 1).1.object
      | none => k1.recv1 n i wt (k.withR c t.regs.r7 4 1).1.object
def Kn.reply (k : Kn) (i : Nat) : Kn × Bool := match k.thI i with
  | none => (k, false)
  | some (t, _, _, _) => match k.thr t.caller with
    | none => (k.tell i 8, false)
    | some (w, _, _, _) =>
      if (carryM t.regs w.regs 0).2 = 0 then (((k.setI i (fun u => { u with caller := -1 })).wake t.caller (carryM t.regs w.regs 0).1).tell i 0, true)
      else (k.tell i (carryM t.regs w.regs 0).2, false)
def ntBd (k : Kn) (S : Nt) : Bool := match k.thr (S.b.headD 0) with
  | none => false
  | some x => decide (x.1.st = 3)
def Kn.notify (k : Kn) (on badge : Int) : Kn := match k.ntI on with
  | none => k
  | some (j, S) =>
    let k1 := k.setNt j (sgS S badge (ntBd k S))
    if sgB S (ntBd k S) = false then k1
    else match k1.thr (sgV S (ntBd k S)) with
    | none => k1
    | some (w, _, _, _) => (k1.cancelE w.on (sgV S (ntBd k S))).wake (sgV S (ntBd k S)) { ansR w.regs 0 with r5 := sgW S badge (ntBd k S) }
def Kn.await (k : Kn) (n : Int) (i : Nat) (wt : Bool) : Kn := match k.thI i with
  | none => k
  | some (t, c, _, _) =>
    if (k.withR c t.regs.r7 5 1).2 ≠ 0 then k.tell i (k.withR c t.regs.r7 5 1).2
    else match k.ntI (k.withR c t.regs.r7 5 1).1.object with
    | none => k
    | some (j, S) =>
      let k1 := k.setNt j (wtS S n wt)
      if wtB S n = true then k1.word i (wtW S n)
      else if wt = true then k1.wait i n 5 (k.withR c t.regs.r7 5 1).1.object 0 false
      else k1.tell i 3
def Kn.call (k : Kn) (n : Int) (i : Nat) (c : Int) : Kn :=
  if c = 0 ∨ c = 1 ∨ c = 2 then k.send n i (decide (c ≠ 1)) (decide (c = 2))
  else if c = 3 ∨ c = 4 then k.recv n i (decide (c = 3))
  else if c = 5 then (k.reply i).1
  else if c = 6 then (match k.thI i with
    | none => k
    | some (t, _, _, _) => if t.caller = -1 then k.recv n i true else if (k.reply i).2 = true then (k.reply i).1.recv n i true else (k.reply i).1)
  else if c = 7 then ({ k with L := syL k.L n } : Kn).tell i 0
  else if c = 8 then (match k.thI i with
    | none => k
    | some (t, cr, _, _) => if (k.withR cr t.regs.r7 5 2).2 ≠ 0 then k.tell i (k.withR cr t.regs.r7 5 2).2 else (k.notify (k.withR cr t.regs.r7 5 2).1.object (k.withR cr t.regs.r7 5 2).1.badge).tell i 0)
  else if c = 9 ∨ c = 10 then k.await n i (decide (c = 9))
  else k.tell i 13
structure KX (k : Kn) : Prop where
  kw : KW k
  rok : ROk k.p
structure Kq (m : Nat) (k k' : Kn) : Prop where
  kp : Kp k k'
  nk : k'.nk ≤ k.nk + m
section
variable {k k' k2 : Kn}
theorem Kq.refl (k : Kn) : Kq 0 k k := ⟨Kp.refl _, Nat.le_refl _⟩
theorem Kq.trans {m n : Nat} (h : Kq m k k') (g : Kq n k' k2) : Kq (m + n) k k2 := ⟨h.kp.trans g.kp, by have := h.nk; have := g.nk; omega⟩
theorem Kq.le {m n : Nat} (h : Kq m k k') (hm : m ≤ n) : Kq n k k' := ⟨h.kp, by have := h.nk; omega⟩
end
end Go.Proofs.YtipncceiekalfaaGreat
end
section
set_option linter.unusedVariables false
set_option linter.unusedSimpArgs false
set_option linter.unusedSectionVars false
namespace Go.Proofs.YtipncceiekalfaaGreat
open Go.SL
abbrev PN (k k' : Kn) : Prop := k'.p = k.p ∧ k'.nk = k.nk
theorem PN.trans {a b c : Kn} (h : PN a b) (g : PN b c) : PN a c := ⟨g.1.trans h.1, g.2.trans h.2⟩
theorem setI_pn (k : Kn) (i : Nat) (f : ThrM → ThrM) : PN k (k.setI i f) := by unfold Kn.setI; split <;> exact ⟨rfl, rfl⟩
theorem setThr_pn (k : Kn) (n : Int) (f : ThrM → ThrM) : PN k (k.setThr n f) := by
 unfold Kn.setThr; split
 ·
  exact setI_pn ..
 ·
  exact ⟨rfl, rfl⟩
theorem be_pn (k : Kn) (n : Int) (x : ThrM) : PN k (k.be n x) := setThr_pn k n _
theorem wake_pn (k : Kn) (n : Int) (r : RegsM) : PN k (k.wake n r) := by
 unfold Kn.wake; split
 ·
  exact ⟨rfl, rfl⟩
 ·
  split
  ·
   exact be_pn ..
  ·
   exact ⟨rfl, rfl⟩
theorem excuse_pn (k : Kn) (n e : Int) : PN k (k.excuse n e) := by
 unfold Kn.excuse; split
 ·
  exact ⟨rfl, rfl⟩
 ·
  exact wake_pn ..
theorem orphan_pn (k : Kn) (i : Nat) : PN k (k.orphan i) := by
 unfold Kn.orphan; split
 ·
  exact ⟨rfl, rfl⟩
 ·
  split
  ·
   exact (setI_pn k i _).trans (excuse_pn _ _ _)
  ·
   exact ⟨rfl, rfl⟩
theorem cancelE_pn (k : Kn) (on n : Int) : PN k (k.cancelE on n) := by
 unfold Kn.cancelE
 split
 ·
  exact ⟨rfl, rfl⟩
 ·
  split <;> exact ⟨rfl, rfl⟩
theorem cancelN_pn (k : Kn) (on n : Int) : PN k (k.cancelN on n) := by
 unfold Kn.cancelN
 split
 ·
  exact ⟨rfl, rfl⟩
 ·
  split <;> exact ⟨rfl, rfl⟩
theorem allT_pn (k : Kn) (f : ThrM → ThrM) : ∀ m : Nat, PN k (k.allT f m)
  | 0 => ⟨rfl, rfl⟩
  | m + 1 => (allT_pn k f m).trans (setThr_pn _ _ _)
theorem halt_pn (k : Kn) (n : Int) : PN k (k.halt n) := by
 unfold Kn.halt; split
 ·
  exact ((((cancelE_pn ..).trans (cancelN_pn ..)).trans (be_pn ..)).trans (orphan_pn ..)).trans (allT_pn ..)
 ·
  exact ⟨rfl, rfl⟩
theorem wait_pn (k : Kn) (i : Nat) (n st on badge : Int) (calls : Bool) : PN k (k.wait i n st on badge calls) := by
 unfold Kn.wait; split
 ·
  exact ⟨rfl, rfl⟩
 ·
  split
  ·
   exact be_pn ..
  ·
   exact ⟨rfl, rfl⟩
theorem KX.of {k k' : Kn} (h : KX k) (hw : KW k' ∧ Kp k k') (hp : PN k k') : KX k' ∧ Kq 0 k k' := ⟨⟨hw.1, by rw [hp.1]; exact h.rok⟩, hw.2, by rw [hp.2]; exact Nat.le_refl _⟩
theorem u64_lt {e : Int} (h : 0 ≤ e ∧ e < 100) : U64 e := ⟨h.1, by omega⟩
theorem blk_w {t : ThrM} (h : ThW t) {s on badge : Int} {calls : Bool} (h0 : (blockTM t s on badge calls).2 = 0) : ThW (blockTM t s on badge calls).1 := by
 unfold blockTM at *
 split at h0
 ·
  rename_i hc
  rw [if_pos hc]
  unfold blockE at hc
  split at hc
  ·
   rename_i h1; exact absurd hc h1
  ·
   split at hc
   ·
    cases hc
   ·
    split at hc
    ·
     cases hc
    ·
     unfold chkT at hc
     split at hc
     ·
      cases hc
     ·
      rename_i h1
      split at hc
      ·
       cases hc
      ·
       rename_i h2
       simp only [not_or, Decidable.not_not, blkT] at h1 h2
       obtain ⟨_, h3, h4, _⟩ := h2
       have h5 : 0 ≤ badge ∧ badge < 268435456 := by
        rw [Int.fdiv_eq_ediv_of_nonneg _ (by decide)] at h4
        omega
       exact ⟨⟨by unfold I64; dsimp only [blkT]; omega, by unfold I64; dsimp only [blkT]; omega, by unfold U64; dsimp only [blkT]; omega, h.wf.caller, h.wf.lvl, h.wf.dom, h.wf.pc, h.wf.regs⟩, h.pc⟩
 ·
  rename_i hc; exact absurd h0 hc
section
variable {k : Kn} (h : KX k)
include h
theorem KX.setI (i : Nat) {f : ThrM → ThrM} (hf : ∀ t, ThW t → ThW (f t)) : KX (k.setI i f) ∧ Kq 0 k (k.setI i f) := h.of (h.kw.setI i hf) (setI_pn k i f)
theorem KX.caller (i : Nat) {m : Int} (hm : I64 m) : KX (k.setI i (fun u => { u with caller := m })) ∧ Kq 0 k (k.setI i (fun u => { u with caller := m })) := h.setI i fun t ht => ht.caller hm
theorem KX.tell (i : Nat) {e : Int} (he : 0 ≤ e ∧ e < 100) : KX (k.tell i e) ∧ Kq 0 k (k.tell i e) := h.setI i fun t ht => ht.regs (ans_ok ht.wf.regs (u64_lt he))
theorem KX.word (i : Nat) {w : Int} (hw : U64 w) : KX (k.word i w) ∧ Kq 0 k (k.word i w) := h.setI i fun t ht => ht.regs ⟨(by decide : U64 0), ht.wf.regs.o1, ht.wf.regs.o2, ht.wf.regs.o3, ht.wf.regs.o4, hw, ht.wf.regs.o6, ht.wf.regs.o7⟩
theorem KX.wake (n : Int) {r : RegsM} (hr : r.Ok) : KX (k.wake n r) ∧ Kq 0 k (k.wake n r) := h.of (h.kw.wake n hr) (wake_pn ..)
theorem KX.excuse (n : Int) {e : Int} (he : 0 ≤ e ∧ e < 100) : KX (k.excuse n e) ∧ Kq 0 k (k.excuse n e) := h.of (h.kw.excuse n (u64_lt he)) (excuse_pn ..)
theorem KX.orphan (i : Nat) : KX (k.orphan i) ∧ Kq 0 k (k.orphan i) := h.of (h.kw.orphan i) (orphan_pn ..)
theorem KX.cancelE (on n : Int) : KX (k.cancelE on n) ∧ Kq 0 k (k.cancelE on n) := h.of (h.kw.cancelE on n) (cancelE_pn ..)
theorem KX.halt (n : Int) : KX (k.halt n) ∧ Kq 0 k (k.halt n) := h.of (h.kw.halt n) (halt_pn ..)
theorem KX.wait (i : Nat) (n st on badge : Int) (calls : Bool) : KX (k.wait i n st on badge calls) ∧ Kq 0 k (k.wait i n st on badge calls) := by
 refine h.of ?_ (wait_pn ..)
 unfold Kn.wait
 split
 ·
  exact ⟨h.kw, Kp.refl _⟩
 ·
  rename_i x hx
  split
  ·
   rename_i h0
   obtain ⟨sp, he⟩ := thI_ex hx
   exact h.kw.be n (blk_w (h.kw.ths i _ he).1 h0)
  ·
   exact ⟨h.kw, Kp.refl _⟩
theorem KX.setEp {j : Nat} {S S' : Ep} {sp : Int × Int} (he : k.ar[j]? = some ⟨.ep S, sp⟩) (hn : N64 S'.l) : KX (k.setEp j S') ∧ Kq 0 k (k.setEp j S') :=
  h.of ⟨h.kw.setA hn, Kp.other he (by intro t c s b; simp)⟩ ⟨rfl, rfl⟩
theorem KX.setNt {j : Nat} {S S' : Nt} {sp : Int × Int} (he : k.ar[j]? = some ⟨.nt S, sp⟩) (hn : N64 S'.l ∧ S'.b.length ≤ 1 ∧ U64 S'.w) : KX (k.setNt j S') ∧ Kq 0 k (k.setNt j S') :=
  h.of ⟨h.kw.setA hn, Kp.other he (by intro t c s b; simp)⟩ ⟨rfl, rfl⟩
theorem KX.yield (n : Int) : KX { k with L := syL k.L n } ∧ Kq 0 k { k with L := syL k.L n } :=
  h.of ⟨h.kw.setL (syW h.kw.rw n) (syR h.kw.rr n), ⟨rfl, fun i t c s b sp he => ⟨t, he⟩⟩⟩ ⟨rfl, rfl⟩
theorem KX.carryK (fr to : ThrM) (cf ct : CapM) (may : Int) (hn : k.nk < 2 ^ 18) : KX (k.carryK fr to cf ct may) ∧ Kq 1 k (k.carryK fr to cf ct may) := by
 unfold Kn.carryK
 split
 ·
  refine ⟨⟨⟨h.kw.len, h.kw.wok, by dsimp only; omega, h.kw.mp, h.kw.q, h.kw.at_, h.kw.rw, h.kw.rr, h.kw.ths, h.kw.tk⟩, h.rok.copy _ _ (by unfold i64R; decide)⟩, ⟨rfl, fun i t c s b sp he => ⟨t, he⟩⟩, Nat.le_refl _⟩
 ·
  exact ⟨h, (Kq.refl k).le (by omega)⟩
end
theorem carryK_ar (k : Kn) (fr to : ThrM) (cf ct : CapM) (may : Int) : (k.carryK fr to cf ct may).ar = k.ar ∧ (k.carryK fr to cf ct may).mp = k.mp := by unfold Kn.carryK; split <;> exact ⟨rfl, rfl⟩
theorem carry_ok {f t : RegsM} (hf : f.Ok) (ht : t.Ok) {b : Int} (hb : U64 b) : (carryM f t b).1.Ok := by
 unfold carryM
 split
 ·
  unfold carryR
  exact ⟨hf.o0, by dsimp only; split; exact hf.o1; exact ht.o1, by dsimp only; split; exact hf.o2; exact ht.o2, by dsimp only; split; exact hf.o3; exact ht.o3, by dsimp only; split; exact hf.o4; exact ht.o4, hb, ht.o6, ht.o7⟩
 ·
  exact RegsM.zero_ok
theorem meetS_n64 {S : Ep} (h : N64 S.l) (id way : Int) (wt : Bool) : N64 (meetS S id way wt).l := by
 unfold meetS
 split
 ·
  rename_i hp
  split
  ·
   exact h.sub (List.tail_sublist _)
  ·
   split
   ·
    exact h.push hp
   ·
    exact h
 ·
  exact h
theorem wtS_n64 {S : Nt} (h : N64 S.l ∧ S.b.length ≤ 1 ∧ U64 S.w) (id : Int) (wt : Bool) : N64 (wtS S id wt).l ∧ (wtS S id wt).b.length ≤ 1 ∧ U64 (wtS S id wt).w := by
 unfold wtS
 split
 ·
  rename_i hp
  split
  ·
   exact ⟨h.1.push hp, h.2⟩
  ·
   exact ⟨h.1, h.2.1, (by decide : U64 0)⟩
 ·
  exact h
theorem or_u64 (a b : Int) : U64 (orI a b) := u64_wrap _
theorem sgS_n64 {S : Nt} (h : N64 S.l ∧ S.b.length ≤ 1 ∧ U64 S.w) (x : Int) (b : Bool) : N64 (sgS S x b).l ∧ (sgS S x b).b.length ≤ 1 ∧ U64 (sgS S x b).w := by
 unfold sgS
 split
 ·
  exact ⟨h.1.sub (List.tail_sublist _), h.2⟩
 ·
  split
  ·
   exact ⟨h.1, h.2.1, (by decide : U64 0)⟩
  ·
   exact ⟨h.1, h.2.1, or_u64 _ _⟩
theorem sgW_u64 {S : Nt} {x : Int} (hx : U64 x) (b : Bool) : U64 (sgW S x b) := by
 unfold sgW
 split
 ·
  exact hx
 ·
  split
  ·
   exact or_u64 _ _
  ·
   decide
theorem with_badge {k : Kn} (h : KX k) (c : CapM) (p kind right : Int) : U64 (k.withR c p kind right).1.badge := by
 by_cases h0 : (k.withR c p kind right).2 = 0
 ·
  rw [(with_yes h0).1]
  have := (h.rok.rg (k.find c p).1).badge
  unfold u64R at this; unfold U64; omega
 ·
  unfold Kn.withR at *
  have z : U64 CapM.zero.badge := by decide
  split
  ·
   exact z
  ·
   split
   ·
    exact z
   ·
    split
    ·
     exact z
    ·
     rename_i h1 h2 h3; rw [if_neg h1, if_neg h2, if_neg h3] at h0; exact absurd rfl h0
theorem inf_err (w : Nat) : 0 ≤ infE w ∧ infE w < 100 := by rcases infE_cases w with h | h <;> rw [h] <;> decide
theorem carry_err (f t : RegsM) (b : Int) : 0 ≤ (carryM f t b).2 ∧ (carryM f t b).2 < 100 := by
 unfold carryM
 split
 ·
  exact ⟨Int.le_refl 0, (by decide : (0 : Int) < 100)⟩
 ·
  decide
theorem thI_w {k : Kn} (h : KX k) {i : Nat} {t : ThrM} {c : CapM} {s b : Int} (ht : k.thI i = some (t, c, s, b)) : ThW t := by
 obtain ⟨sp, he⟩ := thI_ex ht
 exact (h.kw.ths i _ he).1
theorem thr_w {k : Kn} (h : KX k) {n : Int} {t : ThrM} {c : CapM} {s b : Int} (ht : k.thr n = some (t, c, s, b)) : ThW t := h.kw.thrW ht
theorem ix_i64 {k : Kn} (h : KX k) {n : Int} {i : Nat} (hi : k.ix n = some i) : I64 n := by have := h.kw.num hi; unfold I64; omega
section
variable {k : Kn} (h : KX k) (hn : k.nk < 2 ^ 18)
include h hn
theorem KX.send (n : Int) (hI : I64 n) (i : Nat) (wt calls : Bool) : KX (k.send n i wt calls) ∧ Kq 1 k (k.send n i wt calls) := by
 have stay : KX k ∧ Kq 1 k k := ⟨h, (Kq.refl k).le (by omega)⟩
 unfold Kn.send
 split
 ·
  exact stay
 ·
  rename_i t c _ _ ht
  split
  ·
   obtain ⟨a, b⟩ := h.tell i (with_err k c t.regs.r7 4 2); exact ⟨a, b.le (by omega)⟩
  ·
   split
   ·
    obtain ⟨a, b⟩ := h.tell i (inf_err t.regs.r0.toNat); exact ⟨a, b.le (by omega)⟩
   ·
    split
    ·
     exact stay
    ·
     rename_i j S hj
     obtain ⟨sp, _, he⟩ := epI_ex hj
     obtain ⟨h1, q1⟩ := h.setEp he (meetS_n64 (h.kw.ths _ _ he) n 1 wt)
     dsimp only
     split
     ·
      split
      ·
       exact ⟨h1, q1.le (by omega)⟩
      ·
       split
       ·
        exact ⟨h1, q1.le (by omega)⟩
       ·
        rename_i _ m hm _ w cw _ _ hw
        obtain ⟨h2, q2⟩ := h1.carryK t w c cw (k.withR c t.regs.r7 4 2).1.rights hn
        obtain ⟨h3, q3⟩ := h2.wake (meetV S n 1) (carry_ok (thI_w h ht).wf.regs (thI_w h1 hw).wf.regs (with_badge h c t.regs.r7 4 2))
        split
        ·
         obtain ⟨h4, q4⟩ := h3.wait i n 4 0 0 false
         obtain ⟨h5, q5⟩ := h4.caller m hI
         exact ⟨h5, ((((q1.trans q2).trans q3).trans q4).trans q5).le (by omega)⟩
        ·
         obtain ⟨h4, q4⟩ := h3.tell i (e := 0) (by decide)
         exact ⟨h4, (((q1.trans q2).trans q3).trans q4).le (by omega)⟩
     ·
      split
      ·
       obtain ⟨h2, q2⟩ := h1.wait i n 2 (k.withR c t.regs.r7 4 2).1.object (k.withR c t.regs.r7 4 2).1.badge calls
       exact ⟨h2, (q1.trans q2).le (by omega)⟩
      ·
       obtain ⟨h2, q2⟩ := h1.tell i (e := 0) (by decide)
       exact ⟨h2, (q1.trans q2).le (by omega)⟩
theorem KX.meet (i : Nat) (m on : Int) : KX (k.meet i m on) ∧ Kq 1 k (k.meet i m on) := by
 have stay : KX k ∧ Kq 1 k k := ⟨h, (Kq.refl k).le (by omega)⟩
 unfold Kn.meet
 split
 ·
  exact stay
 ·
  rename_i t c _ _ ht
  split
  ·
   exact stay
  ·
   rename_i j hj
   split
   ·
    exact stay
   ·
    rename_i f cf _ _ hf
    have hI := ix_i64 h hj
    obtain ⟨h1, q1⟩ := h.carryK f t cf c (mayR k f cf on) hn
    obtain ⟨h2, q2⟩ := h1.setI i (f := fun u => { u with regs := (carryM f.regs t.regs f.badge).1 }) (fun u hu => hu.regs (carry_ok (thI_w h hf).wf.regs (thI_w h ht).wf.regs (thI_w h hf).wf.badge))
    dsimp only
    split
    ·
     obtain ⟨h3, q3⟩ := h2.excuse m (e := 0) (by decide)
     exact ⟨h3, ((q1.trans q2).trans q3).le (by omega)⟩
    ·
     obtain ⟨h3, q3⟩ := h2.setI j (f := fun u => { stopT u with st := 4 }) (fun u hu => hu.still (by decide : I64 4))
     obtain ⟨h4, q4⟩ := h3.caller i hI
     exact ⟨h4, (((q1.trans q2).trans q3).trans q4).le (by omega)⟩
theorem KX.recv1 (n : Int) (i : Nat) (wt : Bool) (on : Int) : KX (k.recv1 n i wt on) ∧ Kq 1 k (k.recv1 n i wt on) := by
 have stay : KX k ∧ Kq 1 k k := ⟨h, (Kq.refl k).le (by omega)⟩
 unfold Kn.recv1
 split
 ·
  exact stay
 ·
  rename_i j S hj
  obtain ⟨sp, _, he⟩ := epI_ex hj
  obtain ⟨h1, q1⟩ := h.setEp he (meetS_n64 (h.kw.ths _ _ he) n 2 wt)
  dsimp only
  split
  ·
   obtain ⟨h2, q2⟩ := h1.meet hn i (meetV S n 2) on
   exact ⟨h2, (q1.trans q2).le (by omega)⟩
  ·
   split
   ·
    obtain ⟨h2, q2⟩ := h1.wait i n 3 on 0 false
    exact ⟨h2, (q1.trans q2).le (by omega)⟩
   ·
    obtain ⟨h2, q2⟩ := h1.tell i (e := 3) (by decide)
    exact ⟨h2, (q1.trans q2).le (by omega)⟩
theorem KX.recv (n : Int) (i : Nat) (wt : Bool) : KX (k.recv n i wt) ∧ Kq 1 k (k.recv n i wt) := by
 have stay : KX k ∧ Kq 1 k k := ⟨h, (Kq.refl k).le (by omega)⟩
 unfold Kn.recv
 split
 ·
  exact stay
 ·
  rename_i t c _ b ht
  split
  ·
   obtain ⟨a, b⟩ := h.tell i (with_err k c t.regs.r7 4 1); exact ⟨a, b.le (by omega)⟩
  ·
   obtain ⟨h1, q1⟩ := h.orphan i
   have hn1 : (k.orphan i).nk < 2 ^ 18 := by have := q1.nk; omega
   obtain ⟨h2, q2⟩ := h1.recv1 hn1 n i wt (k.withR c t.regs.r7 4 1).1.object
   have r2 : KX ((k.orphan i).recv1 n i wt (k.withR c t.regs.r7 4 1).1.object) ∧ Kq 1 k ((k.orphan i).recv1 n i wt (k.withR c t.regs.r7 4 1).1.object) := ⟨h2, (q1.trans q2).le (by omega)⟩
   dsimp only
   split
   ·
    rename_i j S hj
    split
    ·
     obtain ⟨sp, _, he⟩ := ntI_ex hj
     obtain ⟨h3, q3⟩ := h1.setNt he (wtS_n64 (h1.kw.ths _ _ he) n false)
     obtain ⟨h4, q4⟩ := h3.word i (w := S.w) (h1.kw.ths _ _ he).2.2
     exact ⟨h4, ((q1.trans q3).trans q4).le (by omega)⟩
    ·
     exact r2
   ·
    exact r2
omit hn in
theorem KX.reply (i : Nat) : KX (k.reply i).1 ∧ Kq 0 k (k.reply i).1 := by
 unfold Kn.reply
 split
 ·
  exact ⟨h, Kq.refl k⟩
 ·
  rename_i t _ _ _ ht
  split
  ·
   exact h.tell i (e := 8) (by decide)
  ·
   rename_i w _ _ _ hw
   split
   ·
    obtain ⟨h1, q1⟩ := h.caller i (m := -1) (by decide)
    obtain ⟨h2, q2⟩ := h1.wake t.caller (carry_ok (thI_w h ht).wf.regs (thr_w h hw).wf.regs (b := 0) (by decide))
    obtain ⟨h3, q3⟩ := h2.tell i (e := 0) (by decide)
    exact ⟨h3, ((q1.trans q2).trans q3)⟩
   ·
    exact h.tell i (carry_err ..)
omit hn in
theorem KX.notify (on : Int) {badge : Int} (hb : U64 badge) : KX (k.notify on badge) ∧ Kq 0 k (k.notify on badge) := by
 unfold Kn.notify
 split
 ·
  exact ⟨h, Kq.refl k⟩
 ·
  rename_i j S hj
  obtain ⟨sp, _, he⟩ := ntI_ex hj
  obtain ⟨h1, q1⟩ := h.setNt he (sgS_n64 (h.kw.ths _ _ he) badge (ntBd k S))
  dsimp only
  split
  ·
   exact ⟨h1, q1⟩
  ·
   split
   ·
    exact ⟨h1, q1⟩
   ·
    rename_i w _ _ _ hw
    obtain ⟨h2, q2⟩ := h1.cancelE w.on (sgV S (ntBd k S))
    have hr := (thr_w h1 hw).wf.regs
    obtain ⟨h3, q3⟩ := h2.wake (sgV S (ntBd k S)) (r := { ansR w.regs 0 with r5 := sgW S badge (ntBd k S) }) ⟨(by decide : U64 0), hr.o1, hr.o2, hr.o3, hr.o4, sgW_u64 hb _, hr.o6, hr.o7⟩
    exact ⟨h3, (q1.trans q2).trans q3⟩
omit hn in
theorem KX.await (n : Int) (i : Nat) (wt : Bool) : KX (k.await n i wt) ∧ Kq 0 k (k.await n i wt) := by
 unfold Kn.await
 split
 ·
  exact ⟨h, Kq.refl k⟩
 ·
  rename_i t c _ _ ht
  split
  ·
   exact h.tell i (with_err k c t.regs.r7 5 1)
  ·
   split
   ·
    exact ⟨h, Kq.refl k⟩
   ·
    rename_i j S hj
    obtain ⟨sp, _, he⟩ := ntI_ex hj
    have hS := h.kw.ths _ _ he
    obtain ⟨h1, q1⟩ := h.setNt he (wtS_n64 hS n wt)
    dsimp only
    split
    ·
     obtain ⟨h2, q2⟩ := h1.word i (w := wtW S n) (by unfold wtW; split; exact hS.2.2; decide)
     exact ⟨h2, q1.trans q2⟩
    ·
     split
     ·
      obtain ⟨h2, q2⟩ := h1.wait i n 5 (k.withR c t.regs.r7 5 1).1.object 0 false
      exact ⟨h2, q1.trans q2⟩
     ·
      obtain ⟨h2, q2⟩ := h1.tell i (e := 3) (by decide)
      exact ⟨h2, q1.trans q2⟩
theorem KX.call (n : Int) (hI : I64 n) (i : Nat) (c : Int) : KX (k.call n i c) ∧ Kq 1 k (k.call n i c) := by
 have stay : KX k ∧ Kq 1 k k := ⟨h, (Kq.refl k).le (by omega)⟩
 unfold Kn.call
 split
 ·
  exact h.send hn n hI i _ _
 ·
  split
  ·
   exact h.recv hn n i _
  ·
   split
   ·
    exact ⟨(h.reply i).1, (h.reply i).2.le (by omega)⟩
   ·
    split
    ·
     split
     ·
      exact stay
     ·
      rename_i t _ _ _ ht
      split
      ·
       exact h.recv hn n i true
      ·
       obtain ⟨h1, q1⟩ := h.reply i
       split
       ·
        obtain ⟨h2, q2⟩ := h1.recv (by have := q1.nk; omega) n i true
        exact ⟨h2, (q1.trans q2).le (by omega)⟩
       ·
        exact ⟨h1, q1.le (by omega)⟩
    ·
     split
     ·
      obtain ⟨h1, q1⟩ := h.yield n
      obtain ⟨h2, q2⟩ := h1.tell i (e := 0) (by decide)
      exact ⟨h2, (q1.trans q2).le (by omega)⟩
     ·
      split
      ·
       split
       ·
        exact stay
       ·
        rename_i t c _ _ ht
        split
        ·
         obtain ⟨a, b⟩ := h.tell i (with_err k c t.regs.r7 5 2); exact ⟨a, b.le (by omega)⟩
        ·
         obtain ⟨h1, q1⟩ := h.notify (k.withR c t.regs.r7 5 2).1.object (with_badge h c t.regs.r7 5 2)
         obtain ⟨h2, q2⟩ := h1.tell i (e := 0) (by decide)
         exact ⟨h2, (q1.trans q2).le (by omega)⟩
      ·
       split
       ·
        exact ⟨(h.await n i _).1, (h.await n i _).2.le (by omega)⟩
       ·
        obtain ⟨a, b⟩ := h.tell i (e := 13) (by decide); exact ⟨a, b.le (by omega)⟩
end
end Go.Proofs.YtipncceiekalfaaGreat
end
section
set_option linter.unusedVariables false
set_option linter.unusedSimpArgs false
namespace Go.Proofs.YtipncceiekalfaaGreat
open Go.SL
theorem tr_next (bl bp p l : Nat) (n : Int) (hp : p < 2 ^ 64) (hl : l ≤ 16) : Tr Tryz.prog 274 [.int .i64 n, .pointer (some ⟨bl, 0, none⟩), .pointer (some ⟨bp, 0, none⟩)] ([(bl, .cells [.int .i64 l].toArray 3), (bp, .cells [.int .u64 p].toArray 22)]) (fun v L' => v = .tuple #[.int .u64 (nxtV p l n), .bool (nxtOk l n)] ∧ L' = [(bl, .cells [.int .i64 (nxtL l n)].toArray 3), (bp, .cells [.int .u64 p].toArray 22)]) := by
 refine Tr.enter Tryz.func274 rfl Tryz.ntmps274 rfl (fun W F => ?_)
 refine Wp.app ?_
 refine zq [3,4,1,1,2,5,3,3,4,0,42,0] ?_
 refine Ops.split (t := 8) rfl (fun h1 => ?_) (fun h1 => ?_)
 ·
  refine zq [13,13,13,24,2,5,18,3,4,1,1,2,5,10,12] ?_
  exact Ends.ret (L' := [(bl, .cells [.int .i64 l].toArray 3), (bp, .cells [.int .u64 p].toArray 22)]) (res2 rfl rfl rfl) ⟨by rw [nxtV, nxtOk, if_neg (by omega), decide_eq_false (by omega)]; rfl, by rw [nxtL, if_neg (by omega)]⟩
 refine zq [21,51] ?_
 refine Ops.pvg ⟨_, _, rfl, rfl, rfl⟩ (pv_gtr rfl rfl) rfl ?_
 refine zq [26,2,5] ?_
 refine Wp.cond_dect rfl (fun h2 => ?_) (fun h2 => ?_)
 ·
  refine zq [3,4,1,1,2,5,10,12] ?_
  exact Ends.ret (L' := [(bl, .cells [.int .i64 l].toArray 3), (bp, .cells [.int .u64 p].toArray 22)]) (res2 rfl rfl rfl) ⟨by rw [nxtV, nxtOk, if_neg (by omega), decide_eq_false (by omega)]; rfl, by rw [nxtL, if_neg (by omega)]⟩
 obtain ⟨k, rfl⟩ : ∃ k : Nat, n = k := ⟨n.toNat, by omega⟩
 have hk : 0 ≤ (k : Int) ∧ (k : Int) ≤ (l : Int) := by omega
 have hkl : ((l - k : Nat) : Int) = (l : Int) - k := by omega
 refine zq [11,5,3,4,8,0,53,25,2,5,3] ?_
 refine AnyH.startL 9 rfl ?_
 refine zd [0,2,1,2] ?_
 refine Tk 2 rfl rfl (pv_shr rfl rfl (by omega) rfl) rfl ?_
 refine zd [3,1] ?_
 refine Tk 4 rfl rfl (pv_shl rfl rfl (by omega) rfl) rfl ?_
 refine Tk 5 rfl rfl (pv_sub rfl rfl rfl) rfl ?_
 refine Tk 6 rfl rfl (pv_and rfl rfl rfl) rfl ?_
 refine zd [7,5,8,5] ?_
 refine AnyH.done (by kernel_rfl) ?_
 refine zq [5,10] ?_
 refine Ends.setE (t := 4) rfl (congrArg (Value.int .u64) (bits_next hp hl (by omega))) ?_
 exact Ends.ret (L' := [(bl, .cells [.int .i64 (l - k)].toArray 3), (bp, .cells [.int .u64 p].toArray 22)]) (res2 rfl rfl rfl) ⟨by rw [nxtV, nxtOk, if_pos hk, decide_eq_true hk]; rfl, by rw [nxtL, if_pos hk, Int.toNat_natCast, hkl]⟩
set_option maxHeartbeats 2000000 in
theorem tr_resolve (sb : Nat) (S : StoreM) (root : CapM) (p : Nat) (depth : Int) (hw : S.Wf) (hp : p < 2 ^ 64) : TrR Tryz.prog 260 [.pointer (some ⟨sb, 0, none⟩), root.v, .int .u64 p, .int .i64 depth] (storeHp sb S) (.tuple #[slotV (resolveM S root p depth).1, .int .i64 (resolveM S root p depth).2.1, .int .i64 (resolveM S root p depth).2.2]) := by
 refine Tr.enter Tryz.func260 rfl Tryz.ntmps260 rfl (fun W F => ?_)
 refine Wp.app ?_
 refine Wr ?_
 refine zB fun b1 => ?_
 refine Ops.ef rfl (ef_box1 rfl rfl rfl) ?_
 rintro _ _ ⟨b2, rfl, rfl⟩
 refine zA fun b3 => ?_
 refine zq [1,1,2,5,3,20,3,4,0,42,0] ?_
 refine Ops.split (t := 24) rfl (fun h1 => ?_) (fun h1 => ?_)
 ·
  refine zq [13,13,24,0,13,13,13,13,24,1,2,5,18,3,4,23,14,1,1,2,5,10,15,12] ?_
  exact Ends.ret (res_list (rs := [.cell 8 68, .tmp 9, .tmp 10]) rfl ⟨_, _, rfl, rv_cellK [_, _] rfl rfl rfl ⟨rfl, rfl, trivial⟩, ⟨_, _, rfl, rv_tmp rfl, ⟨_, _, rfl, rv_tmp rfl, rfl⟩⟩⟩ rfl) ⟨by rw [resolve_e1 (.inl h1)]; rfl, rfl⟩
 refine zq [21] ?_
 refine Ops.pvg ⟨_, _, rfl, rfl, rfl⟩ (pv_gtr rfl rfl) rfl ?_
 refine zq [26,0] ?_
 refine Ops.split (t := 28) rfl (fun h2 => ?_) (fun h2 => ?_)
 ·
  refine zq [13,13,13,13,24,1,2,5,18,3,4,23,14,1,1,2,5,10,15,12] ?_
  exact Ends.ret (res_list (rs := [.cell 8 68, .tmp 9, .tmp 10]) rfl ⟨_, _, rfl, rv_cellK [_, _] rfl rfl rfl ⟨rfl, rfl, trivial⟩, ⟨_, _, rfl, rv_tmp rfl, ⟨_, _, rfl, rv_tmp rfl, rfl⟩⟩⟩ rfl) ⟨by rw [resolve_e1 (.inr h2)]; rfl, rfl⟩
 refine zq [51,21] ?_
 refine Ops.pvg ⟨_, _, rfl, rfl, rfl⟩ (pv_shr rfl rfl (by omega) rfl) rfl ?_
 refine Ops.pvg ⟨_, _, rfl, rfl, rfl⟩ (pv_neq rfl rfl) rfl ?_
 refine zq [26,1,2,5] ?_
 refine Wp.cond_dect rfl (fun h3 => ?_) (fun h3 => ?_)
 ·
  refine zq [3,4,23,14,1,1,2,5,10,15,12] ?_
  exact Ends.ret (res_list (rs := [.cell 8 68, .tmp 9, .tmp 10]) rfl ⟨_, _, rfl, rv_cellK [_, _] rfl rfl rfl ⟨rfl, rfl, trivial⟩, ⟨_, _, rfl, rv_tmp rfl, ⟨_, _, rfl, rv_tmp rfl, rfl⟩⟩⟩ rfl) ⟨by rw [resolve_e1' h1 h2 h3]; rfl, rfl⟩
 refine zq [3,4,6,8,27,1,2,5] ?_
 refine Wp.cond_dect rfl (fun h4 => ?_) (fun h4 => ?_)
 ·
  refine zq [3,4,23,14,1,1,2,5,10,15,12] ?_
  exact Ends.ret (res_list (rs := [.cell 8 68, .tmp 9, .tmp 10]) rfl ⟨_, _, rfl, rv_cellK [_, _] rfl rfl rfl ⟨rfl, rfl, trivial⟩, ⟨_, _, rfl, rv_tmp rfl, ⟨_, _, rfl, rv_tmp rfl, rfl⟩⟩⟩ rfl) ⟨by rw [resolve_e2 h1 h2 h3 h4]; rfl, rfl⟩
 obtain ⟨k, rfl⟩ : ∃ k : Nat, depth = k := ⟨depth.toNat, by omega⟩
 refine zq [11,19,5,3,4,0] ?_
 refine Ops.ef rfl (ef_alloc1 tyZ3 rfl rfl) ?_
 rintro _ _ ⟨b4, rfl, rfl⟩
 refine zq [25,2,5,3,4,73,1,2,5,3,4,32] ?_
 refine zA fun b5 => ?_
 refine zq [14,2,5,20] ?_
 refine Wp.loop (σ := Nat × CapM × Nat × Nat) (fun x => [(0, .pointer (some ⟨sb, 0, none⟩)), (8, .pointer (some ⟨b3, 0, none⟩)), (9, .int .i64 0), (10, .int .i64 0), (11, .pointer (some ⟨b4, 0, none⟩)), (12, .func (.func 274) #[] #[.pointer (some ⟨b4, 0, none⟩), .pointer (some ⟨b2, 0, none⟩)]), (13, .pointer (some ⟨x.1, 0, none⟩))]) (fun x => (x.1, .cells x.2.1.cells.toArray 70) :: (b4, .cells [.int .i64 x.2.2.1].toArray 3) :: (b3, .cells [.int .i64 0, .int .i64 0].toArray 68) :: (b2, .cells [.int .u64 p].toArray 22) :: (storeHp sb S ++ F)) (fun x => x.2.2.1 ≤ 16 ∧ x.2.2.1 < x.2.2.2 ∧ resolveM S root p (k : Int) = resLoop S p x.2.2.2 x.2.1 x.2.2.1) (fun x => x.2.2.2) (b5, root, k, k + 1) ?_ (by exact ⟨rfl, rfl, rfl, rfl, rfl, rfl, rfl, trivial⟩) (by exact fun w ho => Drop.own ho) ?_
 ·
  dsimp only; exact ⟨by omega, by omega, resolve_go h1 h2 h3 h4⟩
 rintro ⟨b5, c, l, m⟩ K ⟨hl, hlm, hres⟩ hK
 dsimp only at hl hlm hres hK ⊢
 obtain ⟨m, rfl⟩ : ∃ j, m = j + 1 := ⟨m - 1, by omega⟩
 have hl1 : nxtL l c.bits ≤ 16 := Nat.le_trans (nxtL_le _ _) hl
 have hv := nxtV_lt (p := p) (l := nxtL l c.bits) (n := S.radix c.object) hl1
 have hr0 := S.radix_nonneg c.object
 refine zq [3,20,3,4,0,6,8] ?_
 refine zC (tr_radix sb S _) ?_
 refine zq [1,2,5,3,4,0,6,8] ?_
 refine Ops.ef rfl (ef_callf rfl rfl (tr_next b4 b2 p l c.bits hp hl) rfl) ?_
 rintro _ _ ⟨_, _, ⟨rfl, rfl⟩, rfl, rfl⟩
 refine Ops.app ?_
 refine zq [0,7,7,1,1,2,5,3,3,4,0,22,0] ?_
 refine Ops.split (t := 56) rfl (fun h5 => ?_) (fun h5 => ?_)
 ·
  refine zq [13,13,24,0,13,13,13,13,24,2,5,18,3,4,23,14,1,1,2,5,10,12,15,12,12,15] ?_
  exact Ends.ret (res_list (rs := [.cell 8 68, .tmp 9, .tmp 10]) rfl ⟨_, _, rfl, rv_cellK [_, _] rfl rfl rfl ⟨rfl, rfl, trivial⟩, ⟨_, _, rfl, rv_tmp rfl, ⟨_, _, rfl, rv_tmp rfl, rfl⟩⟩⟩ rfl) ⟨by rw [hres, rl_e (.inl h5)]; rfl, rfl⟩
 refine zq [21] ?_
 refine Ops.pvg ⟨_, _, rfl, rfl, rfl⟩ (pv_not_dec rfl) rfl ?_
 refine zq [26,0] ?_
 refine Ops.split (t := 60) rfl (fun h6 => ?_) (fun h6 => ?_)
 ·
  refine zq [13,13,13,13,24,2,5,18,3,4,23,14,1,1,2,5,10,12,15,12,12,15] ?_
  exact Ends.ret (res_list (rs := [.cell 8 68, .tmp 9, .tmp 10]) rfl ⟨_, _, rfl, rv_cellK [_, _] rfl rfl rfl ⟨rfl, rfl, trivial⟩, ⟨_, _, rfl, rv_tmp rfl, ⟨_, _, rfl, rv_tmp rfl, rfl⟩⟩⟩ rfl) ⟨by rw [hres, rl_e (.inr (.inl (decide_eq_false h6)))]; rfl, rfl⟩
 refine zq [21,50,51] ?_
 refine Ops.pvg ⟨_, _, rfl, rfl, rfl⟩ (pv_neq rfl rfl) rfl ?_
 refine zq [26,2,5] ?_
 refine Wp.cond_dect rfl (fun h7 => ?_) (fun h7 => ?_)
 ·
  refine zq [3,4,23,14,1,1,2,5,10,12,15,12,12,15] ?_
  exact Ends.ret (res_list (rs := [.cell 8 68, .tmp 9, .tmp 10]) rfl ⟨_, _, rfl, rv_cellK [_, _] rfl rfl rfl ⟨rfl, rfl, trivial⟩, ⟨_, _, rfl, rv_tmp rfl, ⟨_, _, rfl, rv_tmp rfl, rfl⟩⟩⟩ rfl) ⟨by rw [hres, rl_e (.inr (.inr h7))]; rfl, rfl⟩
 refine zq [11,5,3,4,0,0] ?_
 refine Ops.ef rfl (ef_callf rfl rfl (tr_next b4 b2 p (nxtL l c.bits) (S.radix c.object) hp hl1) rfl) ?_
 rintro _ _ ⟨_, _, ⟨rfl, rfl⟩, rfl, rfl⟩
 refine Ops.app ?_
 refine zq [0,7,7,1,1,2,5,3,3,4,0,55,2,5] ?_
 refine Wp.cond_dect rfl (fun h8 => ?_) (fun h8 => ?_)
 ·
  refine zq [3,4,23,14,1,1,2,5,10,12,15,12,12,15] ?_
  exact Ends.ret (res_list (rs := [.cell 8 68, .tmp 9, .tmp 10]) rfl ⟨_, _, rfl, rv_cellK [_, _] rfl rfl rfl ⟨rfl, rfl, trivial⟩, ⟨_, _, rfl, rv_tmp rfl, ⟨_, _, rfl, rv_tmp rfl, rfl⟩⟩⟩ rfl) ⟨by rw [hres, rl_e2 (rl_n h5 h6 h7) (decide_eq_false h8)]; rfl, rfl⟩
 refine zq [11,5,3,4,6,8,0] ?_
 refine Ops.pv (pv_conv rfl (w64 (by omega) (by omega))) rfl ?_
 refine zq [23] ?_
 refine zA fun b6 => ?_
 refine zq [14,2,5,3,4,0,30] ?_
 refine zC (tr_get sb S (c.object, (nxtV p (nxtL l c.bits) (S.radix c.object) : Int)) hw) ?_
 refine zq [0,7,7] ?_
 refine zA fun b7 => ?_
 refine zq [14,1,2,5,3,3,4,8,22,0] ?_
 refine Ops.split (t := 89) rfl (fun h9 => ?_) (fun h9 => ?_)
 ·
  refine zq [13,13,13,24,2,5,18,3] ?_
  refine AnyH.start [(b6, .cells [.int .i64 c.object, .int .i64 (nxtV p (nxtL l c.bits) (S.radix c.object))].toArray 68), (b4, .cells [.int .i64 (nxtL (nxtL l c.bits) (S.radix c.object))].toArray 3)] 5 rfl ?_
  refine zd [0,10,1,2] ?_
  refine zK 2 ?_
  refine zd [3,5,4,5] ?_
  refine AnyH.done (by kernel_rfl) ?_
  refine zq [5,10,12,15,12,12,15] ?_
  exact Ends.ret (res_list (rs := [.cell 8 68, .tmp 9, .tmp 10]) rfl ⟨_, _, rfl, rv_cellK [_, _] rfl rfl rfl ⟨rfl, rfl, trivial⟩, ⟨_, _, rfl, rv_tmp rfl, ⟨_, _, rfl, rv_tmp rfl, rfl⟩⟩⟩ rfl) ⟨by rw [hres, rl_f (rl_n h5 h6 h7) (fun h => h8 (of_decide_eq_false h)) (.inl (by omega))], rfl⟩
 refine zq [50,51] ?_
 refine Ops.pvg ⟨_, _, rfl, rfl, rfl⟩ (pv_neq rfl rfl) rfl ?_
 refine zq [26,2,5] ?_
 refine Wp.cond_dect rfl (fun h10 => ?_) (fun h10 => ?_)
 ·
  refine Wp.seq ?_
  refine AnyH.start [(b6, .cells [.int .i64 c.object, .int .i64 (nxtV p (nxtL l c.bits) (S.radix c.object))].toArray 68), (b4, .cells [.int .i64 (nxtL (nxtL l c.bits) (S.radix c.object))].toArray 3)] 5 rfl ?_
  refine zd [0,10,1,2] ?_
  refine zK 2 ?_
  refine zd [3,5,4,5] ?_
  refine AnyH.done (by kernel_rfl) ?_
  refine zq [5,10,12,15,12,12,15] ?_
  exact Ends.ret (res_list (rs := [.cell 8 68, .tmp 9, .tmp 10]) rfl ⟨_, _, rfl, rv_cellK [_, _] rfl rfl rfl ⟨rfl, rfl, trivial⟩, ⟨_, _, rfl, rv_tmp rfl, ⟨_, _, rfl, rv_tmp rfl, rfl⟩⟩⟩ rfl) ⟨by rw [hres, rl_f (rl_n h5 h6 h7) (fun h => h8 (of_decide_eq_false h)) (.inr h10)], rfl⟩
 refine zq [11,5,4,32,14,2,19,5,3,4,32,2,5,4] ?_
 refine zA fun b8 => ?_
 refine zq [14,2,49] ?_
 refine Goes.back (hK (b8, (S.get (c.object, (nxtV p (nxtL l c.bits) (S.radix c.object) : Int))).1, nxtL (nxtL l c.bits) (S.radix c.object), m) ⟨?_, ?_, ?_⟩ (by simp)) ⟨rfl, rfl, rfl, rfl, rfl, rfl, rfl, trivial⟩
 ·
  exact Nat.le_trans (nxtL_le _ _) hl1
 ·
  have hlt := nxtL_lt (decide_eq_true (Decidable.not_not.mp h8)) h5
  have hle := nxtL_le l c.bits
  dsimp only; omega
 rw [hres]; exact rl_g (rl_n h5 h6 h7) (fun h => h8 (of_decide_eq_false h)) (by rintro (h | h) <;> omega)
theorem tr_find (sb : Nat) (S : StoreM) (root : CapM) (p : Nat) (depth : Int) (hw : S.Wf) (hp : p < 2 ^ 64) : TrR Tryz.prog 239 [.pointer (some ⟨sb, 0, none⟩), root.v, .int .u64 p, .int .i64 depth] (storeHp sb S) (.tuple #[slotV (gFindM S root p depth).1, .int .i64 (gFindM S root p depth).2]) := by
 refine Tr.enter Tryz.func239 rfl Tryz.ntmps239 rfl (fun W F => ?_)
 refine Wp.app ?_
 refine Wr ?_
 refine zB fun b1 => ?_
 refine zA fun b2 => ?_
 refine zq [1,2,5,3,4,0,32,0,0] ?_
 refine zC (tr_resolve sb S root p depth hw hp) ?_
 refine zq [0,7,7,7] ?_
 refine zA fun b3 => ?_
 refine zq [14,1,1,2,5,3,3,4,0,22,0] ?_
 refine Ops.split (t := 24) rfl (fun h1 => ?_) (fun h1 => ?_)
 ·
  refine zq [21] ?_
  refine Ops.pvg ⟨_, _, rfl, rfl, rfl⟩ (pv_gtr rfl rfl) rfl ?_
  refine zq [24,2,5] ?_
  refine Wp.cond_dect rfl (fun h2 => ?_) (fun h2 => ?_)
  ·
   refine zq [4,1,2,5,3,3,4,0,27,2,5] ?_
   refine Wp.cond_dect rfl (fun h3 => ?_) (fun h3 => ?_)
   ·
    refine zq [3,4,23,0,14,1,2,5,10,12] ?_
    exact Ends.ret (res_list (rs := [.cell 8 68, .tmp 9]) rfl ⟨_, _, rfl, rv_cellK [_, _] rfl rfl rfl ⟨rfl, rfl, trivial⟩, ⟨_, _, rfl, rv_tmp rfl, rfl⟩⟩ rfl) ⟨by rw [gFindM, if_neg (by omega), if_pos h2], rfl⟩
   refine zq [11,5,3,4,30,14,1,2,5,10] ?_
   exact absurd (by decide : (6 : Int) ≠ 0) h3
  refine zq [11,5,3,3,4,0,27,2,5] ?_
  refine Wp.cond_dect rfl (fun h4 => ?_) (fun h4 => ?_)
  ·
   refine zq [3,4,23,0,14,1,2,5,10,12] ?_
   exact absurd h1 h4
  refine zq [11,5,3,4,30,14,1,2,5,10] ?_
  exact Ends.ret (res_list (rs := [.cell 8 68, .tmp 9]) rfl ⟨_, _, rfl, rv_cellK [_, _] rfl rfl rfl ⟨rfl, rfl, trivial⟩, ⟨_, _, rfl, rv_tmp rfl, rfl⟩⟩ rfl) ⟨by rw [gFindM, if_neg h4, if_neg h2], rfl⟩
 refine zq [13,13,26,2,5,17,11,5,3,3,4,0,27,2,5] ?_
 refine Wp.cond_dect rfl (fun h5 => ?_) (fun h5 => ?_)
 ·
  refine zq [3,4,23,0,14,1,2,5,10,12] ?_
  exact Ends.ret (res_list (rs := [.cell 8 68, .tmp 9]) rfl ⟨_, _, rfl, rv_cellK [_, _] rfl rfl rfl ⟨rfl, rfl, trivial⟩, ⟨_, _, rfl, rv_tmp rfl, rfl⟩⟩ rfl) ⟨by rw [gFindM, if_pos h1], rfl⟩
 refine zq [11,5,3,4,30,14,1,2,5,10] ?_
 exact absurd h1 h5
end Go.Proofs.YtipncceiekalfaaGreat
end
section
set_option linter.unusedVariables false
set_option linter.unusedSimpArgs false
set_option linter.unusedSectionVars false
namespace Go.Proofs.YtipncceiekalfaaGreat
open Go.SL
section
variable {k : Kn} {A : KA} {ad : Nat → Ad} {kb : Nat} {L : Hp} (hK : KH k A ad kb L)
include hK
theorem KH.gThrY {n : Int} {i : Nat} {t : ThrM} {c : CapM} {s b : Int} {sp : Int × Int} (hi : k.ix n = some i) (he : k.ar[i]? = some ⟨.thr t c s b, sp⟩) : TrR Tryz.prog 33 [pV kb, .int .i64 n] L (.tuple #[pV (ad i).tb, .bool true]) := hK.objs fun E hE => tr_getThrY k A ad kb E hE n hi he
theorem KH.gThrZ (hw : KW k) {n : Int} (hn : k.thr n = none) : TrR Tryz.prog 33 [pV kb, .int .i64 n] L (.tuple #[.pointer none, .bool false]) := hK.objs fun E hE => tr_getThrZ k A ad kb E hE hw n hn
theorem KH.gEpY {n : Int} {j : Nat} {S : Ep} {sp : Int × Int} (hi : k.ix n = some j) (he : k.ar[j]? = some ⟨.ep S, sp⟩) : TrR Tryz.prog 80 [pV kb, .int .i64 n] L (.tuple #[pV (ad j).tb, .bool true]) := hK.objs fun E hE => tr_getEpY k A ad kb E hE n hi he
theorem KH.gEpZ (hw : KW k) {n : Int} (hn : k.epI n = none) : TrR Tryz.prog 80 [pV kb, .int .i64 n] L (.tuple #[.pointer none, .bool false]) := hK.objs fun E hE => tr_getEpF k A ad kb E hE hw n (by rw [ep_is hw, hn]; rfl)
theorem KH.gNtY {n : Int} {j : Nat} {S : Nt} {sp : Int × Int} (hi : k.ix n = some j) (he : k.ar[j]? = some ⟨.nt S, sp⟩) : TrR Tryz.prog 82 [pV kb, .int .i64 n] L (.tuple #[pV (ad j).tb, .bool true]) := hK.objs fun E hE => tr_getNtY k A ad kb E hE n hi he
theorem KH.gNtZ (hw : KW k) {n : Int} (hn : k.ntI n = none) : TrR Tryz.prog 82 [pV kb, .int .i64 n] L (.tuple #[.pointer none, .bool false]) := hK.objs fun E hE => tr_getNtF k A ad kb E hE hw n (by rw [nt_is hw, hn]; rfl)
theorem KH.epB {j : Nat} {S : Ep} {sp : Int × Int} (he : k.ar[j]? = some ⟨.ep S, sp⟩) : Blk L (ad j).tb (.cells [.pointer (some ⟨(ad j).nb, 0, none⟩)].toArray 119) := hK.tb he
theorem KH.ntB {j : Nat} {S : Nt} {sp : Int × Int} (he : k.ar[j]? = some ⟨.nt S, sp⟩) : Blk L (ad j).tb (.cells [.pointer (some ⟨(ad j).nb, 0, none⟩)].toArray 124) := hK.tb he
theorem KH.epSend (hw : KW k) {j : Nat} {S : Ep} {sp : Int × Int} (he : k.ar[j]? = some ⟨.ep S, sp⟩) (id : Int) (wait : Bool) : Tr Tryz.prog 180 [.pointer (some ⟨(ad j).nb, 0, none⟩), .int .i64 id, .bool wait] L
    (fun u L' => u = .tuple #[.int .i64 (meetV S id 1), .bool (meetB S id 1), .int .i64 (pushE S.l id)] ∧ KH (k.setEp j (meetS S id 1 wait)) A ad kb L') := by
  obtain ⟨J, R, hJ, hp, hb⟩ := hK.epI he
  exact (tr_epSend _ J S hJ (by have := N64.len (hw.ths _ _ he); omega) id wait).conv hp (by
    rintro v J' ⟨rfl, hJ'⟩
    obtain ⟨L', h1, h2⟩ := hb _ _ hJ'
    exact ⟨L', ⟨rfl, h1⟩, h2⟩)
theorem KH.epRecv (hw : KW k) {j : Nat} {S : Ep} {sp : Int × Int} (he : k.ar[j]? = some ⟨.ep S, sp⟩) (id : Int) (wait : Bool) : Tr Tryz.prog 186 [.pointer (some ⟨(ad j).nb, 0, none⟩), .int .i64 id, .bool wait] L
    (fun u L' => u = .tuple #[.int .i64 (meetV S id 2), .bool (meetB S id 2), .int .i64 (pushE S.l id)] ∧ KH (k.setEp j (meetS S id 2 wait)) A ad kb L') := by
  obtain ⟨J, R, hJ, hp, hb⟩ := hK.epI he
  exact (tr_epRecv _ J S hJ (by have := N64.len (hw.ths _ _ he); omega) id wait).conv hp (by
    rintro v J' ⟨rfl, hJ'⟩
    obtain ⟨L', h1, h2⟩ := hb _ _ hJ'
    exact ⟨L', ⟨rfl, h1⟩, h2⟩)
theorem KH.epCancel (hw : KW k) {j : Nat} {S : Ep} {sp : Int × Int} (he : k.ar[j]? = some ⟨.ep S, sp⟩) (id : Int) : Tr Tryz.prog 81 [.pointer (some ⟨(ad j).nb, 0, none⟩), .int .i64 id] L
    (fun u L' => u = .bool (remB S.l id) ∧ KH (k.setEp j ⟨S.w, remL S.l id⟩) A ad kb L') := by
  obtain ⟨J, R, hJ, hp, hb⟩ := hK.epI he
  exact (tr_epCancel _ J S hJ (by have := N64.len (hw.ths _ _ he); omega) id).conv hp (by
    rintro v J' ⟨rfl, hJ'⟩
    obtain ⟨L', h1, h2⟩ := hb _ _ hJ'
    exact ⟨L', ⟨rfl, h1⟩, h2⟩)
theorem KH.ntSame {j : Nat} {S : Nt} {sp : Int × Int} (he : k.ar[j]? = some ⟨.nt S, sp⟩) : k.setNt j S = k := by
 unfold Kn.setNt
 have e : setA k.ar j (.nt S) = k.ar := by
  refine List.ext_getElem? (fun i => ?_)
  by_cases e : i = j
  ·
   subst e; rw [setA_same he, he]
  ·
   rw [setA_ne e]
 rw [e]
theorem KH.ntState (hw : KW k) {j : Nat} {S : Nt} {sp : Int × Int} (he : k.ar[j]? = some ⟨.nt S, sp⟩) : Tr Tryz.prog 39 [.pointer (some ⟨(ad j).nb, 0, none⟩)] L
    (fun u L' => ∃ v' H' L2, u = .tuple #[.int .u64 S.w, v'] ∧ Slc 3 1 v' S.l.length (intsC S.l) H' ∧ KH k A ad kb L2 ∧ L' = H' ++ L2) := by
  obtain ⟨J, R, hJ, hp, hb⟩ := hK.ntI he
  exact (tr_ntState _ J S hJ (by have := N64.len (hw.ths _ _ he).1; omega) (hw.ths _ _ he).2.1).conv hp (by
    rintro v J' ⟨v', H', rfl, hs, rfl⟩
    obtain ⟨L', h1, h2⟩ := hb _ _ hJ
    have h3 : KH k A ad kb L' := by have := KH.ntSame hK he; unfold Kn.setNt at this; rw [this] at h1; exact h1
    exact ⟨H' ++ L', ⟨v', H', L', rfl, hs, h3, rfl⟩, by rw [List.append_assoc]; exact h2.append_left H'⟩)
theorem KH.ntBound (hw : KW k) {j : Nat} {S : Nt} {sp : Int × Int} (he : k.ar[j]? = some ⟨.nt S, sp⟩) : TrR Tryz.prog 156 [.pointer (some ⟨(ad j).nb, 0, none⟩)] L (.tuple #[.int .i64 (S.b.headD 0), .bool (!S.b.isEmpty)]) := by
 obtain ⟨J, R, hJ, hp, hb⟩ := hK.ntI he
 exact (tr_ntBound _ J S hJ (by have := N64.len (hw.ths _ _ he).1; omega) (hw.ths _ _ he).2.1).conv hp
theorem KH.ntWait (hw : KW k) {j : Nat} {S : Nt} {sp : Int × Int} (he : k.ar[j]? = some ⟨.nt S, sp⟩) (id : Int) (wait : Bool) : Tr Tryz.prog 184 [.pointer (some ⟨(ad j).nb, 0, none⟩), .int .i64 id, .bool wait] L
    (fun u L' => u = .tuple #[.int .u64 (wtW S id), .bool (wtB S id), .int .i64 (wtE S id)] ∧ KH (k.setNt j (wtS S id wait)) A ad kb L') := by
  obtain ⟨J, R, hJ, hp, hb⟩ := hK.ntI he
  exact (tr_ntWait _ J S hJ (by have := N64.len (hw.ths _ _ he).1; omega) (hw.ths _ _ he).2.1 id wait).conv hp (by
    rintro v J' ⟨rfl, hJ'⟩
    obtain ⟨L', h1, h2⟩ := hb _ _ hJ'
    exact ⟨L', ⟨rfl, h1⟩, h2⟩)
theorem KH.ntSignal (hw : KW k) {j : Nat} {S : Nt} {sp : Int × Int} (he : k.ar[j]? = some ⟨.nt S, sp⟩) (x : Int) (bound : Bool) : Tr Tryz.prog 192 [.pointer (some ⟨(ad j).nb, 0, none⟩), .int .u64 x, .bool bound] L
    (fun u L' => u = .tuple #[.int .i64 (sgV S bound), .int .u64 (sgW S x bound), .bool (sgB S bound)] ∧ KH (k.setNt j (sgS S x bound)) A ad kb L') := by
  obtain ⟨J, R, hJ, hp, hb⟩ := hK.ntI he
  exact (tr_ntSignal _ J S hJ (by have := N64.len (hw.ths _ _ he).1; omega) (hw.ths _ _ he).2.1 x bound).conv hp (by
    rintro v J' ⟨rfl, hJ'⟩
    obtain ⟨L', h1, h2⟩ := hb _ _ hJ'
    exact ⟨L', ⟨rfl, h1⟩, h2⟩)
theorem KH.sYield (hw : KW k) (n : Int) : Tr Tryz.prog 106 [.pointer (some ⟨A.sb, 0, none⟩), .int .i64 n] L (fun u L' => u = .bool (findM k.L n).isSome ∧ KH { k with L := syL k.L n } A ad kb L') := by
 obtain ⟨J, R, hJ, hp, hb⟩ := hK.sch
 exact (tr_sYield _ J k.T k.e k.lf k.L hJ hw.at_ hw.rw (hw.rl (by decide)) n).conv hp (by
  rintro v J' ⟨rfl, hJ'⟩
  obtain ⟨L', h1, h2⟩ := hb _ _ _ _ _ hJ'
  exact ⟨L', ⟨rfl, h1⟩, h2⟩)
theorem KH.capCopy (hn : k.nk < 2 ^ 18) (so de : SlotM) (r : Int) : Tr Tryz.prog 217 [cpP A.cb, slotV so, slotV de, .int .i64 r] L (fun u L' => u = .int .i64 (mCopy k.p so de r).1 ∧ KH { k with p := (mCopy k.p so de r).2, nk := k.nk + 1 } A ad kb L') := by
 obtain ⟨J, R, hJ, hp, hb⟩ := hK.caps
 exact (tr_mCopy _ _ J k.p hJ (by omega) so de r).conv hp (by
  rintro v J' ⟨rfl, hJ'⟩
  obtain ⟨L', h1, h2⟩ := hb _ _ _ hJ'
  exact ⟨L', ⟨rfl, h1⟩, h2⟩)
end
theorem tr_gCap (sb : Nat) (S : StoreM) (root : CapM) (p : Nat) (hw : S.Wf) (hp : p < 2 ^ 64) : TrR Tryz.prog 240 [.pointer (some ⟨sb, 0, none⟩), root.v, .int .u64 p] (storeHp sb S) (.tuple #[slotV (capM S root p).1, (capM S root p).2.1.v, .int .i64 (capM S root p).2.2]) := by
 refine Tr.enter Tryz.func240 rfl Tryz.ntmps240 rfl (fun W F => ?_)
 refine Wp.app ?_
 refine Wr ?_
 refine zB fun b1 => ?_
 refine zA fun b2 => ?_
 refine zA fun b3 => ?_
 refine zq [1,2,5,3,4,0,32,0] ?_
 refine zC (tr_resolve sb S root p 16 hw hp) ?_
 refine zq [0,7,7,7] ?_
 refine zA fun b4 => ?_
 refine zq [14,1,1,2,5,3,3,4,0,27,2,5] ?_
 refine Wp.cond_dect rfl (fun h1 => ?_) (fun h1 => ?_)
 ·
  refine zq [3,4,23,23,0,14,14,1,2,5,10,12] ?_
  exact Ends.ret (res_list (rs := [.cell 6 68, .cell 7 70, .tmp 8]) rfl ⟨_, _, rfl, rv_cellK [_, _] rfl rfl rfl ⟨rfl, rfl, trivial⟩, ⟨_, _, rfl, rv_cellK [_, _, _, _, _, _] rfl rfl rfl ⟨rfl, rfl, rfl, rfl, rfl, rfl, trivial⟩, ⟨_, _, rfl, rv_tmp rfl, rfl⟩⟩⟩ rfl) ⟨by rw [capM, if_pos (by assumption)], rfl⟩
 refine zq [11,5,3,4,0,30] ?_
 refine zC (tr_get sb S (resolveM S root p 16).1 hw) ?_
 refine zq [0,7,7] ?_
 refine zA fun b5 => ?_
 refine zq [14,1,2,5,3,3,4,6,8,22,2,5] ?_
 refine Wp.cond_dect rfl (fun h2 => ?_) (fun h2 => ?_)
 ·
  refine zq [3,4,23,23,14,14,1,2,5,10,12] ?_
  exact Ends.ret (res_list (rs := [.cell 6 68, .cell 7 70, .tmp 8]) rfl ⟨_, _, rfl, rv_cellK [_, _] rfl rfl rfl ⟨rfl, rfl, trivial⟩, ⟨_, _, rfl, rv_cellK [_, _, _, _, _, _] rfl rfl rfl ⟨rfl, rfl, rfl, rfl, rfl, rfl, trivial⟩, ⟨_, _, rfl, rv_tmp rfl, rfl⟩⟩⟩ rfl) ⟨by rw [capM, if_neg (by assumption), if_pos (by assumption)], rfl⟩
 refine zq [11,5,3] ?_
 refine AnyH.start ((b4, .cells [.int .i64 (resolveM S root p 16).1.1, .int .i64 (resolveM S root p 16).1.2].toArray 68) :: (b5, .cells (S.get (resolveM S root p 16).1).1.cells.toArray 70) :: []) 5 rfl ?_
 refine zd [0,10,1,11] ?_
 refine zK 2 ?_
 refine zK 3 ?_
 refine zd [4,5] ?_
 refine AnyH.done (by kernel_rfl) ?_
 refine zq [5,10] ?_
 exact Ends.ret (res_list (rs := [.cell 6 68, .cell 7 70, .tmp 8]) rfl ⟨_, _, rfl, rv_cellK [_, _] rfl rfl rfl ⟨rfl, rfl, trivial⟩, ⟨_, _, rfl, rv_cellK [_, _, _, _, _, _] rfl rfl rfl ⟨rfl, rfl, rfl, rfl, rfl, rfl, trivial⟩, ⟨_, _, rfl, rv_tmp rfl, rfl⟩⟩⟩ rfl) ⟨by rw [capM, if_neg (by assumption), if_neg (by assumption)], rfl⟩
section
variable {l : List DN} {sb : Nat} {L : Hp} (hH : StF l sb L) {S : StoreM} (hR : Rel S l) (root : CapM) (p : Nat) (hp : p < 2 ^ 64)
include hH hR hp
theorem sf_gCap : TrR Tryz.prog 240 [stP sb, root.v, .int .u64 p] L (.tuple #[slotV (capM S root p).1, (capM S root p).2.1.v, .int .i64 (capM S root p).2.2]) := by
 obtain ⟨S1, hR1, rfl⟩ := hH
 exact (tr_gCap sb S1 root p hR1.wf hp).eq (by rw [cap_congr (S1 := S) (fun s => by rw [rel_get hR1, rel_get hR]) (fun i => by rw [rel_radix hR1, rel_radix hR])])
theorem sf_gFind (depth : Int) : TrR Tryz.prog 239 [stP sb, root.v, .int .u64 p, .int .i64 depth] L (.tuple #[slotV (gFindM S root p depth).1, .int .i64 (gFindM S root p depth).2]) := by
 obtain ⟨S1, hR1, rfl⟩ := hH
 exact (tr_find sb S1 root p depth hR1.wf hp).eq (by rw [find_congr (S1 := S) (fun s => by rw [rel_get hR1, rel_get hR]) (fun i => by rw [rel_radix hR1, rel_radix hR])])
end
theorem tr_gmFind (n cb : Nat) (L : Hp) (p : PS) (hH : CapsH n p cb L) (S : StoreM) (hR : Rel S p.l) (root : CapM) (q : Nat) (hq : q < 2 ^ 64) : TrR Tryz.prog 221 [cpP cb, root.v, .int .u64 q] (L) (.tuple #[slotV (capM S root q).1, (capM S root q).2.1.v, .int .i64 (capM S root q).2.2]) := by
 obtain ⟨sb, tb, Ls, Lt, hS, hT, rfl⟩ := hH
 refine Tr.enter Tryz.func221 rfl Tryz.ntmps221 rfl (fun W F => ?_)
 refine Wp.app ?_
 refine Wr ?_
 refine zB fun b1 => ?_
 refine zA fun b2 => ?_
 refine zA fun b3 => ?_
 refine zq [1,2,5,3] ?_
 refine AnyH.start ((b1, .cells root.cells.toArray 70) :: cBlk cb sb tb :: []) 14 rfl ?_
 refine zd [0,1,1,3,2,0,3,0,4,2,5,11,6,1] ?_
 refine AnyH.one 7 (by kernel_rfl) ?_
 refine Turn.ef rfl rfl (ef_callr (sf_gCap hS hR root q hq) rfl rfl) ?_ ?_
 ·
  rintro _ _ ⟨rfl, rfl⟩; infer_instance
 rintro _ _ ⟨rfl, rfl⟩
 refine zd [8,4,9,4,10,4] ?_
 refine zK 11 ?_
 refine zK 12 ?_
 refine zd [13,5] ?_
 refine AnyH.done (by kernel_rfl) ?_
 refine zq [5,10] ?_
 exact Ends.ret (res_list (rs := [.cell 6 68, .cell 7 70, .tmp 8]) rfl ⟨_, _, rfl, rv_cellK [_, _] rfl rfl rfl ⟨rfl, rfl, trivial⟩, ⟨_, _, rfl, rv_cellK [_, _, _, _, _, _] rfl rfl rfl ⟨rfl, rfl, rfl, rfl, rfl, rfl, trivial⟩, ⟨_, _, rfl, rv_tmp rfl, rfl⟩⟩⟩ rfl) ⟨rfl, rfl⟩
theorem tr_gmSlot (n cb : Nat) (L : Hp) (p : PS) (hH : CapsH n p cb L) (S : StoreM) (hR : Rel S p.l) (root : CapM) (q : Nat) (hq : q < 2 ^ 64) (depth : Int) : TrR Tryz.prog 216 [cpP cb, root.v, .int .u64 q, .int .i64 depth] (L) (.tuple #[slotV (gFindM S root q depth).1, .int .i64 (gFindM S root q depth).2]) := by
 obtain ⟨sb, tb, Ls, Lt, hS, hT, rfl⟩ := hH
 refine Tr.enter Tryz.func216 rfl Tryz.ntmps216 rfl (fun W F => ?_)
 refine Wp.app ?_
 refine Wr ?_
 refine zB fun b1 => ?_
 refine zA fun b2 => ?_
 refine zq [1,2,5,3] ?_
 refine AnyH.start ((b1, .cells root.cells.toArray 70) :: cBlk cb sb tb :: []) 13 rfl ?_
 refine zd [0,1,1,3,2,0,3,0,4,2,5,11,6,1,7,1] ?_
 refine AnyH.one 8 (by kernel_rfl) ?_
 refine Turn.ef rfl rfl (ef_callr (sf_gFind hS hR root q hq depth) rfl rfl) ?_ ?_
 ·
  rintro _ _ ⟨rfl, rfl⟩; infer_instance
 rintro _ _ ⟨rfl, rfl⟩
 refine zd [9,4,10,4] ?_
 refine zK 11 ?_
 refine zd [12,5] ?_
 refine AnyH.done (by kernel_rfl) ?_
 refine zq [5,10] ?_
 exact Ends.ret (res_list (rs := [.cell 8 68, .tmp 9]) rfl ⟨_, _, rfl, rv_cellK [_, _] rfl rfl rfl ⟨rfl, rfl, trivial⟩, ⟨_, _, rfl, rv_tmp rfl, rfl⟩⟩ rfl) ⟨rfl, rfl⟩
section
variable {k : Kn} {A : KA} {ad : Nat → Ad} {kb : Nat} {L : Hp} (hK : KH k A ad kb L)
include hK
theorem KH.capFind (root : CapM) {p : Int} (hp : U64 p) : TrR Tryz.prog 221 [cpP A.cb, root.v, .int .u64 p] L (.tuple #[slotV (k.find root p).1, (k.find root p).2.1.v, .int .i64 (k.find root p).2.2]) := by
 obtain ⟨J, R, hC, hP, _⟩ := hK.caps
 have hC0 := hC
 obtain ⟨sb, tb, Ls, Lt, ⟨S, hR, rfl⟩, hT, rfl⟩ := hC
 obtain ⟨w, rfl⟩ : ∃ w : Nat, p = (w : Int) := ⟨p.toNat, by unfold U64 at hp; omega⟩
 have h := tr_gmFind _ _ _ _ hC0 S hR root w (by unfold U64 at hp; omega)
 rw [show capM S root w = k.find root (w : Int) from find_rel hR root (w : Int)] at h
 exact h.conv hP
theorem KH.capSlot (root : CapM) {p : Int} (hp : U64 p) (depth : Int) : TrR Tryz.prog 216 [cpP A.cb, root.v, .int .u64 p, .int .i64 depth] L (.tuple #[slotV (k.slot root p depth).1, .int .i64 (k.slot root p depth).2]) := by
 obtain ⟨J, R, hC, hP, _⟩ := hK.caps
 have hC0 := hC
 obtain ⟨sb, tb, Ls, Lt, ⟨S, hR, rfl⟩, hT, rfl⟩ := hC
 obtain ⟨w, rfl⟩ : ∃ w : Nat, p = (w : Int) := ⟨p.toNat, by unfold U64 at hp; omega⟩
 have h := tr_gmSlot _ _ _ _ hC0 S hR root w (by unfold U64 at hp; omega) depth
 rw [show gFindM S root w depth = k.slot root (w : Int) depth from slot_rel hR root (w : Int) depth] at h
 exact h.conv hP
end
set_option maxHeartbeats 4000000 in
theorem tr_kFind (k : Kn) (A : KA) (ad : Nat → Ad) (kb : Nat) (L : Hp) (hK : KH k A ad kb L) (hx : KX k) {i : Nat} {t : ThrM} {c : CapM} {s b : Int} {sp : Int × Int} (he : k.ar[i]? = some ⟨.thr t c s b, sp⟩) (q : Int) (hq : U64 q) : TrR Tryz.prog 190 [pV kb, pV (ad i).tb, .int .u64 q] (L) (.tuple #[slotV (k.find c q).1, (k.find c q).2.1.v, .int .i64 (k.find c q).2.2]) := by
 haveI := hK.kblk
 haveI := hK.thr he
 refine Tr.enter Tryz.func190 rfl Tryz.ntmps190 rfl (fun W F => ?_)
 refine Wp.app ?_
 refine Wr ?_
 refine zA fun b1 => ?_
 refine zA fun b2 => ?_
 refine zq [1,2,5,3] ?_
 refine AnyH.start [(kb, kerO A k.wi), ((ad i).tb, thrO t c s b)] 16 rfl ?_
 refine zd [0,1,1,3,2,0,3,2,4,1,5,3,6,0,7,11,8,1] ?_
 refine AnyH.one 9 (by kernel_rfl) ?_
 refine Turn.ef rfl rfl (ef_callr (hK.capFind c hq) rfl rfl) ?_ ?_
 ·
  rintro _ _ ⟨rfl, rfl⟩; infer_instance
 rintro _ _ ⟨rfl, rfl⟩
 refine zd [10,4,11,4,12,4] ?_
 refine zK 13 ?_
 refine zK 14 ?_
 refine zd [15,5] ?_
 refine AnyH.done (by kernel_rfl) ?_
 refine zq [5,10] ?_
 exact Ends.ret (res_list (rs := [.cell 6 68, .cell 7 70, .tmp 8]) rfl ⟨_, _, rfl, rv_cellK [_, _] rfl rfl rfl ⟨rfl, rfl, trivial⟩, ⟨_, _, rfl, rv_cellK [_, _, _, _, _, _] rfl rfl rfl ⟨rfl, rfl, rfl, rfl, rfl, rfl, trivial⟩, ⟨_, _, rfl, rv_tmp rfl, rfl⟩⟩⟩ rfl) ⟨rfl, rfl⟩
theorem tr_rWithin (a b : Int) : TrR Tryz.prog 191 [.int .i64 a, .int .i64 b] ([]) (.bool (wthR a b)) := by
 refine Tr.enter Tryz.func191 rfl Tryz.ntmps191 rfl (fun W F => ?_)
 refine Wp.app ?_
 refine zq [3,4,1,2,5,3,4,0] ?_
 refine zC (tr_rightsOk a) ?_
 refine zq [0] ?_
 refine Ops.split (t := 7) rfl (fun h1 => ?_) (fun h1 => ?_)
 ·
  refine zq [21] ?_
  refine Ops.efg ⟨_, _, rfl, rfl, rfl⟩ (ef_callr (tr_rightsOk b) rfl rfl) ?_
  rintro _ _ ⟨rfl, rfl⟩
  refine zq [24,0] ?_
  refine Ops.split (t := 11) rfl (fun h2 => ?_) (fun h2 => ?_)
  ·
   refine zq [21,21] ?_
   refine Ops.pvg ⟨_, _, rfl, rfl, rfl⟩ (pv_andNot rfl rfl rfl) rfl ?_
   refine Ops.pvg ⟨_, _, rfl, rfl, rfl⟩ (pv_eql rfl rfl) rfl ?_
   refine zq [24,1,2,5,10] ?_
   exact Ends.ret (res1 rfl rfl) ⟨by simp_all [wthR, rightsOk], rfl⟩
  refine zq [13,13,13,13,26,1,2,5,10] ?_
  exact Ends.ret (res1 rfl rfl) ⟨by simp_all [wthR, rightsOk], rfl⟩
 refine zq [13,13,26,0,13,13,13,13,26,1,2,5,10] ?_
 exact Ends.ret (res1 rfl rfl) ⟨by simp_all [wthR, rightsOk], rfl⟩
set_option maxHeartbeats 8000000 in
theorem tr_cWith (k : Kn) (A : KA) (ad : Nat → Ad) (kb : Nat) (L : Hp) (hK : KH k A ad kb L) (hx : KX k) {i : Nat} {t : ThrM} {c : CapM} {s b : Int} {sp : Int × Int} (he : k.ar[i]? = some ⟨.thr t c s b, sp⟩) (n kind right : Int) : Tr Tryz.prog 145 [clrV kb n (ad i).tb, .int .i64 kind, .int .i64 right] (L) (fun u L' => u = .tuple #[(k.withR c t.regs.r7 kind right).1.v, .bool (decide ((k.withR c t.regs.r7 kind right).2 = 0))] ∧ KH (if (k.withR c t.regs.r7 kind right).2 = 0 then k else k.tell i (k.withR c t.regs.r7 kind right).2) A ad kb L') := by
 haveI := hK.kblk
 haveI := hK.thr he
 refine Tr.enter Tryz.func145 rfl Tryz.ntmps145 rfl (fun W F => ?_)
 refine Wp.app ?_
 refine Wr ?_
 refine zB fun b1 => ?_
 refine zA fun b2 => ?_
 refine zq [1,2,5] ?_
 apply Wp.cutB2 [(1, _), (2, _), (3, _), (6, _)] (fun b3 b4 => [(9, _), (10, _)]) _ ⟨rfl, rfl, rfl, rfl, trivial⟩
 ·
  intro KK hA0
  refine AnyH.start [(b1, .cells [pV kb, .int .i64 n, pV (ad i).tb].toArray 174), ((ad i).tb, thrO t c s b)] 21 rfl ?_
  refine zd [0,0,1,2,2,0,3,2,4,0,5,2,6,3,7,0,8,0] ?_
  refine Tk 9 rfl rfl (pv_indexAddrA (i := 7) rfl rfl rfl (by first | omega | (simp; done) | (simp; omega))) rfl ?_
  refine zd [10,2] ?_
  refine AnyH.three 11 16 17 (by kernel_rfl) ?_ ?_ ?_
  ·
   refine Turn.ef rfl rfl (ef_callr (tr_kFind k A ad kb _ hK hx he t.regs.r7 (hx.kw.ths _ _ he).1.wf.regs.o7) rfl rfl) ?_ ?_
   ·
    rintro _ _ ⟨rfl, rfl⟩; infer_instance
   rintro _ _ ⟨rfl, rfl⟩
   refine zd [12,1,13,4,14,4,15,4] ?_
   refine AnyH.two 16 17 (by kernel_rfl) ?_ ?_
   ·
    refine Turn.ef rfl rfl (ef_allocK tyZ68 rfl) ?_ ?_
    ·
     rintro _ _ ⟨b3, rfl, rfl⟩; infer_instance
    rintro _ _ ⟨b3, rfl, rfl⟩
    refine AnyH.one 17 (by kernel_rfl) ?_
    refine Turn.ef rfl rfl (ef_allocK tyZ70 rfl) ?_ ?_
    ·
     rintro _ _ ⟨b4, rfl, rfl⟩; infer_instance
    rintro _ _ ⟨b4, rfl, rfl⟩
    refine zK 18 ?_
    refine zK 19 ?_
    refine zd [20,5] ?_
    refine AnyH.done (by kernel_rfl) ?_
    refine zq [49] ?_
    refine Goes.same (hA0 b3 b4) ⟨rfl, rfl, rfl, rfl, rfl, rfl, trivial⟩
   refine Turn.ef rfl rfl (ef_allocK tyZ70 rfl) ?_ ?_
   ·
    rintro _ _ ⟨b5, rfl, rfl⟩; infer_instance
   rintro _ _ ⟨b5, rfl, rfl⟩
   refine AnyH.one 16 (by kernel_rfl) ?_
   refine Turn.ef rfl rfl (ef_allocK tyZ68 rfl) ?_ ?_
   ·
    rintro _ _ ⟨b6, rfl, rfl⟩; infer_instance
   rintro _ _ ⟨b6, rfl, rfl⟩
   refine zK 18 ?_
   refine zK 19 ?_
   refine zd [20,5] ?_
   refine AnyH.done (by kernel_rfl) ?_
   refine zq [49] ?_
   refine Goes.back (hA0 b6 b5) ⟨rfl, rfl, rfl, rfl, rfl, rfl, trivial⟩
  ·
   refine Turn.ef rfl rfl (ef_allocK tyZ68 rfl) ?_ ?_
   ·
    rintro _ _ ⟨b7, rfl, rfl⟩; infer_instance
   rintro _ _ ⟨b7, rfl, rfl⟩
   refine AnyH.two 11 17 (by kernel_rfl) ?_ ?_
   ·
    refine Turn.ef rfl rfl (ef_callr (tr_kFind k A ad kb _ hK hx he t.regs.r7 (hx.kw.ths _ _ he).1.wf.regs.o7) rfl rfl) ?_ ?_
    ·
     rintro _ _ ⟨rfl, rfl⟩; infer_instance
    rintro _ _ ⟨rfl, rfl⟩
    refine zd [12,1,13,4,14,4,15,4] ?_
    refine AnyH.one 17 (by kernel_rfl) ?_
    refine Turn.ef rfl rfl (ef_allocK tyZ70 rfl) ?_ ?_
    ·
     rintro _ _ ⟨b8, rfl, rfl⟩; infer_instance
    rintro _ _ ⟨b8, rfl, rfl⟩
    refine zK 18 ?_
    refine zK 19 ?_
    refine zd [20,5] ?_
    refine AnyH.done (by kernel_rfl) ?_
    refine zq [49] ?_
    refine Goes.back (hA0 b7 b8) ⟨rfl, rfl, rfl, rfl, rfl, rfl, trivial⟩
   refine Turn.ef rfl rfl (ef_allocK tyZ70 rfl) ?_ ?_
   ·
    rintro _ _ ⟨b9, rfl, rfl⟩; infer_instance
   rintro _ _ ⟨b9, rfl, rfl⟩
   refine AnyH.one 11 (by kernel_rfl) ?_
   refine Turn.ef rfl rfl (ef_callr (tr_kFind k A ad kb _ hK hx he t.regs.r7 (hx.kw.ths _ _ he).1.wf.regs.o7) rfl rfl) ?_ ?_
   ·
    rintro _ _ ⟨rfl, rfl⟩; infer_instance
   rintro _ _ ⟨rfl, rfl⟩
   refine zd [12,1,13,4,14,4,15,4] ?_
   refine zK 18 ?_
   refine zK 19 ?_
   refine zd [20,5] ?_
   refine AnyH.done (by kernel_rfl) ?_
   refine zq [49] ?_
   refine Goes.back (hA0 b7 b9) ⟨rfl, rfl, rfl, rfl, rfl, rfl, trivial⟩
  refine Turn.ef rfl rfl (ef_allocK tyZ70 rfl) ?_ ?_
  ·
   rintro _ _ ⟨b10, rfl, rfl⟩; infer_instance
  rintro _ _ ⟨b10, rfl, rfl⟩
  refine AnyH.two 11 16 (by kernel_rfl) ?_ ?_
  ·
   refine Turn.ef rfl rfl (ef_callr (tr_kFind k A ad kb _ hK hx he t.regs.r7 (hx.kw.ths _ _ he).1.wf.regs.o7) rfl rfl) ?_ ?_
   ·
    rintro _ _ ⟨rfl, rfl⟩; infer_instance
   rintro _ _ ⟨rfl, rfl⟩
   refine zd [12,1,13,4,14,4,15,4] ?_
   refine AnyH.one 16 (by kernel_rfl) ?_
   refine Turn.ef rfl rfl (ef_allocK tyZ68 rfl) ?_ ?_
   ·
    rintro _ _ ⟨b11, rfl, rfl⟩; infer_instance
   rintro _ _ ⟨b11, rfl, rfl⟩
   refine zK 18 ?_
   refine zK 19 ?_
   refine zd [20,5] ?_
   refine AnyH.done (by kernel_rfl) ?_
   refine zq [49] ?_
   refine Goes.back (hA0 b11 b10) ⟨rfl, rfl, rfl, rfl, rfl, rfl, trivial⟩
  refine Turn.ef rfl rfl (ef_allocK tyZ68 rfl) ?_ ?_
  ·
   rintro _ _ ⟨b12, rfl, rfl⟩; infer_instance
  rintro _ _ ⟨b12, rfl, rfl⟩
  refine AnyH.one 11 (by kernel_rfl) ?_
  refine Turn.ef rfl rfl (ef_callr (tr_kFind k A ad kb _ hK hx he t.regs.r7 (hx.kw.ths _ _ he).1.wf.regs.o7) rfl rfl) ?_ ?_
  ·
   rintro _ _ ⟨rfl, rfl⟩; infer_instance
  rintro _ _ ⟨rfl, rfl⟩
  refine zd [12,1,13,4,14,4,15,4] ?_
  refine zK 18 ?_
  refine zK 19 ?_
  refine zd [20,5] ?_
  refine AnyH.done (by kernel_rfl) ?_
  refine zq [49] ?_
  refine Goes.back (hA0 b12 b10) ⟨rfl, rfl, rfl, rfl, rfl, rfl, trivial⟩
 intro b3 b4
 dsimp only [List.cons_append, List.nil_append]
 refine zq [3,20,3,4,0,27,1,2,5] ?_
 refine Wp.cond_dect rfl (fun h1 => ?_) (fun h1 => ?_)
 ·
  refine zq [11,19,5,3,4,29,0] ?_
  refine zD (tr_cTell k A ad kb _ hK hx.kw n he (k.find c t.regs.r7).2.2 (find_err k c t.regs.r7)) ?_
  rintro _ J1 ⟨rfl, hk1⟩
  refine Ops.app ?_
  refine zq [2,5,3,4,23,14,1,2,5,10] ?_
  have hk9 := hk1
  have ew : k.withR c t.regs.r7 kind right = (.zero, (k.find c t.regs.r7).2.2) := by unfold Kn.withR; rw [if_pos (by assumption)]
  have e0 : ¬ (k.find c t.regs.r7).2.2 = 0 := by assumption
  rw [ew]
  dsimp only
  rw [if_neg e0, decide_eq_false e0]
  exact Ends.ret (L' := J1) (res_list (rs := [.cell 6 70, .tmp 7]) rfl ⟨_, _, rfl, rv_cellK [_, _, _, _, _, _] rfl rfl rfl ⟨rfl, rfl, rfl, rfl, rfl, rfl, trivial⟩, ⟨_, _, rfl, rv_tmp rfl, rfl⟩⟩ rfl) ⟨rfl, hk9⟩
 refine zq [3,4,6,8,0,27,1,2,5] ?_
 refine Wp.cond_dect rfl (fun h2 => ?_) (fun h2 => ?_)
 ·
  refine zq [4,1,2,19,5,3,4,29,0] ?_
  refine zD (tr_cTell k A ad kb _ hK hx.kw n he 2 (by decide)) ?_
  rintro _ J2 ⟨rfl, hk2⟩
  refine Ops.app ?_
  refine zq [2,5,3,4,23,14,1,2,5,10] ?_
  have hk9 := hk2
  have ew : k.withR c t.regs.r7 kind right = (.zero, 2) := by unfold Kn.withR; rw [if_neg (by assumption), if_pos (by assumption)]
  have e0 : ¬ (2 : Int) = 0 := by decide
  rw [ew]
  dsimp only
  rw [if_neg e0, decide_eq_false e0]
  exact Ends.ret (L' := J2) (res_list (rs := [.cell 6 70, .tmp 7]) rfl ⟨_, _, rfl, rv_cellK [_, _, _, _, _, _] rfl rfl rfl ⟨rfl, rfl, rfl, rfl, rfl, rfl, trivial⟩, ⟨_, _, rfl, rv_tmp rfl, rfl⟩⟩ rfl) ⟨rfl, hk9⟩
 refine zq [3,4,0,6,8] ?_
 refine zC (tr_rWithin right (k.find c t.regs.r7).2.1.rights) ?_
 refine zq [39,1,2,5] ?_
 refine Wp.cond_t rfl (fun h3 => ?_) (fun h3 => ?_)
 ·
  refine zq [4,1,2,19,5,3,4,29,0] ?_
  refine zD (tr_cTell k A ad kb _ hK hx.kw n he 5 (by decide)) ?_
  rintro _ J3 ⟨rfl, hk3⟩
  refine Ops.app ?_
  refine zq [2,5,3,4,23,14,1,2,5,10] ?_
  have hk9 := hk3
  have ew : k.withR c t.regs.r7 kind right = (.zero, 5) := by unfold Kn.withR; rw [if_neg (by assumption), if_neg (by assumption), if_pos (by simp_all)]
  have e0 : ¬ (5 : Int) = 0 := by decide
  rw [ew]
  dsimp only
  rw [if_neg e0, decide_eq_false e0]
  exact Ends.ret (L' := J3) (res_list (rs := [.cell 6 70, .tmp 7]) rfl ⟨_, _, rfl, rv_cellK [_, _, _, _, _, _] rfl rfl rfl ⟨rfl, rfl, rfl, rfl, rfl, rfl, trivial⟩, ⟨_, _, rfl, rv_tmp rfl, rfl⟩⟩ rfl) ⟨rfl, hk9⟩
 refine zq [3,4,32,14,1,2,5,10,15,12] ?_
 have ew : k.withR c t.regs.r7 kind right = ((k.find c t.regs.r7).2.1, 0) := by unfold Kn.withR; rw [if_neg (by assumption), if_neg (by assumption), if_neg (by simp_all)]
 rw [ew]
 exact Ends.ret (L' := L) (res_list (rs := [.cell 6 70, .tmp 7]) rfl ⟨_, _, rfl, rv_cellK [_, _, _, _, _, _] rfl rfl rfl ⟨rfl, rfl, rfl, rfl, rfl, rfl, trivial⟩, ⟨_, _, rfl, rv_tmp rfl, rfl⟩⟩ rfl) ⟨rfl, hK⟩
attribute [local irreducible] infCap
set_option maxHeartbeats 16000000 in
theorem tr_kCarry (k : Kn) (A : KA) (ad : Nat → Ad) (kb : Nat) (L : Hp) (hK : KH k A ad kb L) (hx : KX k) (hn : k.nk < 2 ^ 18) {i j : Nat} {f : ThrM} {cf : CapM} {sf bf : Int} {spf : Int × Int} (he : k.ar[i]? = some ⟨.thr f cf sf bf, spf⟩) {t : ThrM} {c : CapM} {s b : Int} {sp : Int × Int} (hj : k.ar[j]? = some ⟨.thr t c s b, sp⟩) (badge may : Int) : Tr Tryz.prog 182 [pV kb, pV (ad i).tb, pV (ad j).tb, .int .u64 badge, .int .i64 may] (L) (fun u L' => u = (carryM f.regs t.regs badge).1.v ∧ KH (k.carryK f t cf c may) A ad kb L') := by
 haveI := hK.kblk
 haveI := hK.thr he
 haveI := hK.thr hj
 have hf0 := (hx.kw.ths _ _ he).1.wf.regs
 have ht0 := (hx.kw.ths _ _ hj).1.wf.regs
 refine Tr.enter Tryz.func182 rfl Tryz.ntmps182 rfl (fun W F => ?_)
 refine Wp.app ?_
 refine Wr ?_
 refine zA fun b1 => ?_
 refine On ?_
 apply Wp.cutB1 [(0, _), (1, _), (2, _), (4, _), (10, _)] (fun b2 => [(11, _)]) _ ⟨rfl, rfl, rfl, rfl, rfl, trivial⟩
 ·
  intro KK hA0
  refine AnyH.start [((ad i).tb, thrO f cf sf bf), ((ad j).tb, thrO t c s b)] 18 rfl ?_
  refine zd [0,1,1,3,2,0,3,0,4,12,5,1,6,3,7,0,8,0,9,12,10,1] ?_
  refine AnyH.two 11 15 (by kernel_rfl) ?_ ?_
  ·
   refine Turn.ef rfl rfl (ef_callr (tr_gCarry f.regs t.regs badge hf0.o0) rfl rfl) ?_ ?_
   ·
    rintro _ _ ⟨rfl, rfl⟩; infer_instance
   rintro _ _ ⟨rfl, rfl⟩
   refine zd [12,1,13,4,14,4] ?_
   refine AnyH.one 15 (by kernel_rfl) ?_
   refine Turn.ef rfl rfl (ef_allocK tyZ33 rfl) ?_ ?_
   ·
    rintro _ _ ⟨b2, rfl, rfl⟩; infer_instance
   rintro _ _ ⟨b2, rfl, rfl⟩
   refine zK 16 ?_
   refine zd [17,5] ?_
   refine AnyH.done (by kernel_rfl) ?_
   refine zq [49] ?_
   refine Goes.same (hA0 b2) ⟨rfl, rfl, rfl, rfl, rfl, rfl, trivial⟩
  refine Turn.ef rfl rfl (ef_allocK tyZ33 rfl) ?_ ?_
  ·
   rintro _ _ ⟨b3, rfl, rfl⟩; infer_instance
  rintro _ _ ⟨b3, rfl, rfl⟩
  refine AnyH.one 11 (by kernel_rfl) ?_
  refine Turn.ef rfl rfl (ef_callr (tr_gCarry f.regs t.regs badge hf0.o0) rfl rfl) ?_ ?_
  ·
   rintro _ _ ⟨rfl, rfl⟩; infer_instance
  rintro _ _ ⟨rfl, rfl⟩
  refine zd [12,1,13,4,14,4] ?_
  refine zK 16 ?_
  refine zd [17,5] ?_
  refine AnyH.done (by kernel_rfl) ?_
  refine zq [49] ?_
  refine Goes.back (hA0 b3) ⟨rfl, rfl, rfl, rfl, rfl, rfl, trivial⟩
 intro b2
 dsimp only [List.cons_append, List.nil_append]
 refine zq [3,3,4,0,9,6,6] ?_
 refine Ops.pv (pv_indexAddrA (i := 0) rfl rfl rfl (by decide)) rfl ?_
 refine zq [8] ?_
 refine zC (tr_gUnpackI f.regs.r0 hf0.o0) ?_
 refine zq [0,7,7] ?_
 refine zA fun b4 => ?_
 refine zq [14,1,2,5,3,4,6,8,0] ?_
 refine Ops.splitb (t := 47) rfl (fun h1 => ?_) (fun h1 => ?_)
 ·
  refine zq [21] ?_
  refine Ops.efg ⟨_, _, rfl, rfl, rfl⟩ (ef_callr (tr_rWithin 4 may) rfl rfl) ?_
  rintro _ _ ⟨rfl, rfl⟩
  refine zq [24,2,5] ?_
  refine Wp.cond_t rfl (fun h2 => ?_) (fun h2 => ?_)
  ·
   refine zq [3,4,0,0,0,9,6,6] ?_
   refine Ops.pv (pv_indexAddrA (i := 6) rfl rfl rfl (by first | omega | (simp; done) | (simp; omega))) rfl ?_
   refine zq [8] ?_
   refine zC (tr_kFind k A ad kb _ hK hx he f.regs.r6 hf0.o6) ?_
   refine zq [0,7,7,7] ?_
   refine zA fun b5 => ?_
   refine zA fun b6 => ?_
   refine zq [14,14,1,2,5] ?_
   apply Wp.cutB1 [(0, _), (10, _), (11, _), (15, _), (17, _)] (fun b7 => [(18, _), (19, _)]) _ ⟨rfl, rfl, rfl, rfl, rfl, trivial⟩
   ·
    intro KK hA0
    refine AnyH.start [(kb, kerO A k.wi), ((ad j).tb, thrO t c s b)] 21 rfl ?_
    refine zd [0,1,1,3,2,0,3,2,4,1,5,3,6,0,7,11,8,1,9,3,10,0,11,0] ?_
    refine Tk 12 rfl rfl (pv_indexAddrA (i := 6) rfl rfl rfl (by first | omega | (simp; done) | (simp; omega))) rfl ?_
    refine zd [13,2] ?_
    refine AnyH.two 14 18 (by kernel_rfl) ?_ ?_
    ·
     refine Turn.ef rfl rfl (ef_callr (hK.capSlot c ht0.o6 16) rfl rfl) ?_ ?_
     ·
      rintro _ _ ⟨rfl, rfl⟩; infer_instance
     rintro _ _ ⟨rfl, rfl⟩
     refine zd [15,1,16,4,17,4] ?_
     refine AnyH.one 18 (by kernel_rfl) ?_
     refine Turn.ef rfl rfl (ef_allocK tyZ68 rfl) ?_ ?_
     ·
      rintro _ _ ⟨b7, rfl, rfl⟩; infer_instance
     rintro _ _ ⟨b7, rfl, rfl⟩
     refine zK 19 ?_
     refine zd [20,5] ?_
     refine AnyH.done (by kernel_rfl) ?_
     refine zq [49] ?_
     refine Goes.same (hA0 b7) ⟨rfl, rfl, rfl, rfl, rfl, rfl, rfl, trivial⟩
    refine Turn.ef rfl rfl (ef_allocK tyZ68 rfl) ?_ ?_
    ·
     rintro _ _ ⟨b8, rfl, rfl⟩; infer_instance
    rintro _ _ ⟨b8, rfl, rfl⟩
    refine AnyH.one 14 (by kernel_rfl) ?_
    refine Turn.ef rfl rfl (ef_callr (hK.capSlot c ht0.o6 16) rfl rfl) ?_ ?_
    ·
     rintro _ _ ⟨rfl, rfl⟩; infer_instance
    rintro _ _ ⟨rfl, rfl⟩
    refine zd [15,1,16,4,17,4] ?_
    refine zK 19 ?_
    refine zd [20,5] ?_
    refine AnyH.done (by kernel_rfl) ?_
    refine zq [49] ?_
    refine Goes.back (hA0 b8) ⟨rfl, rfl, rfl, rfl, rfl, rfl, rfl, trivial⟩
   intro b7
   dsimp only [List.cons_append, List.nil_append]
   refine zq [3,4,0,22,0] ?_
   refine Ops.pvc rfl rfl (fun hg => pv_move rfl) rfl ?_
   refine Ops.pvc rfl rfl (fun hg => Pv.setE (t := 85) rfl (cv_pos hg) (pv_eql rfl rfl)) rfl ?_
   refine zq [46,2,5] ?_
   refine Wp.cond_dect rfl (fun h3 => ?_) (fun h3 => ?_)
   ·
    refine AnyH.start [(b5, .cells [.int .i64 (k.find cf f.regs.r6).1.1, .int .i64 (k.find cf f.regs.r6).1.2].toArray 68), (b7, .cells [.int .i64 (k.slot c t.regs.r6 16).1.1, .int .i64 (k.slot c t.regs.r6 16).1.2].toArray 68)] 7 rfl ?_
    refine zd [0,1,1,3,2,0,4,10,5,10] ?_
    refine AnyH.one 3 (by kernel_rfl) ?_
    refine Turn.ef rfl rfl (ef_pv (pv_load rfl rfl rfl) rfl) ?_ ?_
    ·
     rintro _ _ ⟨rfl, rfl⟩; infer_instance
    rintro _ _ ⟨rfl, rfl⟩
    refine AnyH.one 6 (by kernel_rfl) ?_
    refine Turn.ef rfl rfl (ef_call (hK.capCopy hn (k.find cf f.regs.r6).1 (k.slot c t.regs.r6 16).1 7) rfl rfl) ?_ ?_
    ·
     rintro _ _ ⟨_, J1, ⟨rfl, hk1⟩, rfl, rfl⟩; infer_instance
    rintro _ _ ⟨_, J1, ⟨rfl, hk1⟩, rfl, rfl⟩
    refine AnyH.app ?_
    refine AnyH.done (by kernel_rfl) ?_
    refine zq [5,3,4,33,14,2,5,10] ?_
    have ec : k.carryK f t cf c may = { k with p := (mCopy k.p (k.find cf f.regs.r6).1 (k.slot c t.regs.r6 16).1 7).2, nk := k.nk + 1 } := by unfold Kn.carryK Kn.carryB; rw [if_pos (by simp_all)]
    rw [ec]
    exact Ends.ret (L' := J1) (res_one rfl (rv_cellK [_, _, _, _, _, _, _, _] rfl rfl rfl ⟨rfl, rfl, rfl, rfl, rfl, rfl, rfl, rfl, trivial⟩)) ⟨rfl, hk1⟩
   refine zq [11,5,3,4,33,14,2,5,10] ?_
   have ec : k.carryK f t cf c may = k := by unfold Kn.carryK Kn.carryB; rw [if_neg (by simp_all)]
   rw [ec]
   exact Ends.ret (L' := L) (res_one rfl (rv_cellK [_, _, _, _, _, _, _, _] rfl rfl rfl ⟨rfl, rfl, rfl, rfl, rfl, rfl, rfl, rfl, trivial⟩)) ⟨rfl, hK⟩
  refine zq [11,5,3,4,33,14,2,5,10] ?_
  have ec : k.carryK f t cf c may = k := by unfold Kn.carryK Kn.carryB; rw [if_neg (by simp_all)]
  rw [ec]
  exact Ends.ret (L' := L) (res_one rfl (rv_cellK [_, _, _, _, _, _, _, _] rfl rfl rfl ⟨rfl, rfl, rfl, rfl, rfl, rfl, rfl, rfl, trivial⟩)) ⟨rfl, hK⟩
 refine zq [13,13,26,2,5,17,11,5,3,4,33,14,2,5,10] ?_
 have ec : k.carryK f t cf c may = k := by unfold Kn.carryK Kn.carryB; rw [if_neg (by simp_all)]
 rw [ec]
 exact Ends.ret (L' := L) (res_one rfl (rv_cellK [_, _, _, _, _, _, _, _] rfl rfl rfl ⟨rfl, rfl, rfl, rfl, rfl, rfl, rfl, rfl, trivial⟩)) ⟨rfl, hK⟩
end Go.Proofs.YtipncceiekalfaaGreat
end
section
set_option linter.unusedVariables false
set_option linter.unusedSimpArgs false
set_option linter.unusedSectionVars false
namespace Go.Proofs.YtipncceiekalfaaGreat
open Go.SL
def epOkB (k : Kn) (n on way : Int) : Bool := match k.epI on with
  | none => false
  | some (j, S) => !meetB S n way || (k.thr (meetV S n way)).isSome
theorem epOk_ex {k : Kn} {n on way : Int} (h : epOkB k n on way = true) : ∃ j S sp, k.epI on = some (j, S) ∧ k.ix on = some j ∧ k.ar[j]? = some ⟨.ep S, sp⟩ ∧ (meetB S n way = true → (k.thr (meetV S n way)).isSome = true) := by
 unfold epOkB at h
 split at h
 ·
  cases h
 rename_i j S hj
 obtain ⟨sp, h1, h2⟩ := epI_ex hj
 refine ⟨j, S, sp, hj, h1, h2, fun hm => ?_⟩
 rw [hm] at h; simpa using h
theorem setEp_thr {k : Kn} {j i : Nat} {S S' : Ep} {sp sp2 : Int × Int} {t : ThrM} {c : CapM} {s b : Int} (he : k.ar[j]? = some ⟨.ep S, sp⟩) (hi : k.ar[i]? = some ⟨.thr t c s b, sp2⟩) : (k.setEp j S').ar[i]? = some ⟨.thr t c s b, sp2⟩ := by
 unfold Kn.setEp; dsimp only
 rw [setA_ne (by rintro rfl; rw [he] at hi; cases hi)]; exact hi
theorem setNt_thr {k : Kn} {j i : Nat} {S S' : Nt} {sp sp2 : Int × Int} {t : ThrM} {c : CapM} {s b : Int} (he : k.ar[j]? = some ⟨.nt S, sp⟩) (hi : k.ar[i]? = some ⟨.thr t c s b, sp2⟩) : (k.setNt j S').ar[i]? = some ⟨.thr t c s b, sp2⟩ := by
 unfold Kn.setNt; dsimp only
 rw [setA_ne (by rintro rfl; rw [he] at hi; cases hi)]; exact hi
section
variable {k : Kn} {n : Int} {i : Nat} {t : ThrM} {c : CapM} {s b : Int} {sp : Int × Int} (he : k.ar[i]? = some ⟨.thr t c s b, sp⟩) (wt calls : Bool)
include he
theorem send_bad (hX : ¬ (k.withR c t.regs.r7 4 2).2 = 0) : k.send n i wt calls = k.tell i (k.withR c t.regs.r7 4 2).2 := by
 unfold Kn.send; rw [thI_eq he]; dsimp only; rw [if_pos hX]
theorem send_inf (hX : (k.withR c t.regs.r7 4 2).2 = 0) (h1 : ¬ infE t.regs.r0.toNat = 0) : k.send n i wt calls = k.tell i (infE t.regs.r0.toNat) := by
 unfold Kn.send; rw [thI_eq he]; dsimp only; rw [if_neg (fun h => h hX), if_pos h1]
variable (hX : (k.withR c t.regs.r7 4 2).2 = 0) (h1 : infE t.regs.r0.toNat = 0) {j : Nat} {S : Ep} (hep : k.epI (k.withR c t.regs.r7 4 2).1.object = some (j, S))
include hX h1 hep
theorem send_met (hm : meetB S n 1 = true) {m : Nat} {w : ThrM} {cw : CapM} {sw bw : Int} {spw : Int × Int} (him : (k.setEp j (meetS S n 1 wt)).ix (meetV S n 1) = some m) (hem : (k.setEp j (meetS S n 1 wt)).ar[m]? = some ⟨.thr w cw sw bw, spw⟩) :
    k.send n i wt calls = if calls = true then (((((k.setEp j (meetS S n 1 wt)).carryK t w c cw (k.withR c t.regs.r7 4 2).1.rights).wake (meetV S n 1) (carryM t.regs w.regs (k.withR c t.regs.r7 4 2).1.badge).1).wait i n 4 0 0 false).setI m (fun u => { u with caller := n }))
      else ((((k.setEp j (meetS S n 1 wt)).carryK t w c cw (k.withR c t.regs.r7 4 2).1.rights).wake (meetV S n 1) (carryM t.regs w.regs (k.withR c t.regs.r7 4 2).1.badge).1).tell i 0) := by
  unfold Kn.send; rw [thI_eq he]; dsimp only; rw [if_neg (fun h => h hX), if_neg (fun h => h h1), hep]; dsimp only; rw [if_pos hm, him]; dsimp only; rw [thI_eq hem]
theorem send_wait (hm : meetB S n 1 = false) : k.send n i wt calls = if wt = true then (k.setEp j (meetS S n 1 wt)).wait i n 2 (k.withR c t.regs.r7 4 2).1.object (k.withR c t.regs.r7 4 2).1.badge calls else (k.setEp j (meetS S n 1 wt)).tell i 0 := by
 unfold Kn.send; rw [thI_eq he]; dsimp only; rw [if_neg (fun h => h hX), if_neg (fun h => h h1), hep]; dsimp only; rw [if_neg (by rw [hm]; decide)]
end
set_option maxHeartbeats 16000000 in
theorem tr_cSend (k : Kn) (A : KA) (ad : Nat → Ad) (kb : Nat) (L : Hp) (hK : KH k A ad kb L) (hx : KX k) {i : Nat} {t : ThrM} {c : CapM} {s b : Int} {sp : Int × Int} (he : k.ar[i]? = some ⟨.thr t c s b, sp⟩) (hn : k.nk < 2 ^ 18) (n : Int) (hi : k.ix n = some i) (wt calls : Bool) (hq : (k.withR c t.regs.r7 4 2).2 = 0 → infE t.regs.r0.toNat = 0 → epOkB k n (k.withR c t.regs.r7 4 2).1.object 1 = true) : Tr Tryz.prog 141 [clrV kb n (ad i).tb, .bool wt, .bool calls] (L) (fun u L' => u = .tuple #[] ∧ KH (k.send n i wt calls) A ad kb L') := by
 have ht0 := (hx.kw.ths _ _ he).1.wf.regs
 refine Tr.enter Tryz.func141 rfl Tryz.ntmps141 rfl (fun W F => ?_)
 refine Wp.app ?_
 refine Wr ?_
 refine zB fun b1 => ?_
 refine zq [2,5,3,4,29] ?_
 refine zD (tr_cWith k A ad kb _ hK hx he n 4 2) ?_
 rintro _ J1 ⟨rfl, hk1⟩
 refine Ops.app ?_
 refine zq [0,7,7] ?_
 refine zA fun b2 => ?_
 refine zq [14,1,2,5,3,3,4,0,55,2,5] ?_
 refine Wp.cond_dect rfl (fun h1 => ?_) (fun h1 => ?_)
 ·
  have hX : ¬ (k.withR c t.regs.r7 4 2).2 = 0 := by assumption
  rw [if_neg hX] at hk1
  refine zq [10,12] ?_
  rw [send_bad he wt calls hX]
  exact zr (L' := J1) ⟨rfl, hk1⟩
 have hX : (k.withR c t.regs.r7 4 2).2 = 0 := by omega
 rw [if_pos hX] at hk1
 haveI := hk1.kblk
 haveI := hk1.thr he
 refine zq [11,5,3,3,4,6,8,9,6,6] ?_
 refine Ops.pv (pv_indexAddrA (i := 0) rfl rfl rfl (by decide)) rfl ?_
 refine zq [8] ?_
 refine zC (tr_gUnpackI t.regs.r0 ht0.o0) ?_
 refine zq [0,7,7] ?_
 refine zA fun b3 => ?_
 refine zq [14,1,2,5,3,4,0,27,2,5] ?_
 refine Wp.cond_dect rfl (fun h2 => ?_) (fun h2 => ?_)
 ·
  have hI : ¬ infE t.regs.r0.toNat = 0 := by omega
  refine zq [3,4,29,0] ?_
  refine zD (tr_cTell k A ad kb _ hk1 hx.kw n he (infE t.regs.r0.toNat) (inf_err _)) ?_
  rintro _ J2 ⟨rfl, hk2⟩
  refine Ops.app ?_
  refine zq [2,5,10,12] ?_
  rw [send_inf he wt calls hX hI]
  exact zr (L' := J2) ⟨rfl, hk2⟩
 have hI : infE t.regs.r0.toNat = 0 := by omega
 obtain ⟨j, S, spe, hep, hje, hee, hmt⟩ := epOk_ex (hq hX hI)
 haveI := hk1.epB hee
 obtain ⟨hx1, q1⟩ := hx.setEp hee (meetS_n64 (hx.kw.ths _ _ hee) n 1 wt)
 have he1 : (k.setEp j (meetS S n 1 wt)).ar[i]? = some ⟨.thr t c s b, sp⟩ := setEp_thr hee he
 refine zq [11,5,3,4,6,8,6,8] ?_
 refine zC (hk1.gEpY hje hee) ?_
 refine zq [0,7,7,1,1,2,5,3] ?_
 refine AnyH.start [(b1, .cells [pV kb, .int .i64 n, pV (ad i).tb].toArray 174)] 15 rfl ?_
 refine zd [0,1,1,3,2,0,4,0,5,2,6,1] ?_
 refine AnyH.one 3 (by kernel_rfl) ?_
 refine Turn.ef rfl rfl (ef_pv (pv_load rfl rfl rfl) rfl) ?_ ?_
 ·
  rintro _ _ ⟨rfl, rfl⟩; infer_instance
 rintro _ _ ⟨rfl, rfl⟩
 refine AnyH.one 7 (by kernel_rfl) ?_
 refine Turn.ef rfl rfl (ef_call (hk1.epSend hx.kw hee n wt) rfl rfl) ?_ ?_
 ·
  rintro _ _ ⟨_, J3, ⟨rfl, hk3⟩, rfl, rfl⟩; infer_instance
 rintro _ _ ⟨_, J3, ⟨rfl, hk3⟩, rfl, rfl⟩
 refine AnyH.app ?_
 refine zd [8,1,9,4,10,4,11,4,12,5,13,5,14,5] ?_
 refine AnyH.done (by kernel_rfl) ?_
 refine zq [5,3,20,3,4,0,1,2,5] ?_
 refine Wp.cond_t rfl (fun h3 => ?_) (fun h3 => ?_)
 ·
  have hmB : meetB S n 1 = true := by assumption
  obtain ⟨⟨w, cw, sw, bw⟩, hw0⟩ := Option.isSome_iff_exists.1 (hmt hmB)
  obtain ⟨m, spm, him, hem⟩ := thr_ex hw0
  dsimp only at hem
  have hem1 : (k.setEp j (meetS S n 1 wt)).ar[m]? = some ⟨.thr w cw sw bw, spm⟩ := setEp_thr hee hem
  have him1 : (k.setEp j (meetS S n 1 wt)).ix (meetV S n 1) = some m := him
  refine zq [3,4,6,8,0] ?_
  refine zC ((hk3).gThrY him1 hem1) ?_
  refine zq [0,7,7,1,1,2,5,3] ?_
  refine AnyH.start [(b1, .cells [pV kb, .int .i64 n, pV (ad i).tb].toArray 174), (b2, .cells (k.withR c t.regs.r7 4 2).1.cells.toArray 70)] 14 rfl ?_
  refine zd [0,0,1,2,2,1,3,0,4,2,5,0,6,2,7,1,8,0,9,2,10,0,11,2] ?_
  refine AnyH.one 12 (by kernel_rfl) ?_
  refine Turn.ef rfl rfl (ef_call (tr_kCarry (k.setEp j (meetS S n 1 wt)) A ad kb _ hk3 hx1 hn he1 hem1 (k.withR c t.regs.r7 4 2).1.badge (k.withR c t.regs.r7 4 2).1.rights) rfl rfl) ?_ ?_
  ·
   rintro _ _ ⟨_, J4, ⟨rfl, hk4⟩, rfl, rfl⟩; infer_instance
  rintro _ _ ⟨_, J4, ⟨rfl, hk4⟩, rfl, rfl⟩
  refine AnyH.app ?_
  obtain ⟨hx2, q2⟩ := hx1.carryK t w c cw (k.withR c t.regs.r7 4 2).1.rights hn
  refine AnyH.one 13 (by kernel_rfl) ?_
  refine Turn.ef rfl rfl (ef_call (tr_kWake _ A ad kb _ hk4 hx2.kw (meetV S n 1) (carryM t.regs w.regs (k.withR c t.regs.r7 4 2).1.badge).1) rfl rfl) ?_ ?_
  ·
   rintro _ _ ⟨_, J5, ⟨rfl, hk5⟩, rfl, rfl⟩; infer_instance
  rintro _ _ ⟨_, J5, ⟨rfl, hk5⟩, rfl, rfl⟩
  refine AnyH.app ?_
  obtain ⟨hx3, q3⟩ := hx2.wake (meetV S n 1) (carry_ok ht0 (hx.kw.ths _ _ hem).1.wf.regs (with_badge hx c t.regs.r7 4 2))
  have q23 := q2.trans q3
  obtain ⟨t3, he3⟩ := q23.kp.th i t c s b sp he1
  obtain ⟨w3, hem3⟩ := q23.kp.th m w cw sw bw spm hem1
  have hi3 := (q23.kp.ix n).trans hi
  refine AnyH.done (by kernel_rfl) ?_
  refine zq [5,3,4,0,2,5] ?_
  refine Wp.cond_t rfl (fun h4 => ?_) (fun h4 => ?_)
  ·
   refine zq [3,4,29] ?_
   refine zD (tr_cWait _ A ad kb _ hk5 hx3.kw n he3 hi3 4 0 0 false) ?_
   rintro _ J6 ⟨rfl, hk6⟩
   refine Ops.app ?_
   obtain ⟨hx4, q4⟩ := hx3.wait i n 4 0 0 false
   obtain ⟨w4, hem4⟩ := q4.kp.th m w3 cw sw bw spm hem3
   refine zq [2,5,3,4] ?_
   obtain ⟨G, R, rfl, hU, hB, hP, hEb⟩ := (hk6).thrU hem4
   haveI := hU; haveI := hB; haveI := hP
   refine zq [0,6,8,9,6,6,25,2,5,10,15,12] ?_
   rw [send_met he wt calls hX hI hep hmB him1 hem1, if_pos (by assumption), setI_eq hem4]
   exact zr (L' := G (thrO { w4 with caller := n } cw sw bw)) ⟨rfl, hEb { w4 with caller := n } cw sw bw⟩
  refine zq [11,19,5,4,29] ?_
  refine zD (tr_cTell _ A ad kb _ hk5 hx3.kw n he3 0 (by decide)) ?_
  rintro _ J7 ⟨rfl, hk7⟩
  refine Ops.app ?_
  refine Ops.nil ?_
  rw [send_met he wt calls hX hI hep hmB him1 hem1, if_neg (by simp_all)]
  exact zf (L' := J7) ⟨rfl, hk7⟩
 have hmB : meetB S n 1 = false := by assumption
 refine zq [3,4,0,1,2,5] ?_
 refine Wp.cond_t rfl (fun h5 => ?_) (fun h5 => ?_)
 ·
  refine zq [3,4,29,6,8,6,8,0] ?_
  refine zD (tr_cWait (k.setEp j (meetS S n 1 wt)) A ad kb _ hk3 hx1.kw n he1 hi 2 (k.withR c t.regs.r7 4 2).1.object (k.withR c t.regs.r7 4 2).1.badge calls) ?_
  rintro _ J8 ⟨rfl, hk8⟩
  refine Ops.app ?_
  refine zq [2,5,10,15,12] ?_
  rw [send_wait he wt calls hX hI hep hmB, if_pos (by assumption)]
  exact zr (L' := J8) ⟨rfl, hk8⟩
 refine zq [11,19,5,4,29] ?_
 refine zD (tr_cTell (k.setEp j (meetS S n 1 wt)) A ad kb _ hk3 hx1.kw n he1 0 (by decide)) ?_
 rintro _ J9 ⟨rfl, hk9⟩
 refine Ops.app ?_
 refine Ops.nil ?_
 rw [send_wait he wt calls hX hI hep hmB, if_neg (by simp_all)]
 exact zf (L' := J9) ⟨rfl, hk9⟩
theorem meet_eq {k : Kn} {i : Nat} {t : ThrM} {c : CapM} {s b : Int} {sp : Int × Int} (he : k.ar[i]? = some ⟨.thr t c s b, sp⟩) (m on : Int) {j : Nat} (hj : k.ix m = some j) {f : ThrM} {cf : CapM} {sf bf : Int} {spf : Int × Int} (hej : k.ar[j]? = some ⟨.thr f cf sf bf, spf⟩) : k.meet i m on = if f.calls = false then ((k.carryK f t cf c (mayR k f cf on)).setI i (fun u => { u with regs := (carryM f.regs t.regs f.badge).1 })).excuse m 0 else (((k.carryK f t cf c (mayR k f cf on)).setI i (fun u => { u with regs := (carryM f.regs t.regs f.badge).1 })).setI j (fun u => { stopT u with st := 4 })).setI i (fun u => { u with caller := m }) := by
 unfold Kn.meet; rw [thI_eq he]; dsimp only; rw [hj]; dsimp only; rw [thI_eq hej]
set_option maxHeartbeats 16000000 in
theorem tr_cMeet (k : Kn) (A : KA) (ad : Nat → Ad) (kb : Nat) (L : Hp) (hK : KH k A ad kb L) (hx : KX k) {i : Nat} {t : ThrM} {c : CapM} {s b : Int} {sp : Int × Int} (he : k.ar[i]? = some ⟨.thr t c s b, sp⟩) (hn : k.nk < 2 ^ 18) (n : Int) (hi : k.ix n = some i) (m on : Int) {j : Nat} (hj : k.ix m = some j) {f : ThrM} {cf : CapM} {sf bf : Int} {spf : Int × Int} (hej : k.ar[j]? = some ⟨.thr f cf sf bf, spf⟩) : Tr Tryz.prog 187 [clrV kb n (ad i).tb, .int .i64 m, .int .i64 on] (L) (fun u L' => u = .tuple #[] ∧ KH (k.meet i m on) A ad kb L') := by
 have ht0 := (hx.kw.ths _ _ he).1.wf.regs
 have hf0 := (hx.kw.ths _ _ hej).1.wf
 haveI := hK.kblk
 haveI := hK.thr he
 haveI := hK.thr hej
 obtain ⟨hx1, q1⟩ := hx.carryK f t cf c (mayR k f cf on) hn
 obtain ⟨hx2, q2⟩ := hx1.setI i (f := (fun u => { u with regs := (carryM f.regs t.regs f.badge).1 })) (fun u hu => hu.regs (carry_ok hf0.regs ht0 hf0.badge))
 have he1 : (k.carryK f t cf c (mayR k f cf on)).ar[i]? = some ⟨.thr t c s b, sp⟩ := by rw [(carryK_ar ..).1]; exact he
 refine Tr.enter Tryz.func187 rfl Tryz.ntmps187 rfl (fun W F => ?_)
 refine Wp.app ?_
 refine Wr ?_
 refine zB fun b1 => ?_
 refine zq [2,5,3,4,6,8,0] ?_
 refine zC (hK.gThrY hj hej) ?_
 refine zq [0,7,7,1,1,2,5,3,4,1,2,5,3] ?_
 apply Wp.cutB2 [(1, _), (2, _), (3, _), (6, _), (8, _)] (fun b2 b3 => [(10, _), (11, _)]) _ ⟨rfl, rfl, rfl, rfl, rfl, trivial⟩
 ·
  intro KK hA0
  refine AnyH.start [(b1, .cells [pV kb, .int .i64 n, pV (ad i).tb].toArray 174), ((ad j).tb, thrO f cf sf bf)] 19 rfl ?_
  refine zd [0,0,1,2,2,1,3,1,4,3,5,0,6,0] ?_
  refine Tk 7 rfl rfl (pv_indexAddrA (i := 7) rfl rfl rfl (by first | omega | (simp; done) | (simp; omega))) rfl ?_
  refine zd [8,2] ?_
  refine AnyH.three 9 14 15 (by kernel_rfl) ?_ ?_ ?_
  ·
   refine Turn.ef rfl rfl (ef_callr (tr_kFind k A ad kb _ hK hx hej f.regs.r7 hf0.regs.o7) rfl rfl) ?_ ?_
   ·
    rintro _ _ ⟨rfl, rfl⟩; infer_instance
   rintro _ _ ⟨rfl, rfl⟩
   refine zd [10,1,11,4,12,4,13,4] ?_
   refine AnyH.two 14 15 (by kernel_rfl) ?_ ?_
   ·
    refine Turn.ef rfl rfl (ef_allocK tyZ68 rfl) ?_ ?_
    ·
     rintro _ _ ⟨b2, rfl, rfl⟩; infer_instance
    rintro _ _ ⟨b2, rfl, rfl⟩
    refine AnyH.one 15 (by kernel_rfl) ?_
    refine Turn.ef rfl rfl (ef_allocK tyZ70 rfl) ?_ ?_
    ·
     rintro _ _ ⟨b3, rfl, rfl⟩; infer_instance
    rintro _ _ ⟨b3, rfl, rfl⟩
    refine zK 16 ?_
    refine zK 17 ?_
    refine zd [18,5] ?_
    refine AnyH.done (by kernel_rfl) ?_
    refine zq [49] ?_
    refine Goes.same (hA0 b2 b3) ⟨rfl, rfl, rfl, rfl, rfl, rfl, rfl, trivial⟩
   refine Turn.ef rfl rfl (ef_allocK tyZ70 rfl) ?_ ?_
   ·
    rintro _ _ ⟨b4, rfl, rfl⟩; infer_instance
   rintro _ _ ⟨b4, rfl, rfl⟩
   refine AnyH.one 14 (by kernel_rfl) ?_
   refine Turn.ef rfl rfl (ef_allocK tyZ68 rfl) ?_ ?_
   ·
    rintro _ _ ⟨b5, rfl, rfl⟩; infer_instance
   rintro _ _ ⟨b5, rfl, rfl⟩
   refine zK 16 ?_
   refine zK 17 ?_
   refine zd [18,5] ?_
   refine AnyH.done (by kernel_rfl) ?_
   refine zq [49] ?_
   refine Goes.back (hA0 b5 b4) ⟨rfl, rfl, rfl, rfl, rfl, rfl, rfl, trivial⟩
  ·
   refine Turn.ef rfl rfl (ef_allocK tyZ68 rfl) ?_ ?_
   ·
    rintro _ _ ⟨b6, rfl, rfl⟩; infer_instance
   rintro _ _ ⟨b6, rfl, rfl⟩
   refine AnyH.two 9 15 (by kernel_rfl) ?_ ?_
   ·
    refine Turn.ef rfl rfl (ef_callr (tr_kFind k A ad kb _ hK hx hej f.regs.r7 hf0.regs.o7) rfl rfl) ?_ ?_
    ·
     rintro _ _ ⟨rfl, rfl⟩; infer_instance
    rintro _ _ ⟨rfl, rfl⟩
    refine zd [10,1,11,4,12,4,13,4] ?_
    refine AnyH.one 15 (by kernel_rfl) ?_
    refine Turn.ef rfl rfl (ef_allocK tyZ70 rfl) ?_ ?_
    ·
     rintro _ _ ⟨b7, rfl, rfl⟩; infer_instance
    rintro _ _ ⟨b7, rfl, rfl⟩
    refine zK 16 ?_
    refine zK 17 ?_
    refine zd [18,5] ?_
    refine AnyH.done (by kernel_rfl) ?_
    refine zq [49] ?_
    refine Goes.back (hA0 b6 b7) ⟨rfl, rfl, rfl, rfl, rfl, rfl, rfl, trivial⟩
   refine Turn.ef rfl rfl (ef_allocK tyZ70 rfl) ?_ ?_
   ·
    rintro _ _ ⟨b8, rfl, rfl⟩; infer_instance
   rintro _ _ ⟨b8, rfl, rfl⟩
   refine AnyH.one 9 (by kernel_rfl) ?_
   refine Turn.ef rfl rfl (ef_callr (tr_kFind k A ad kb _ hK hx hej f.regs.r7 hf0.regs.o7) rfl rfl) ?_ ?_
   ·
    rintro _ _ ⟨rfl, rfl⟩; infer_instance
   rintro _ _ ⟨rfl, rfl⟩
   refine zd [10,1,11,4,12,4,13,4] ?_
   refine zK 16 ?_
   refine zK 17 ?_
   refine zd [18,5] ?_
   refine AnyH.done (by kernel_rfl) ?_
   refine zq [49] ?_
   refine Goes.back (hA0 b6 b8) ⟨rfl, rfl, rfl, rfl, rfl, rfl, rfl, trivial⟩
  refine Turn.ef rfl rfl (ef_allocK tyZ70 rfl) ?_ ?_
  ·
   rintro _ _ ⟨b9, rfl, rfl⟩; infer_instance
  rintro _ _ ⟨b9, rfl, rfl⟩
  refine AnyH.two 9 14 (by kernel_rfl) ?_ ?_
  ·
   refine Turn.ef rfl rfl (ef_callr (tr_kFind k A ad kb _ hK hx hej f.regs.r7 hf0.regs.o7) rfl rfl) ?_ ?_
   ·
    rintro _ _ ⟨rfl, rfl⟩; infer_instance
   rintro _ _ ⟨rfl, rfl⟩
   refine zd [10,1,11,4,12,4,13,4] ?_
   refine AnyH.one 14 (by kernel_rfl) ?_
   refine Turn.ef rfl rfl (ef_allocK tyZ68 rfl) ?_ ?_
   ·
    rintro _ _ ⟨b10, rfl, rfl⟩; infer_instance
   rintro _ _ ⟨b10, rfl, rfl⟩
   refine zK 16 ?_
   refine zK 17 ?_
   refine zd [18,5] ?_
   refine AnyH.done (by kernel_rfl) ?_
   refine zq [49] ?_
   refine Goes.back (hA0 b10 b9) ⟨rfl, rfl, rfl, rfl, rfl, rfl, rfl, trivial⟩
  refine Turn.ef rfl rfl (ef_allocK tyZ68 rfl) ?_ ?_
  ·
   rintro _ _ ⟨b11, rfl, rfl⟩; infer_instance
  rintro _ _ ⟨b11, rfl, rfl⟩
  refine AnyH.one 9 (by kernel_rfl) ?_
  refine Turn.ef rfl rfl (ef_callr (tr_kFind k A ad kb _ hK hx hej f.regs.r7 hf0.regs.o7) rfl rfl) ?_ ?_
  ·
   rintro _ _ ⟨rfl, rfl⟩; infer_instance
  rintro _ _ ⟨rfl, rfl⟩
  refine zd [10,1,11,4,12,4,13,4] ?_
  refine zK 16 ?_
  refine zK 17 ?_
  refine zd [18,5] ?_
  refine AnyH.done (by kernel_rfl) ?_
  refine zq [49] ?_
  refine Goes.back (hA0 b11 b9) ⟨rfl, rfl, rfl, rfl, rfl, rfl, rfl, trivial⟩
 intro b2 b3
 dsimp only [List.cons_append, List.nil_append]
 refine zq [3,4,0,22,0] ?_
 refine Ops.pvc rfl rfl (fun hg => pv_fieldAddr0 rfl rfl) rfl ?_
 refine Ops.pvc rfl rfl (fun hg => Pv.setE (t := 37) rfl (cv_pos hg) (pv_load rfl rfl rfl)) rfl ?_
 refine Ops.pvc rfl rfl (fun hg => Pv.setE (t := 37) rfl (cv_pos hg) (Pv.setE (t := 38) rfl (cv_pos hg) (pv_eql rfl rfl))) rfl ?_
 refine zq [46,0] ?_
 refine Ops.pvc rfl rfl (fun hg => pv_fieldAddr0 rfl rfl) rfl ?_
 refine Ops.pvc rfl rfl (fun hg => Pv.setE (t := 42) rfl (cv_pos hg) (pv_load rfl rfl rfl)) rfl ?_
 refine Ops.pvc rfl rfl (fun hg => Pv.setE (t := 42) rfl (cv_pos hg) (Pv.setE (t := 43) rfl (cv_pos hg) (pv_move rfl))) rfl ?_
 refine Ops.pvc rfl rfl (fun hg => Pv.setE (t := 42) rfl (cv_pos hg) (Pv.setE (t := 43) rfl (cv_pos hg) (Pv.setE (t := 44) rfl (cv_pos hg) (pv_eql rfl rfl)))) rfl ?_
 refine zq [46,2,5] ?_
 refine Wp.cond_dect rfl (fun hmm => ?_) (fun hmm => ?_)
 ·
  have hmr : mayR k f cf on = (k.find cf f.regs.r7).2.1.rights := if_pos ⟨hmm.1.1, hmm.1.2, hmm.2⟩
  refine zq [4,6,8,1,2,5,3,4,0,9,6,6,8,1,2,5,3] ?_
  refine AnyH.start [(b1, .cells [pV kb, .int .i64 n, pV (ad i).tb].toArray 174)] 18 rfl ?_
  refine zd [0,0,1,2,2,0,3,2,4,1,5,0,6,2,7,1,8,3,9,0,10,0,12,1] ?_
  refine AnyH.one 11 (by kernel_rfl) ?_
  refine Turn.ef rfl rfl (ef_pv (pv_load rfl rfl rfl) rfl) ?_ ?_
  ·
   rintro _ _ ⟨rfl, rfl⟩; infer_instance
  rintro _ _ ⟨rfl, rfl⟩
  refine AnyH.one 13 (by kernel_rfl) ?_
  refine Turn.ef rfl rfl (ef_call (tr_kCarry k A ad kb _ hK hx hn hej he f.badge (k.find cf f.regs.r7).2.1.rights) rfl rfl) ?_ ?_
  ·
   rintro _ _ ⟨_, J1, ⟨rfl, hk1⟩, rfl, rfl⟩; infer_instance
  rintro _ _ ⟨_, J1, ⟨rfl, hk1⟩, rfl, rfl⟩
  refine AnyH.app ?_
  rw [← hmr] at hk1
  obtain ⟨G, R, rfl, hU, hB, hP, hEb⟩ := (hk1).thrU he1
  haveI := hU; haveI := hB; haveI := hP
  refine zd [14,3,15,0,16,0] ?_
  refine zK 17 ?_
  refine AnyH.done (by kernel_rfl) ?_
  refine zq [5,3,3,4,0,39,2,5] ?_
  refine Wp.cond_t rfl (fun h2 => ?_) (fun h2 => ?_)
  ·
   refine Wr ?_
   have hk2 : KH ((k.carryK f t cf c (mayR k f cf on)).setI i (fun u => { u with regs := (carryM f.regs t.regs f.badge).1 })) A ad kb (G (thrO { t with regs := (carryM f.regs t.regs f.badge).1 } c s b)) := by rw [setI_eq he1]; exact hEb { t with regs := (carryM f.regs t.regs f.badge).1 } c s b
   refine zq [6,8,0] ?_
   refine zD (tr_kExcuse ((k.carryK f t cf c (mayR k f cf on)).setI i (fun u => { u with regs := (carryM f.regs t.regs f.badge).1 })) A ad kb _ hk2 hx2.kw m 0 (by decide)) ?_
   rintro _ J2 ⟨rfl, hk2⟩
   refine Ops.app ?_
   refine zq [2,5,10,12] ?_
   rw [meet_eq he m on hj hej, if_pos (by simp_all)]
   exact zr (L' := J2) ⟨rfl, hk2⟩
  refine zq [11,5,3,4] ?_
  have hk2 : KH ((k.carryK f t cf c (mayR k f cf on)).setI i (fun u => { u with regs := (carryM f.regs t.regs f.badge).1 })) A ad kb (G (thrO { t with regs := (carryM f.regs t.regs f.badge).1 } c s b)) := by rw [setI_eq he1]; exact hEb { t with regs := (carryM f.regs t.regs f.badge).1 } c s b
  obtain ⟨f2, hej2⟩ := (q1.trans q2).kp.th j f cf sf bf spf hej
  generalize G (thrO { t with regs := (carryM f.regs t.regs f.badge).1 } c s b) = L9 at hk2 ⊢
  obtain ⟨G2, R2, rfl, hU2, hB2, hP2, hEb2⟩ := hk2.thrU hej2
  haveI := hU2; haveI := hB2; haveI := hP2
  refine zq [0,0,9,6,31] ?_
  refine zC (tr_tStop f2) ?_
  refine zq [9,6,14,2,5,3,4,0,9,6,6,25,2,5,4] ?_
  have hk3 : KH (((k.carryK f t cf c (mayR k f cf on)).setI i (fun u => { u with regs := (carryM f.regs t.regs f.badge).1 })).setI j (fun u => { stopT u with st := 4 })) A ad kb (G2 (thrO { stopT f2 with st := 4 } cf sf bf)) := by rw [setI_eq hej2]; exact hEb2 { stopT f2 with st := 4 } cf sf bf
  obtain ⟨hx3, q3⟩ := hx2.setI j (f := (fun u => { stopT u with st := 4 })) (fun u hu => hu.still (by decide : I64 4))
  obtain ⟨t4, he4⟩ := ((q1.trans q2).trans q3).kp.th i t c s b sp he
  generalize G2 (thrO { stopT f2 with st := 4 } cf sf bf) = L8 at hk3 ⊢
  obtain ⟨G4, R4, rfl, hU4, hB4, hP4, hEb4⟩ := hk3.thrU he4
  haveI := hU4; haveI := hB4; haveI := hP4
  refine zq [6,8,0,9,6,6,25,2] ?_
  rw [meet_eq he m on hj hej, if_neg (by simp_all), setI_eq he4]
  exact zf (L' := G4 (thrO { t4 with caller := m } c s b)) ⟨rfl, hEb4 { t4 with caller := m } c s b⟩
 have hmr : mayR k f cf on = 0 := if_neg (fun e => hmm ⟨⟨e.1, e.2.1⟩, e.2.2⟩)
 refine zq [11,5,3,4,0,9,6,6,8,1,2,5,3] ?_
 refine AnyH.start [(b1, .cells [pV kb, .int .i64 n, pV (ad i).tb].toArray 174)] 18 rfl ?_
 refine zd [0,0,1,2,2,0,3,2,4,1,5,0,6,2,7,1,8,3,9,0,10,0,12,1] ?_
 refine AnyH.one 11 (by kernel_rfl) ?_
 refine Turn.ef rfl rfl (ef_pv (pv_load rfl rfl rfl) rfl) ?_ ?_
 ·
  rintro _ _ ⟨rfl, rfl⟩; infer_instance
 rintro _ _ ⟨rfl, rfl⟩
 refine AnyH.one 13 (by kernel_rfl) ?_
 refine Turn.ef rfl rfl (ef_call (tr_kCarry k A ad kb _ hK hx hn hej he f.badge 0) rfl rfl) ?_ ?_
 ·
  rintro _ _ ⟨_, J3, ⟨rfl, hk3⟩, rfl, rfl⟩; infer_instance
 rintro _ _ ⟨_, J3, ⟨rfl, hk3⟩, rfl, rfl⟩
 refine AnyH.app ?_
 rw [← hmr] at hk3
 obtain ⟨G, R, rfl, hU, hB, hP, hEb⟩ := (hk3).thrU he1
 haveI := hU; haveI := hB; haveI := hP
 refine zd [14,3,15,0,16,0] ?_
 refine zK 17 ?_
 refine AnyH.done (by kernel_rfl) ?_
 refine zq [5,3,3,4,0,39,2,5] ?_
 refine Wp.cond_t rfl (fun h3 => ?_) (fun h3 => ?_)
 ·
  refine Wr ?_
  have hk2 : KH ((k.carryK f t cf c (mayR k f cf on)).setI i (fun u => { u with regs := (carryM f.regs t.regs f.badge).1 })) A ad kb (G (thrO { t with regs := (carryM f.regs t.regs f.badge).1 } c s b)) := by rw [setI_eq he1]; exact hEb { t with regs := (carryM f.regs t.regs f.badge).1 } c s b
  refine zq [6,8,0] ?_
  refine zD (tr_kExcuse ((k.carryK f t cf c (mayR k f cf on)).setI i (fun u => { u with regs := (carryM f.regs t.regs f.badge).1 })) A ad kb _ hk2 hx2.kw m 0 (by decide)) ?_
  rintro _ J4 ⟨rfl, hk4⟩
  refine Ops.app ?_
  refine zq [2,5,10,12] ?_
  rw [meet_eq he m on hj hej, if_pos (by simp_all)]
  exact zr (L' := J4) ⟨rfl, hk4⟩
 refine zq [11,5,3,4] ?_
 have hk2 : KH ((k.carryK f t cf c (mayR k f cf on)).setI i (fun u => { u with regs := (carryM f.regs t.regs f.badge).1 })) A ad kb (G (thrO { t with regs := (carryM f.regs t.regs f.badge).1 } c s b)) := by rw [setI_eq he1]; exact hEb { t with regs := (carryM f.regs t.regs f.badge).1 } c s b
 obtain ⟨f2, hej2⟩ := (q1.trans q2).kp.th j f cf sf bf spf hej
 generalize G (thrO { t with regs := (carryM f.regs t.regs f.badge).1 } c s b) = L9 at hk2 ⊢
 obtain ⟨G2, R2, rfl, hU2, hB2, hP2, hEb2⟩ := hk2.thrU hej2
 haveI := hU2; haveI := hB2; haveI := hP2
 refine zq [0,0,9,6,31] ?_
 refine zC (tr_tStop f2) ?_
 refine zq [9,6,14,2,5,3,4,0,9,6,6,25,2,5,4] ?_
 have hk3 : KH (((k.carryK f t cf c (mayR k f cf on)).setI i (fun u => { u with regs := (carryM f.regs t.regs f.badge).1 })).setI j (fun u => { stopT u with st := 4 })) A ad kb (G2 (thrO { stopT f2 with st := 4 } cf sf bf)) := by rw [setI_eq hej2]; exact hEb2 { stopT f2 with st := 4 } cf sf bf
 obtain ⟨hx3, q3⟩ := hx2.setI j (f := (fun u => { stopT u with st := 4 })) (fun u hu => hu.still (by decide : I64 4))
 obtain ⟨t4, he4⟩ := ((q1.trans q2).trans q3).kp.th i t c s b sp he
 generalize G2 (thrO { stopT f2 with st := 4 } cf sf bf) = L8 at hk3 ⊢
 obtain ⟨G4, R4, rfl, hU4, hB4, hP4, hEb4⟩ := hk3.thrU he4
 haveI := hU4; haveI := hB4; haveI := hP4
 refine zq [6,8,0,9,6,6,25,2] ?_
 rw [meet_eq he m on hj hej, if_neg (by simp_all), setI_eq he4]
 exact zf (L' := G4 (thrO { t4 with caller := m } c s b)) ⟨rfl, hEb4 { t4 with caller := m } c s b⟩
theorem reply_none {k : Kn} {i : Nat} {t : ThrM} {c : CapM} {s b : Int} {sp : Int × Int} (he : k.ar[i]? = some ⟨.thr t c s b, sp⟩) (hz : k.thr t.caller = none) : k.reply i = (k.tell i 8, false) := by
 unfold Kn.reply; rw [thI_eq he]; dsimp only; rw [hz]
theorem reply_some {k : Kn} {i : Nat} {t : ThrM} {c : CapM} {s b : Int} {sp : Int × Int} (he : k.ar[i]? = some ⟨.thr t c s b, sp⟩) {m : Nat} (hm : k.ix t.caller = some m) {w : ThrM} {cw : CapM} {sw bw : Int} {spw : Int × Int} (hem : k.ar[m]? = some ⟨.thr w cw sw bw, spw⟩) : k.reply i = if (carryM t.regs w.regs 0).2 = 0 then (((k.setI i (fun u => { u with caller := -1 })).wake t.caller (carryM t.regs w.regs 0).1).tell i 0, true) else (k.tell i (carryM t.regs w.regs 0).2, false) := by
 unfold Kn.reply; rw [thI_eq he]; dsimp only; rw [thr_eq hm hem]
set_option maxHeartbeats 8000000 in
theorem tr_cReplyZ (k : Kn) (A : KA) (ad : Nat → Ad) (kb : Nat) (L : Hp) (hK : KH k A ad kb L) (hx : KX k) {i : Nat} {t : ThrM} {c : CapM} {s b : Int} {sp : Int × Int} (he : k.ar[i]? = some ⟨.thr t c s b, sp⟩) (n : Int) (hz : k.thr t.caller = none) : Tr Tryz.prog 143 [clrV kb n (ad i).tb] (L) (fun u L' => u = .bool (k.reply i).2 ∧ KH (k.reply i).1 A ad kb L') := by
 have ht0 := (hx.kw.ths _ _ he).1.wf.regs
 haveI := hK.kblk
 haveI := hK.thr he
 refine Tr.enter Tryz.func143 rfl Tryz.ntmps143 rfl (fun W F => ?_)
 refine Wp.app ?_
 refine Wr ?_
 refine zB fun b1 => ?_
 refine zq [1,2,5,3,4,6,8,9,6,6,8,1,2,5,3,4,6,8,0] ?_
 refine zC (hK.gThrZ hx.kw hz) ?_
 refine zq [0,7,7,1,1,2,5,3,3,4,0,39,2,5,18,3,4,29] ?_
 refine zD (tr_cTell k A ad kb _ hK hx.kw n he 8 (by decide)) ?_
 rintro _ J1 ⟨rfl, hk1⟩
 refine Ops.app ?_
 refine zq [2,5,3,4,1,2,5,10,12] ?_
 rw [reply_none he hz]
 exact zr (L' := J1) ⟨rfl, hk1⟩
set_option maxHeartbeats 16000000 in
theorem tr_cReplyY (k : Kn) (A : KA) (ad : Nat → Ad) (kb : Nat) (L : Hp) (hK : KH k A ad kb L) (hx : KX k) {i : Nat} {t : ThrM} {c : CapM} {s b : Int} {sp : Int × Int} (he : k.ar[i]? = some ⟨.thr t c s b, sp⟩) (n : Int) {m : Nat} (hm : k.ix t.caller = some m) {w : ThrM} {cw : CapM} {sw bw : Int} {spw : Int × Int} (hem : k.ar[m]? = some ⟨.thr w cw sw bw, spw⟩) : Tr Tryz.prog 143 [clrV kb n (ad i).tb] (L) (fun u L' => u = .bool (k.reply i).2 ∧ KH (k.reply i).1 A ad kb L') := by
 have ht0 := (hx.kw.ths _ _ he).1.wf.regs
 haveI := hK.kblk
 haveI := hK.thr he
 haveI := hK.thr hem
 obtain ⟨hx1, q1⟩ := hx.caller i (m := -1) (by decide)
 have hw0 := (hx.kw.ths _ _ hem).1.wf.regs
 refine Tr.enter Tryz.func143 rfl Tryz.ntmps143 rfl (fun W F => ?_)
 refine Wp.app ?_
 refine Wr ?_
 refine zB fun b1 => ?_
 refine zq [1,2,5,3,4,6,8,9,6,6,8,1,2,5,3,4,6,8,0] ?_
 refine zC (hK.gThrY hm hem) ?_
 refine zq [0,7,7,1,1,2,5,3,3,4,0,39,2,5,17,11,5] ?_
 apply Wp.cutB1 [(1, _), (3, _)] (fun b2 => [(6, _), (7, _)]) _ ⟨rfl, rfl, trivial⟩
 ·
  intro KK hA0
  refine AnyH.start [(b1, .cells [pV kb, .int .i64 n, pV (ad i).tb].toArray 174), ((ad i).tb, thrO t c s b), ((ad m).tb, thrO w cw sw bw)] 18 rfl ?_
  refine zd [0,0,1,2,2,3,3,0,4,0,5,12,6,1,7,3,8,0,9,0,10,12] ?_
  refine AnyH.two 11 15 (by kernel_rfl) ?_ ?_
  ·
   refine Turn.ef rfl rfl (ef_callr (tr_gCarry t.regs w.regs 0 ht0.o0) rfl rfl) ?_ ?_
   ·
    rintro _ _ ⟨rfl, rfl⟩; infer_instance
   rintro _ _ ⟨rfl, rfl⟩
   refine zd [12,1,13,4,14,4] ?_
   refine AnyH.one 15 (by kernel_rfl) ?_
   refine Turn.ef rfl rfl (ef_allocK tyZ33 rfl) ?_ ?_
   ·
    rintro _ _ ⟨b2, rfl, rfl⟩; infer_instance
   rintro _ _ ⟨b2, rfl, rfl⟩
   refine zK 16 ?_
   refine zd [17,5] ?_
   refine AnyH.done (by kernel_rfl) ?_
   refine zq [49] ?_
   refine Goes.same (hA0 b2) ⟨rfl, rfl, rfl, rfl, trivial⟩
  refine Turn.ef rfl rfl (ef_allocK tyZ33 rfl) ?_ ?_
  ·
   rintro _ _ ⟨b3, rfl, rfl⟩; infer_instance
  rintro _ _ ⟨b3, rfl, rfl⟩
  refine AnyH.one 11 (by kernel_rfl) ?_
  refine Turn.ef rfl rfl (ef_callr (tr_gCarry t.regs w.regs 0 ht0.o0) rfl rfl) ?_ ?_
  ·
   rintro _ _ ⟨rfl, rfl⟩; infer_instance
  rintro _ _ ⟨rfl, rfl⟩
  refine zd [12,1,13,4,14,4] ?_
  refine zK 16 ?_
  refine zd [17,5] ?_
  refine AnyH.done (by kernel_rfl) ?_
  refine zq [49] ?_
  refine Goes.back (hA0 b3) ⟨rfl, rfl, rfl, rfl, trivial⟩
 intro b2
 dsimp only [List.cons_append, List.nil_append]
 refine zq [3,3,4,0,22,2,5] ?_
 refine Wp.cond_dect rfl (fun h1 => ?_) (fun h1 => ?_)
 ·
  have h41 : (carryM t.regs w.regs 0).2 = 0 := by assumption
  refine Wr ?_
  obtain ⟨G, R, rfl, hU, hB, hP, hEb⟩ := hK.thrU he
  haveI := hU; haveI := hB; haveI := hP
  refine zq [6,8,9,6,6,25,2,5,4] ?_
  have hk1 : KH (k.setI i (fun u => { u with caller := -1 })) A ad kb (G (thrO { t with caller := -1 } c s b)) := by rw [setI_eq he]; exact hEb { t with caller := -1 } c s b
  generalize G (thrO { t with caller := -1 } c s b) = L9 at hk1 ⊢
  haveI := hk1.kblk
  refine zq [6,8,0,33] ?_
  refine zD (tr_kWake (k.setI i (fun u => { u with caller := -1 })) A ad kb _ hk1 hx1.kw t.caller (carryM t.regs w.regs 0).1) ?_
  rintro _ J1 ⟨rfl, hk1⟩
  refine Ops.app ?_
  obtain ⟨hx2, q2⟩ := hx1.wake t.caller (r := (carryM t.regs w.regs 0).1) (carry_ok ht0 hw0 (by decide))
  obtain ⟨t2, he2⟩ := (q1.trans q2).kp.th i t c s b sp he
  refine zq [2,5,3,4,29,0] ?_
  refine zD (tr_cTell ((k.setI i (fun u => { u with caller := -1 })).wake t.caller (carryM t.regs w.regs 0).1) A ad kb _ hk1 hx2.kw n he2 (carryM t.regs w.regs 0).2 (carry_err ..)) ?_
  rintro _ J2 ⟨rfl, hk2⟩
  refine Ops.app ?_
  refine zq [2,5,3,4,0,22,1,2,5,10] ?_
  have hk9 := hk2
  rw [h41] at hk9
  rw [reply_some he hm hem, if_pos h41]
  exact Ends.ret (L' := J2) (res1 rfl rfl) ⟨by rw [decide_eq_true h41], hk9⟩
 have h41 : ¬ (carryM t.regs w.regs 0).2 = 0 := by assumption
 refine zq [11,5,3,4,29,0] ?_
 refine zD (tr_cTell k A ad kb _ hK hx.kw n he (carryM t.regs w.regs 0).2 (carry_err ..)) ?_
 rintro _ J3 ⟨rfl, hk3⟩
 refine Ops.app ?_
 refine zq [2,5,3,4,0,22,1,2,5,10] ?_
 rw [reply_some he hm hem, if_neg h41]
 exact Ends.ret (L' := J3) (res1 rfl rfl) ⟨by rw [decide_eq_false h41], hk3⟩
theorem tr_cReply (k : Kn) (A : KA) (ad : Nat → Ad) (kb : Nat) (L : Hp) (hK : KH k A ad kb L) (hx : KX k) {i : Nat} {t : ThrM} {c : CapM} {s b : Int} {sp : Int × Int} (he : k.ar[i]? = some ⟨.thr t c s b, sp⟩) (n : Int) : Tr Tryz.prog 143 [clrV kb n (ad i).tb] L (fun u L' => u = .bool (k.reply i).2 ∧ KH (k.reply i).1 A ad kb L') := by
 cases hz : k.thr t.caller with
 | none => exact tr_cReplyZ k A ad kb L hK hx he n hz
 | some x =>
  obtain ⟨m, spm, hm, hem⟩ := thr_ex hz
  exact tr_cReplyY k A ad kb L hK hx he n hm hem
end Go.Proofs.YtipncceiekalfaaGreat
end
section
set_option linter.unusedVariables false
set_option linter.unusedSimpArgs false
set_option linter.unusedSectionVars false
namespace Go.Proofs.YtipncceiekalfaaGreat
open Go.SL
section
variable {k : Kn} {n : Int} {i : Nat} {t : ThrM} {c : CapM} {s b : Int} {sp : Int × Int} (he : k.ar[i]? = some ⟨.thr t c s b, sp⟩) (wt : Bool)
include he
theorem recv_bad (hX : ¬ (k.withR c t.regs.r7 4 1).2 = 0) : k.recv n i wt = k.tell i (k.withR c t.regs.r7 4 1).2 := by
 unfold Kn.recv; rw [thI_eq he]; dsimp only; rw [if_pos hX]
variable (hX : (k.withR c t.regs.r7 4 1).2 = 0)
include hX
theorem recv_word {j : Nat} {S : Nt} (hj : (k.orphan i).ntI b = some (j, S)) (hw : ¬ S.w = 0) : k.recv n i wt = ((k.orphan i).setNt j (wtS S n false)).word i S.w := by
 unfold Kn.recv; rw [thI_eq he]; dsimp only; rw [if_neg (fun h => h hX), hj]; dsimp only; rw [if_pos hw]
theorem recv_zero {j : Nat} {S : Nt} (hj : (k.orphan i).ntI b = some (j, S)) (hw : S.w = 0) : k.recv n i wt = (k.orphan i).recv1 n i wt (k.withR c t.regs.r7 4 1).1.object := by
 unfold Kn.recv; rw [thI_eq he]; dsimp only; rw [if_neg (fun h => h hX), hj]; dsimp only; rw [if_neg (fun h => h hw)]
theorem recv_none (hj : (k.orphan i).ntI b = none) : k.recv n i wt = (k.orphan i).recv1 n i wt (k.withR c t.regs.r7 4 1).1.object := by
 unfold Kn.recv; rw [thI_eq he]; dsimp only; rw [if_neg (fun h => h hX), hj]
end
section
variable {k : Kn} {n : Int} {i : Nat} {on : Int} {j : Nat} {S : Ep} (hep : k.epI on = some (j, S)) (wt : Bool)
include hep
theorem recv1_met (hm : meetB S n 2 = true) : k.recv1 n i wt on = (k.setEp j (meetS S n 2 wt)).meet i (meetV S n 2) on := by
 unfold Kn.recv1; rw [hep]; dsimp only; rw [if_pos hm]
theorem recv1_wait (hm : meetB S n 2 = false) : k.recv1 n i wt on = if wt = true then (k.setEp j (meetS S n 2 wt)).wait i n 3 on 0 false else (k.setEp j (meetS S n 2 wt)).tell i 3 := by
 unfold Kn.recv1; rw [hep]; dsimp only; rw [if_neg (by rw [hm]; decide)]
end
set_option maxHeartbeats 16000000 in
theorem tr_cRecv (k : Kn) (A : KA) (ad : Nat → Ad) (kb : Nat) (L : Hp) (hK : KH k A ad kb L) (hx : KX k) (hn : k.nk < 2 ^ 18) {i : Nat} {t : ThrM} {c : CapM} {s b : Int} {sp : Int × Int} (he : k.ar[i]? = some ⟨.thr t c s b, sp⟩) (n : Int) (hi : k.ix n = some i) (wt : Bool) (hq : (k.withR c t.regs.r7 4 1).2 = 0 → epOkB (k.orphan i) n (k.withR c t.regs.r7 4 1).1.object 2 = true) : Tr Tryz.prog 142 [clrV kb n (ad i).tb, .bool wt] (L) (fun u L' => u = .tuple #[] ∧ KH (k.recv n i wt) A ad kb L') := by
 have ht0 := (hx.kw.ths _ _ he).1.wf.regs
 refine Tr.enter Tryz.func142 rfl Tryz.ntmps142 rfl (fun W F => ?_)
 refine Wp.app ?_
 refine Wr ?_
 refine zB fun b1 => ?_
 refine zq [2,5,3,4,29] ?_
 refine zD (tr_cWith k A ad kb _ hK hx he n 4 1) ?_
 rintro _ J1 ⟨rfl, hk1⟩
 refine Ops.app ?_
 refine zq [0,7,7] ?_
 refine zA fun b2 => ?_
 refine zq [14,1,2,5,3,3,4,0,55,2,5] ?_
 refine Wp.cond_dect rfl (fun h1 => ?_) (fun h1 => ?_)
 ·
  have hX : ¬ (k.withR c t.regs.r7 4 1).2 = 0 := by assumption
  rw [if_neg hX] at hk1
  refine zq [10,12] ?_
  rw [recv_bad he wt hX]
  exact zr (L' := J1) ⟨rfl, hk1⟩
 have hX : (k.withR c t.regs.r7 4 1).2 = 0 := by omega
 rw [if_pos hX] at hk1
 haveI := hk1.kblk
 haveI := hk1.thr he
 rcases hnt : (k.orphan i).ntI b with _ | ⟨jn, Sn⟩
 ·
  refine zq [11,5,3,4,6,8,6,8] ?_
  refine zD (tr_kOrphan k A ad kb _ hk1 hx.kw he) ?_
  rintro _ J2 ⟨rfl, hk2⟩
  refine Ops.app ?_
  obtain ⟨hx1, q1⟩ := hx.orphan i
  obtain ⟨t1, he1⟩ := q1.kp.th i t c s b sp he
  have hi1 := (q1.kp.ix n).trans hi
  obtain ⟨j, S, spe, hep, hje, hee, hmt⟩ := epOk_ex (hq hX)
  obtain ⟨hx2, q2⟩ := hx1.setEp hee (meetS_n64 (hx1.kw.ths _ _ hee) n 2 wt)
  have he2 : ((k.orphan i).setEp j (meetS S n 2 wt)).ar[i]? = some ⟨.thr t1 c s b, sp⟩ := setEp_thr hee he1
  have hn1 : (k.orphan i).nk < 2 ^ 18 := by have := q1.nk; omega
  haveI := (hk2).thr he1
  refine zq [2,5,3,3] ?_
  refine AnyH.start [(b1, .cells [pV kb, .int .i64 n, pV (ad i).tb].toArray 174), ((ad i).tb, thrO t1 c s b)] 13 rfl ?_
  refine zd [0,0,1,2,2,0,3,2,4,3,5,0,6,2] ?_
  refine AnyH.one 7 (by kernel_rfl) ?_
  refine Turn.ef rfl rfl (ef_callr ((hk2).gNtZ hx1.kw hnt) rfl rfl) ?_ ?_
  ·
   rintro _ _ ⟨rfl, rfl⟩; infer_instance
  rintro _ _ ⟨rfl, rfl⟩
  refine zd [8,1,9,4,10,4,11,5,12,5] ?_
  refine AnyH.done (by kernel_rfl) ?_
  refine zq [5,3,4,0,2,5,17,11,5,3,4] ?_
  haveI := (hk2).epB hee
  refine zq [6,8,6,8] ?_
  refine zC ((hk2).gEpY hje hee) ?_
  refine zq [0,7,7,1,1,2,5,3] ?_
  refine AnyH.start [(b1, .cells [pV kb, .int .i64 n, pV (ad i).tb].toArray 174)] 15 rfl ?_
  refine zd [0,1,1,3,2,0,4,0,5,2,6,1] ?_
  refine AnyH.one 3 (by kernel_rfl) ?_
  refine Turn.ef rfl rfl (ef_pv (pv_load rfl rfl rfl) rfl) ?_ ?_
  ·
   rintro _ _ ⟨rfl, rfl⟩; infer_instance
  rintro _ _ ⟨rfl, rfl⟩
  refine AnyH.one 7 (by kernel_rfl) ?_
  refine Turn.ef rfl rfl (ef_call ((hk2).epRecv hx1.kw hee n wt) rfl rfl) ?_ ?_
  ·
   rintro _ _ ⟨_, J3, ⟨rfl, hk3⟩, rfl, rfl⟩; infer_instance
  rintro _ _ ⟨_, J3, ⟨rfl, hk3⟩, rfl, rfl⟩
  refine AnyH.app ?_
  refine zd [8,1,9,4,10,4,11,4,12,5,13,5,14,5] ?_
  refine AnyH.done (by kernel_rfl) ?_
  refine zq [5,20,3,4,0,1,2,5] ?_
  refine Wp.cond_t rfl (fun h2 => ?_) (fun h2 => ?_)
  ·
   have hmB : meetB S n 2 = true := by assumption
   obtain ⟨⟨w, cw, sw, bw⟩, hw0⟩ := Option.isSome_iff_exists.1 (hmt hmB)
   obtain ⟨m, spm, him, hem⟩ := thr_ex hw0
   dsimp only at hem
   have hmej : ((k.orphan i).setEp j (meetS S n 2 wt)).ar[m]? = some ⟨.thr w cw sw bw, spm⟩ := setEp_thr hee hem
   have hmj : ((k.orphan i).setEp j (meetS S n 2 wt)).ix (meetV S n 2) = some m := him
   refine zq [4,29,0,6,8] ?_
   refine zD (tr_cMeet ((k.orphan i).setEp j (meetS S n 2 wt)) A ad kb _ hk3 hx2 he2 hn1 n hi1 (meetV S n 2) (k.withR c t.regs.r7 4 1).1.object hmj hmej) ?_
   rintro _ J4 ⟨rfl, hk4⟩
   refine Ops.app ?_
   refine zq [2,19] ?_
   rw [recv_none he wt hX hnt]
   rw [recv1_met hep wt hmB]
   exact zf (L' := J4) ⟨rfl, hk4⟩
  have hmB : meetB S n 2 = false := by assumption
  refine zq [3,4,0,1,2,5] ?_
  refine Wp.cond_t rfl (fun h3 => ?_) (fun h3 => ?_)
  ·
   refine zq [4,29,6,8] ?_
   refine zD (tr_cWait ((k.orphan i).setEp j (meetS S n 2 wt)) A ad kb _ hk3 hx2.kw n he2 hi1 3 (k.withR c t.regs.r7 4 1).1.object 0 false) ?_
   rintro _ J5 ⟨rfl, hk5⟩
   refine Ops.app ?_
   refine zq [2,19] ?_
   rw [recv_none he wt hX hnt]
   rw [recv1_wait hep wt hmB, if_pos (by assumption)]
   exact zf (L' := J5) ⟨rfl, hk5⟩
  refine zq [4,29] ?_
  refine zD (tr_cTell ((k.orphan i).setEp j (meetS S n 2 wt)) A ad kb _ hk3 hx2.kw n he2 3 (by decide)) ?_
  rintro _ J6 ⟨rfl, hk6⟩
  refine Ops.app ?_
  refine zq [2,19] ?_
  rw [recv_none he wt hX hnt]
  rw [recv1_wait hep wt hmB, if_neg (by simp_all)]
  exact zf (L' := J6) ⟨rfl, hk6⟩
 obtain ⟨spn, hi2, hen⟩ := ntI_ex hnt
 dsimp only at hi2 hen
 refine zq [11,5,3,4,6,8,6,8] ?_
 refine zD (tr_kOrphan k A ad kb _ hk1 hx.kw he) ?_
 rintro _ J7 ⟨rfl, hk7⟩
 refine Ops.app ?_
 obtain ⟨hx1, q1⟩ := hx.orphan i
 obtain ⟨t1, he1⟩ := q1.kp.th i t c s b sp he
 have hi1 := (q1.kp.ix n).trans hi
 obtain ⟨j, S, spe, hep, hje, hee, hmt⟩ := epOk_ex (hq hX)
 obtain ⟨hx2, q2⟩ := hx1.setEp hee (meetS_n64 (hx1.kw.ths _ _ hee) n 2 wt)
 have he2 : ((k.orphan i).setEp j (meetS S n 2 wt)).ar[i]? = some ⟨.thr t1 c s b, sp⟩ := setEp_thr hee he1
 have hn1 : (k.orphan i).nk < 2 ^ 18 := by have := q1.nk; omega
 haveI := (hk7).thr he1
 refine zq [2,5,3,3] ?_
 refine AnyH.start [(b1, .cells [pV kb, .int .i64 n, pV (ad i).tb].toArray 174), ((ad i).tb, thrO t1 c s b)] 13 rfl ?_
 refine zd [0,0,1,2,2,0,3,2,4,3,5,0,6,2] ?_
 refine AnyH.one 7 (by kernel_rfl) ?_
 refine Turn.ef rfl rfl (ef_callr ((hk7).gNtY hi2 hen) rfl rfl) ?_ ?_
 ·
  rintro _ _ ⟨rfl, rfl⟩; infer_instance
 rintro _ _ ⟨rfl, rfl⟩
 refine zd [8,1,9,4,10,4,11,5,12,5] ?_
 refine AnyH.done (by kernel_rfl) ?_
 refine zq [5,3,4,0,2,5,18,3,4] ?_
 haveI := (hk7).ntB hen
 refine zq [0,9,6,8] ?_
 refine zD ((hk7).ntState hx1.kw hen) ?_
 rintro _ _ ⟨v1, H1, J8, rfl, hs1, hk8, rfl⟩
 refine Ops.app ?_
 refine zq [0,7,7,1,1,2,5,3,4,0,27,2,5] ?_
 refine Wp.cond_dect rfl (fun h4 => ?_) (fun h4 => ?_)
 ·
  haveI := (hk8).ntB hen
  refine Wp.seq ?_
  refine AnyH.start [(b1, .cells [pV kb, .int .i64 n, pV (ad i).tb].toArray 174)] 7 rfl ?_
  refine zd [0,1,1,3,2,0,4,0,5,2] ?_
  refine AnyH.one 3 (by kernel_rfl) ?_
  refine Turn.ef rfl rfl (ef_pv (pv_load rfl rfl rfl) rfl) ?_ ?_
  ·
   rintro _ _ ⟨rfl, rfl⟩; infer_instance
  rintro _ _ ⟨rfl, rfl⟩
  refine AnyH.one 6 (by kernel_rfl) ?_
  refine Turn.ef rfl rfl (ef_call ((hk8).ntWait hx1.kw hen n false) rfl rfl) ?_ ?_
  ·
   rintro _ _ ⟨_, J9, ⟨rfl, hk9⟩, rfl, rfl⟩; infer_instance
  rintro _ _ ⟨_, J9, ⟨rfl, hk9⟩, rfl, rfl⟩
  refine AnyH.app ?_
  obtain ⟨hx3, q3⟩ := hx1.setNt hen (wtS_n64 (hx1.kw.ths _ _ hen) n false)
  have he3 : ((k.orphan i).setNt jn (wtS Sn n false)).ar[i]? = some ⟨.thr t1 c s b, sp⟩ := setNt_thr hen he1
  refine AnyH.done (by kernel_rfl) ?_
  refine zq [5,3,4,29,0] ?_
  refine zD (tr_cWord _ A ad kb _ hk9 hx3.kw n he3 Sn.w) ?_
  rintro _ J10 ⟨rfl, hk10⟩
  refine Ops.app ?_
  refine zq [2,5,10,12] ?_
  rw [recv_word he wt hX hnt (by assumption)]
  exact zr (L' := J10) ⟨rfl, hk10⟩
 refine zq [11,5,3,4] ?_
 haveI := (hk8).epB hee
 refine zq [6,8,6,8] ?_
 refine zC ((hk8).gEpY hje hee) ?_
 refine zq [0,7,7,1,1,2,5,3] ?_
 refine AnyH.start [(b1, .cells [pV kb, .int .i64 n, pV (ad i).tb].toArray 174)] 15 rfl ?_
 refine zd [0,1,1,3,2,0,4,0,5,2,6,1] ?_
 refine AnyH.one 3 (by kernel_rfl) ?_
 refine Turn.ef rfl rfl (ef_pv (pv_load rfl rfl rfl) rfl) ?_ ?_
 ·
  rintro _ _ ⟨rfl, rfl⟩; infer_instance
 rintro _ _ ⟨rfl, rfl⟩
 refine AnyH.one 7 (by kernel_rfl) ?_
 refine Turn.ef rfl rfl (ef_call ((hk8).epRecv hx1.kw hee n wt) rfl rfl) ?_ ?_
 ·
  rintro _ _ ⟨_, J11, ⟨rfl, hk11⟩, rfl, rfl⟩; infer_instance
 rintro _ _ ⟨_, J11, ⟨rfl, hk11⟩, rfl, rfl⟩
 refine AnyH.app ?_
 refine zd [8,1,9,4,10,4,11,4,12,5,13,5,14,5] ?_
 refine AnyH.done (by kernel_rfl) ?_
 refine zq [5,20,3,4,0,1,2,5] ?_
 refine Wp.cond_t rfl (fun h5 => ?_) (fun h5 => ?_)
 ·
  have hmB : meetB S n 2 = true := by assumption
  obtain ⟨⟨w, cw, sw, bw⟩, hw0⟩ := Option.isSome_iff_exists.1 (hmt hmB)
  obtain ⟨m, spm, him, hem⟩ := thr_ex hw0
  dsimp only at hem
  have hmej : ((k.orphan i).setEp j (meetS S n 2 wt)).ar[m]? = some ⟨.thr w cw sw bw, spm⟩ := setEp_thr hee hem
  have hmj : ((k.orphan i).setEp j (meetS S n 2 wt)).ix (meetV S n 2) = some m := him
  refine zq [4,29,0,6,8] ?_
  refine zD (tr_cMeet ((k.orphan i).setEp j (meetS S n 2 wt)) A ad kb _ hk11 hx2 he2 hn1 n hi1 (meetV S n 2) (k.withR c t.regs.r7 4 1).1.object hmj hmej) ?_
  rintro _ J12 ⟨rfl, hk12⟩
  refine Ops.app ?_
  refine zq [2,19] ?_
  rw [recv_zero he wt hX hnt (by omega)]
  rw [recv1_met hep wt hmB]
  exact zf (L' := J12) ⟨rfl, hk12⟩
 have hmB : meetB S n 2 = false := by assumption
 refine zq [3,4,0,1,2,5] ?_
 refine Wp.cond_t rfl (fun h6 => ?_) (fun h6 => ?_)
 ·
  refine zq [4,29,6,8] ?_
  refine zD (tr_cWait ((k.orphan i).setEp j (meetS S n 2 wt)) A ad kb _ hk11 hx2.kw n he2 hi1 3 (k.withR c t.regs.r7 4 1).1.object 0 false) ?_
  rintro _ J13 ⟨rfl, hk13⟩
  refine Ops.app ?_
  refine zq [2,19] ?_
  rw [recv_zero he wt hX hnt (by omega)]
  rw [recv1_wait hep wt hmB, if_pos (by assumption)]
  exact zf (L' := J13) ⟨rfl, hk13⟩
 refine zq [4,29] ?_
 refine zD (tr_cTell ((k.orphan i).setEp j (meetS S n 2 wt)) A ad kb _ hk11 hx2.kw n he2 3 (by decide)) ?_
 rintro _ J14 ⟨rfl, hk14⟩
 refine Ops.app ?_
 refine zq [2,19] ?_
 rw [recv_zero he wt hX hnt (by omega)]
 rw [recv1_wait hep wt hmB, if_neg (by simp_all)]
 exact zf (L' := J14) ⟨rfl, hk14⟩
section
variable {k : Kn} {n : Int} {i : Nat} {t : ThrM} {c : CapM} {s b : Int} {sp : Int × Int} (he : k.ar[i]? = some ⟨.thr t c s b, sp⟩) (wt : Bool)
include he
theorem await_bad (hX : ¬ (k.withR c t.regs.r7 5 1).2 = 0) : k.await n i wt = k.tell i (k.withR c t.regs.r7 5 1).2 := by
 unfold Kn.await; rw [thI_eq he]; dsimp only; rw [if_pos hX]
theorem await_eq (hX : (k.withR c t.regs.r7 5 1).2 = 0) {j : Nat} {S : Nt} (hj : k.ntI (k.withR c t.regs.r7 5 1).1.object = some (j, S)) : k.await n i wt = if wtB S n = true then (k.setNt j (wtS S n wt)).word i (wtW S n) else if wt = true then (k.setNt j (wtS S n wt)).wait i n 5 (k.withR c t.regs.r7 5 1).1.object 0 false else (k.setNt j (wtS S n wt)).tell i 3 := by
 unfold Kn.await; rw [thI_eq he]; dsimp only; rw [if_neg (fun h => h hX), hj]
end
set_option maxHeartbeats 16000000 in
theorem tr_cAwait (k : Kn) (A : KA) (ad : Nat → Ad) (kb : Nat) (L : Hp) (hK : KH k A ad kb L) (hx : KX k) {i : Nat} {t : ThrM} {c : CapM} {s b : Int} {sp : Int × Int} (he : k.ar[i]? = some ⟨.thr t c s b, sp⟩) (n : Int) (hi : k.ix n = some i) (wt : Bool) (hq : (k.withR c t.regs.r7 5 1).2 = 0 → (k.ntI (k.withR c t.regs.r7 5 1).1.object).isSome = true) : Tr Tryz.prog 147 [clrV kb n (ad i).tb, .bool wt] (L) (fun u L' => u = .tuple #[] ∧ KH (k.await n i wt) A ad kb L') := by
 refine Tr.enter Tryz.func147 rfl Tryz.ntmps147 rfl (fun W F => ?_)
 refine Wp.app ?_
 refine Wr ?_
 refine zB fun b1 => ?_
 refine zq [2,5,3,4,29] ?_
 refine zD (tr_cWith k A ad kb _ hK hx he n 5 1) ?_
 rintro _ J1 ⟨rfl, hk1⟩
 refine Ops.app ?_
 refine zq [0,7,7] ?_
 refine zA fun b2 => ?_
 refine zq [14,1,2,5,3,3,4,0,55,2,5] ?_
 refine Wp.cond_dect rfl (fun h1 => ?_) (fun h1 => ?_)
 ·
  have hX : ¬ (k.withR c t.regs.r7 5 1).2 = 0 := by assumption
  rw [if_neg hX] at hk1
  refine zq [10,12] ?_
  rw [await_bad he wt hX]
  exact zr (L' := J1) ⟨rfl, hk1⟩
 have hX : (k.withR c t.regs.r7 5 1).2 = 0 := by omega
 rw [if_pos hX] at hk1
 haveI := hk1.kblk
 obtain ⟨⟨j, S⟩, hj⟩ := Option.isSome_iff_exists.1 (hq hX)
 obtain ⟨spn, hi2, hen⟩ := ntI_ex hj
 dsimp only at hi2 hen
 haveI := hk1.ntB hen
 refine zq [11,5,3,4,6,8,6,8] ?_
 refine zC ((hk1).gNtY hi2 hen) ?_
 refine zq [0,7,7,1,1,2,5,3] ?_
 refine AnyH.start [(b1, .cells [pV kb, .int .i64 n, pV (ad i).tb].toArray 174)] 15 rfl ?_
 refine zd [0,1,1,3,2,0,4,0,5,2,6,1] ?_
 refine AnyH.one 3 (by kernel_rfl) ?_
 refine Turn.ef rfl rfl (ef_pv (pv_load rfl rfl rfl) rfl) ?_ ?_
 ·
  rintro _ _ ⟨rfl, rfl⟩; infer_instance
 rintro _ _ ⟨rfl, rfl⟩
 refine AnyH.one 7 (by kernel_rfl) ?_
 refine Turn.ef rfl rfl (ef_call ((hk1).ntWait hx.kw hen n wt) rfl rfl) ?_ ?_
 ·
  rintro _ _ ⟨_, J2, ⟨rfl, hk2⟩, rfl, rfl⟩; infer_instance
 rintro _ _ ⟨_, J2, ⟨rfl, hk2⟩, rfl, rfl⟩
 refine AnyH.app ?_
 obtain ⟨hx1, q1⟩ := hx.setNt hen (wtS_n64 (hx.kw.ths _ _ hen) n wt)
 have he1 : (k.setNt j (wtS S n wt)).ar[i]? = some ⟨.thr t c s b, sp⟩ := setNt_thr hen he
 refine zd [8,1,9,4,10,4,11,4,12,5,13,5,14,5] ?_
 refine AnyH.done (by kernel_rfl) ?_
 refine zq [5,20,3,4,0,1,2,5] ?_
 refine Wp.cond_t rfl (fun h2 => ?_) (fun h2 => ?_)
 ·
  refine zq [4,29,0] ?_
  refine zD (tr_cWord (k.setNt j (wtS S n wt)) A ad kb _ hk2 hx1.kw n he1 (wtW S n)) ?_
  rintro _ J3 ⟨rfl, hk3⟩
  refine Ops.app ?_
  refine zq [2,19] ?_
  rw [await_eq he wt hX hj, if_pos (by assumption)]
  exact zf (L' := J3) ⟨rfl, hk3⟩
 refine zq [3,4,0,1,2,5] ?_
 refine Wp.cond_t rfl (fun h3 => ?_) (fun h3 => ?_)
 ·
  refine zq [4,29,6,8] ?_
  refine zD (tr_cWait (k.setNt j (wtS S n wt)) A ad kb _ hk2 hx1.kw n he1 hi 5 (k.withR c t.regs.r7 5 1).1.object 0 false) ?_
  rintro _ J4 ⟨rfl, hk4⟩
  refine Ops.app ?_
  refine zq [2,19] ?_
  rw [await_eq he wt hX hj, if_neg (by simp_all), if_pos (by assumption)]
  exact zf (L' := J4) ⟨rfl, hk4⟩
 refine zq [4,29] ?_
 refine zD (tr_cTell (k.setNt j (wtS S n wt)) A ad kb _ hk2 hx1.kw n he1 3 (by decide)) ?_
 rintro _ J5 ⟨rfl, hk5⟩
 refine Ops.app ?_
 refine zq [2,19] ?_
 rw [await_eq he wt hX hj, if_neg (by simp_all), if_neg (by simp_all)]
 exact zf (L' := J5) ⟨rfl, hk5⟩
section
variable {k : Kn} {on badge : Int} {j : Nat} {S : Nt} (hj : k.ntI on = some (j, S))
include hj
theorem notify_no (h : (sgB S (ntBd k S)) = false) : k.notify on badge = (k.setNt j (sgS S badge (ntBd k S))) := by
 unfold Kn.notify; rw [hj]; dsimp only; rw [if_pos h]
theorem notify_yes (h : (sgB S (ntBd k S)) = true) {w : ThrM} {cw : CapM} {sw bw : Int} (hw : (k.setNt j (sgS S badge (ntBd k S))).thr (sgV S (ntBd k S)) = some (w, cw, sw, bw)) : k.notify on badge = ((k.setNt j (sgS S badge (ntBd k S))).cancelE w.on (sgV S (ntBd k S))).wake (sgV S (ntBd k S)) { ansR w.regs 0 with r5 := sgW S badge (ntBd k S) } := by
 unfold Kn.notify; rw [hj]; dsimp only; rw [if_neg (by rw [h]; decide), hw]
end
theorem ntBd_no {k : Kn} {S : Nt} (h : k.thr (S.b.headD 0) = none) : ntBd k S = false := by unfold ntBd; rw [h]
theorem ntBd_yes {k : Kn} {S : Nt} {x : ThrM × CapM × Int × Int} (h : k.thr (S.b.headD 0) = some x) : ntBd k S = decide (x.1.st = 3) := by unfold ntBd; rw [h]
set_option maxHeartbeats 16000000 in
theorem tr_kNotifyZ (k : Kn) (A : KA) (ad : Nat → Ad) (kb : Nat) (L : Hp) (hK : KH k A ad kb L) (hx : KX k) (on badge : Int) {j : Nat} {S : Nt} {spn : Int × Int} (hi2 : k.ix on = some j) (hen : k.ar[j]? = some ⟨.nt S, spn⟩) (hz : k.thr (S.b.headD 0) = none) (hq : (sgB S (ntBd k S)) = true → (k.thr (sgV S (ntBd k S))).isSome = true) : Tr Tryz.prog 146 [pV kb, .int .i64 on, .int .u64 badge] (L) (fun u L' => u = .tuple #[] ∧ KH (k.notify on badge) A ad kb L') := by
 have hj := ntI_eq hi2 hen
 haveI := hK.ntB hen
 haveI := hK.kblk
 have ebd := (ntBd_no hz)
 obtain ⟨hx1, q1⟩ := hx.setNt hen (sgS_n64 (hx.kw.ths _ _ hen) badge (ntBd k S))
 have hsg : Tr Tryz.prog 192 [.pointer (some ⟨(ad j).nb, 0, none⟩), .int .u64 badge, .bool false] L (fun u L' => u = .tuple #[.int .i64 (sgV S (ntBd k S)), .int .u64 (sgW S badge (ntBd k S)), .bool (sgB S (ntBd k S))] ∧ KH (k.setNt j (sgS S badge (ntBd k S))) A ad kb L') := by have h := hK.ntSignal hx.kw hen badge (ntBd k S); rw [show Value.bool (ntBd k S) = .bool false by rw [ebd]] at h; exact h
 refine Tr.enter Tryz.func146 rfl Tryz.ntmps146 rfl (fun W F => ?_)
 refine Wp.app ?_
 refine zq [3,4,0,0] ?_
 refine zC (hK.gNtY hi2 hen) ?_
 refine zq [0,7,7,1,1,2,5,3,4,0,9,6,8] ?_
 refine zC (hK.ntBound hx.kw hen) ?_
 refine zq [0,7,7,1,1,2,5,3,4,0,0] ?_
 refine zC (hK.gThrZ hx.kw hz) ?_
 refine zq [0,7,7,1,1,2,5,3] ?_
 refine AnyH.start [] 22 rfl ?_
 refine zd [0,1,1,3,2,0,4,1,5,1,6,1] ?_
 refine Ts 7 rfl ⟨_, _, rfl, rfl, rfl⟩ rfl ?_
 refine Ts 8 rfl ⟨_, _, rfl, rfl, rfl⟩ rfl ?_
 refine Ts 9 rfl ⟨_, _, rfl, rfl, rfl⟩ rfl ?_
 refine Ts 10 rfl ⟨_, _, rfl, rfl, rfl⟩ rfl ?_
 refine Ts 11 rfl ⟨_, _, rfl, rfl, rfl⟩ rfl ?_
 refine Ts 12 rfl ⟨_, _, rfl, rfl, rfl⟩ rfl ?_
 refine Tk 13 rfl rfl (pv_pick_false rfl rfl) rfl ?_
 refine AnyH.one 3 (by kernel_rfl) ?_
 refine Turn.ef rfl rfl (ef_pv (pv_load rfl rfl rfl) rfl) ?_ ?_
 ·
  rintro _ _ ⟨rfl, rfl⟩; infer_instance
 rintro _ _ ⟨rfl, rfl⟩
 refine AnyH.one 14 (by kernel_rfl) ?_
 refine Turn.ef rfl rfl (ef_call hsg rfl rfl) ?_ ?_
 ·
  rintro _ _ ⟨_, J1, ⟨rfl, hk1⟩, rfl, rfl⟩; infer_instance
 rintro _ _ ⟨_, J1, ⟨rfl, hk1⟩, rfl, rfl⟩
 refine AnyH.app ?_
 have hkn := hk1
 refine zd [15,1,16,4,17,4,18,4,19,5,20,5,21,5] ?_
 refine AnyH.done (by kernel_rfl) ?_
 refine zq [5,3,4,0,0] ?_
 refine zC (hkn.objs fun E hE => tr_getThr (k.setNt j (sgS S badge (ntBd k S))) A ad kb E hE hx1.kw (sgV S (ntBd k S))) ?_
 refine zq [0,7,7,1,1,2,5,3,3,4,0,39,2,5] ?_
 refine Wp.cond_t rfl (fun h1 => ?_) (fun h1 => ?_)
 ·
  refine zq [10,12] ?_
  rw [notify_no hj (by simp_all)]
  exact zr (L' := J1) ⟨rfl, hkn⟩
 have hsB : (sgB S (ntBd k S)) = true := by simp_all
 obtain ⟨⟨w, cw, sw, bw⟩, hw0⟩ := Option.isSome_iff_exists.1 (hq hsB)
 obtain ⟨m, spm, him, hem⟩ := thr_ex hw0
 dsimp only at hem
 have hem1 : (k.setNt j (sgS S badge (ntBd k S))).ar[m]? = some ⟨.thr w cw sw bw, spm⟩ := setNt_thr hen hem
 have him1 : (k.setNt j (sgS S badge (ntBd k S))).ix (sgV S (ntBd k S)) = some m := him
 have hw1 := thr_eq him1 hem1
 rw [gPt_yes (ty := 94) him1 hem1 rfl]
 haveI := hkn.thr hem1
 rcases hep : (k.setNt j (sgS S badge (ntBd k S))).epI w.on with _ | ⟨je, Se⟩
 ·
  refine zq [11,5,3,3,4,0,0,9,6,6,8] ?_
  refine zC (hkn.gEpZ hx1.kw hep) ?_
  refine zq [0,7,7,1,1,2,5,3,4,0,2,5,17,11,5,3,4,0,9,6,6,33] ?_
  refine zC (tr_answered w.regs 0 (by decide)) ?_
  refine zA fun b1 => ?_
  refine zq [14,2,5,3,4,0] ?_
  refine Ops.pv (pv_indexAddrA (i := 5) rfl rfl rfl (by first | omega | (simp; done) | (simp; omega))) rfl ?_
  refine zq [25,2,5,4,0,0,33] ?_
  refine zD (tr_kWake _ A ad kb _ hk1 hx1.kw (sgV S (ntBd k S)) { ansR w.regs 0 with r5 := sgW S badge (ntBd k S) }) ?_
  rintro _ J2 ⟨rfl, hk2⟩
  refine Ops.app ?_
  refine Ops.nil ?_
  have hk9 := hk2
  rw [notify_yes hj hsB hw1, cancelE_no hx1.kw (by rw [ep_is hx1.kw, hep]; rfl)]
  exact zf (L' := J2) ⟨rfl, hk9⟩
 obtain ⟨spe, hi3, hee⟩ := epI_ex hep
 dsimp only at hi3 hee
 haveI := hkn.epB hee
 refine zq [11,5,3,3,4,0,0,9,6,6,8] ?_
 refine zC (hkn.gEpY hi3 hee) ?_
 refine zq [0,7,7,1,1,2,5,3,4,0,2,5,18,4,0,9,6,8,0] ?_
 refine zD (hkn.epCancel hx1.kw hee (sgV S (ntBd k S))) ?_
 rintro _ J3 ⟨rfl, hk3⟩
 refine Ops.app ?_
 haveI := (hk3).thr (setEp_thr hee hem1)
 rw [show (k.setNt j (sgS S badge (ntBd k S))).setEp je ⟨Se.w, remL Se.l (sgV S (ntBd k S))⟩ = (k.setNt j (sgS S badge (ntBd k S))).cancelE w.on (sgV S (ntBd k S)) from (cancelE_yes hi3 hee (sgV S (ntBd k S))).symm] at hk3
 obtain ⟨hx2, q2⟩ := hx1.cancelE w.on (sgV S (ntBd k S))
 obtain ⟨w2, hem2⟩ := q2.kp.th m w cw sw bw spm hem1
 refine zq [2,5,3,4,0,9,6,6,33] ?_
 refine zC (tr_answered w.regs 0 (by decide)) ?_
 refine zA fun b2 => ?_
 refine zq [14,2,5,3,4,0] ?_
 refine Ops.pv (pv_indexAddrA (i := 5) rfl rfl rfl (by first | omega | (simp; done) | (simp; omega))) rfl ?_
 refine zq [25,2,5,4,0,0,33] ?_
 refine zD (tr_kWake _ A ad kb _ hk3 hx2.kw (sgV S (ntBd k S)) { ansR w.regs 0 with r5 := sgW S badge (ntBd k S) }) ?_
 rintro _ J4 ⟨rfl, hk4⟩
 refine Ops.app ?_
 refine Ops.nil ?_
 rw [notify_yes hj hsB hw1]
 exact zf (L' := J4) ⟨rfl, hk4⟩
set_option maxHeartbeats 16000000 in
theorem tr_kNotifyY (k : Kn) (A : KA) (ad : Nat → Ad) (kb : Nat) (L : Hp) (hK : KH k A ad kb L) (hx : KX k) (on badge : Int) {j : Nat} {S : Nt} {spn : Int × Int} (hi2 : k.ix on = some j) (hen : k.ar[j]? = some ⟨.nt S, spn⟩) {ib : Nat} {tb : ThrM} {cb2 : CapM} {sb2 bb2 : Int} {spb : Int × Int} (hib : k.ix (S.b.headD 0) = some ib) (heb : k.ar[ib]? = some ⟨.thr tb cb2 sb2 bb2, spb⟩) (hq : (sgB S (ntBd k S)) = true → (k.thr (sgV S (ntBd k S))).isSome = true) : Tr Tryz.prog 146 [pV kb, .int .i64 on, .int .u64 badge] (L) (fun u L' => u = .tuple #[] ∧ KH (k.notify on badge) A ad kb L') := by
 have hj := ntI_eq hi2 hen
 haveI := hK.ntB hen
 haveI := hK.kblk
 haveI := hK.thr heb
 have ebd := (ntBd_yes (thr_eq hib heb))
 obtain ⟨hx1, q1⟩ := hx.setNt hen (sgS_n64 (hx.kw.ths _ _ hen) badge (ntBd k S))
 have hsg : Tr Tryz.prog 192 [.pointer (some ⟨(ad j).nb, 0, none⟩), .int .u64 badge, .bool (decide (tb.st = 3))] L (fun u L' => u = .tuple #[.int .i64 (sgV S (ntBd k S)), .int .u64 (sgW S badge (ntBd k S)), .bool (sgB S (ntBd k S))] ∧ KH (k.setNt j (sgS S badge (ntBd k S))) A ad kb L') := by have h := hK.ntSignal hx.kw hen badge (ntBd k S); rw [show Value.bool (ntBd k S) = .bool (decide (tb.st = 3)) by rw [ebd]] at h; exact h
 refine Tr.enter Tryz.func146 rfl Tryz.ntmps146 rfl (fun W F => ?_)
 refine Wp.app ?_
 refine zq [3,4,0,0] ?_
 refine zC (hK.gNtY hi2 hen) ?_
 refine zq [0,7,7,1,1,2,5,3,4,0,9,6,8] ?_
 refine zC (hK.ntBound hx.kw hen) ?_
 refine zq [0,7,7,1,1,2,5,3,4,0,0] ?_
 refine zC (hK.gThrY hib heb) ?_
 refine zq [0,7,7,1,1,2,5,3] ?_
 refine AnyH.start [] 22 rfl ?_
 refine zd [0,1,1,3,2,0,4,1,5,1,6,1] ?_
 refine Tk 7 rfl ⟨_, _, rfl, rfl, rfl⟩ (pv_move rfl) rfl ?_
 refine Tk 8 rfl ⟨_, _, rfl, rfl, rfl⟩ (pv_nilCheck rfl) rfl ?_
 refine Tk 9 rfl ⟨_, _, rfl, rfl, rfl⟩ (pv_fieldAddr0 rfl rfl) rfl ?_
 refine Tk 10 rfl ⟨_, _, rfl, rfl, rfl⟩ (pv_fieldAddr0 rfl rfl) rfl ?_
 refine AnyH.two 3 11 (by kernel_rfl) ?_ ?_
 ·
  refine Turn.ef rfl rfl (ef_pv (pv_load rfl rfl rfl) rfl) ?_ ?_
  ·
   rintro _ _ ⟨rfl, rfl⟩; infer_instance
  rintro _ _ ⟨rfl, rfl⟩
  refine AnyH.one 11 (by kernel_rfl) ?_
  refine Turn.ef rfl ⟨_, _, rfl, rfl, rfl⟩ (ef_pv (pv_load rfl rfl rfl) rfl) ?_ ?_
  ·
   rintro _ _ ⟨rfl, rfl⟩; infer_instance
  rintro _ _ ⟨rfl, rfl⟩
  refine Tk 12 rfl ⟨_, _, rfl, rfl, rfl⟩ (pv_eql rfl rfl) rfl ?_
  refine Tk 13 rfl rfl (pv_pick_true rfl rfl) rfl ?_
  refine AnyH.one 14 (by kernel_rfl) ?_
  refine Turn.ef rfl rfl (ef_call hsg rfl rfl) ?_ ?_
  ·
   rintro _ _ ⟨_, J1, ⟨rfl, hk1⟩, rfl, rfl⟩; infer_instance
  rintro _ _ ⟨_, J1, ⟨rfl, hk1⟩, rfl, rfl⟩
  refine AnyH.app ?_
  have hkn := hk1
  refine zd [15,1,16,4,17,4,18,4,19,5,20,5,21,5] ?_
  refine AnyH.done (by kernel_rfl) ?_
  refine zq [5,3,4,0,0] ?_
  refine zC (hkn.objs fun E hE => tr_getThr (k.setNt j (sgS S badge (ntBd k S))) A ad kb E hE hx1.kw (sgV S (ntBd k S))) ?_
  refine zq [0,7,7,1,1,2,5,3,3,4,0,39,2,5] ?_
  refine Wp.cond_t rfl (fun h1 => ?_) (fun h1 => ?_)
  ·
   refine zq [10,12] ?_
   rw [notify_no hj (by simp_all)]
   exact zr (L' := J1) ⟨rfl, hkn⟩
  have hsB : (sgB S (ntBd k S)) = true := by simp_all
  obtain ⟨⟨w, cw, sw, bw⟩, hw0⟩ := Option.isSome_iff_exists.1 (hq hsB)
  obtain ⟨m, spm, him, hem⟩ := thr_ex hw0
  dsimp only at hem
  have hem1 : (k.setNt j (sgS S badge (ntBd k S))).ar[m]? = some ⟨.thr w cw sw bw, spm⟩ := setNt_thr hen hem
  have him1 : (k.setNt j (sgS S badge (ntBd k S))).ix (sgV S (ntBd k S)) = some m := him
  have hw1 := thr_eq him1 hem1
  rw [gPt_yes (ty := 94) him1 hem1 rfl]
  haveI := hkn.thr hem1
  rcases hep : (k.setNt j (sgS S badge (ntBd k S))).epI w.on with _ | ⟨je, Se⟩
  ·
   refine zq [11,5,3,3,4,0,0,9,6,6,8] ?_
   refine zC (hkn.gEpZ hx1.kw hep) ?_
   refine zq [0,7,7,1,1,2,5,3,4,0,2,5,17,11,5,3,4,0,9,6,6,33] ?_
   refine zC (tr_answered w.regs 0 (by decide)) ?_
   refine zA fun b1 => ?_
   refine zq [14,2,5,3,4,0] ?_
   refine Ops.pv (pv_indexAddrA (i := 5) rfl rfl rfl (by first | omega | (simp; done) | (simp; omega))) rfl ?_
   refine zq [25,2,5,4,0,0,33] ?_
   refine zD (tr_kWake _ A ad kb _ hk1 hx1.kw (sgV S (ntBd k S)) { ansR w.regs 0 with r5 := sgW S badge (ntBd k S) }) ?_
   rintro _ J2 ⟨rfl, hk2⟩
   refine Ops.app ?_
   refine Ops.nil ?_
   have hk9 := hk2
   rw [notify_yes hj hsB hw1, cancelE_no hx1.kw (by rw [ep_is hx1.kw, hep]; rfl)]
   exact zf (L' := J2) ⟨rfl, hk9⟩
  obtain ⟨spe, hi3, hee⟩ := epI_ex hep
  dsimp only at hi3 hee
  haveI := hkn.epB hee
  refine zq [11,5,3,3,4,0,0,9,6,6,8] ?_
  refine zC (hkn.gEpY hi3 hee) ?_
  refine zq [0,7,7,1,1,2,5,3,4,0,2,5,18,4,0,9,6,8,0] ?_
  refine zD (hkn.epCancel hx1.kw hee (sgV S (ntBd k S))) ?_
  rintro _ J3 ⟨rfl, hk3⟩
  refine Ops.app ?_
  haveI := (hk3).thr (setEp_thr hee hem1)
  rw [show (k.setNt j (sgS S badge (ntBd k S))).setEp je ⟨Se.w, remL Se.l (sgV S (ntBd k S))⟩ = (k.setNt j (sgS S badge (ntBd k S))).cancelE w.on (sgV S (ntBd k S)) from (cancelE_yes hi3 hee (sgV S (ntBd k S))).symm] at hk3
  obtain ⟨hx2, q2⟩ := hx1.cancelE w.on (sgV S (ntBd k S))
  obtain ⟨w2, hem2⟩ := q2.kp.th m w cw sw bw spm hem1
  refine zq [2,5,3,4,0,9,6,6,33] ?_
  refine zC (tr_answered w.regs 0 (by decide)) ?_
  refine zA fun b2 => ?_
  refine zq [14,2,5,3,4,0] ?_
  refine Ops.pv (pv_indexAddrA (i := 5) rfl rfl rfl (by first | omega | (simp; done) | (simp; omega))) rfl ?_
  refine zq [25,2,5,4,0,0,33] ?_
  refine zD (tr_kWake _ A ad kb _ hk3 hx2.kw (sgV S (ntBd k S)) { ansR w.regs 0 with r5 := sgW S badge (ntBd k S) }) ?_
  rintro _ J4 ⟨rfl, hk4⟩
  refine Ops.app ?_
  refine Ops.nil ?_
  rw [notify_yes hj hsB hw1]
  exact zf (L' := J4) ⟨rfl, hk4⟩
 refine Turn.ef rfl ⟨_, _, rfl, rfl, rfl⟩ (ef_pv (pv_load rfl rfl rfl) rfl) ?_ ?_
 ·
  rintro _ _ ⟨rfl, rfl⟩; infer_instance
 rintro _ _ ⟨rfl, rfl⟩
 refine Tk 12 rfl ⟨_, _, rfl, rfl, rfl⟩ (pv_eql rfl rfl) rfl ?_
 refine Tk 13 rfl rfl (pv_pick_true rfl rfl) rfl ?_
 refine AnyH.one 3 (by kernel_rfl) ?_
 refine Turn.ef rfl rfl (ef_pv (pv_load rfl rfl rfl) rfl) ?_ ?_
 ·
  rintro _ _ ⟨rfl, rfl⟩; infer_instance
 rintro _ _ ⟨rfl, rfl⟩
 refine AnyH.one 14 (by kernel_rfl) ?_
 refine Turn.ef rfl rfl (ef_call hsg rfl rfl) ?_ ?_
 ·
  rintro _ _ ⟨_, J5, ⟨rfl, hk5⟩, rfl, rfl⟩; infer_instance
 rintro _ _ ⟨_, J5, ⟨rfl, hk5⟩, rfl, rfl⟩
 refine AnyH.app ?_
 have hkn := hk5
 refine zd [15,1,16,4,17,4,18,4,19,5,20,5,21,5] ?_
 refine AnyH.done (by kernel_rfl) ?_
 refine zq [5,3,4,0,0] ?_
 refine zC (hkn.objs fun E hE => tr_getThr (k.setNt j (sgS S badge (ntBd k S))) A ad kb E hE hx1.kw (sgV S (ntBd k S))) ?_
 refine zq [0,7,7,1,1,2,5,3,3,4,0,39,2,5] ?_
 refine Wp.cond_t rfl (fun h2 => ?_) (fun h2 => ?_)
 ·
  refine zq [10,12] ?_
  rw [notify_no hj (by simp_all)]
  exact zr (L' := J5) ⟨rfl, hkn⟩
 have hsB : (sgB S (ntBd k S)) = true := by simp_all
 obtain ⟨⟨w, cw, sw, bw⟩, hw0⟩ := Option.isSome_iff_exists.1 (hq hsB)
 obtain ⟨m, spm, him, hem⟩ := thr_ex hw0
 dsimp only at hem
 have hem1 : (k.setNt j (sgS S badge (ntBd k S))).ar[m]? = some ⟨.thr w cw sw bw, spm⟩ := setNt_thr hen hem
 have him1 : (k.setNt j (sgS S badge (ntBd k S))).ix (sgV S (ntBd k S)) = some m := him
 have hw1 := thr_eq him1 hem1
 rw [gPt_yes (ty := 94) him1 hem1 rfl]
 haveI := hkn.thr hem1
 rcases hep : (k.setNt j (sgS S badge (ntBd k S))).epI w.on with _ | ⟨je, Se⟩
 ·
  refine zq [11,5,3,3,4,0,0,9,6,6,8] ?_
  refine zC (hkn.gEpZ hx1.kw hep) ?_
  refine zq [0,7,7,1,1,2,5,3,4,0,2,5,17,11,5,3,4,0,9,6,6,33] ?_
  refine zC (tr_answered w.regs 0 (by decide)) ?_
  refine zA fun b3 => ?_
  refine zq [14,2,5,3,4,0] ?_
  refine Ops.pv (pv_indexAddrA (i := 5) rfl rfl rfl (by first | omega | (simp; done) | (simp; omega))) rfl ?_
  refine zq [25,2,5,4,0,0,33] ?_
  refine zD (tr_kWake _ A ad kb _ hk5 hx1.kw (sgV S (ntBd k S)) { ansR w.regs 0 with r5 := sgW S badge (ntBd k S) }) ?_
  rintro _ J6 ⟨rfl, hk6⟩
  refine Ops.app ?_
  refine Ops.nil ?_
  have hk9 := hk6
  rw [notify_yes hj hsB hw1, cancelE_no hx1.kw (by rw [ep_is hx1.kw, hep]; rfl)]
  exact zf (L' := J6) ⟨rfl, hk9⟩
 obtain ⟨spe, hi3, hee⟩ := epI_ex hep
 dsimp only at hi3 hee
 haveI := hkn.epB hee
 refine zq [11,5,3,3,4,0,0,9,6,6,8] ?_
 refine zC (hkn.gEpY hi3 hee) ?_
 refine zq [0,7,7,1,1,2,5,3,4,0,2,5,18,4,0,9,6,8,0] ?_
 refine zD (hkn.epCancel hx1.kw hee (sgV S (ntBd k S))) ?_
 rintro _ J7 ⟨rfl, hk7⟩
 refine Ops.app ?_
 haveI := (hk7).thr (setEp_thr hee hem1)
 rw [show (k.setNt j (sgS S badge (ntBd k S))).setEp je ⟨Se.w, remL Se.l (sgV S (ntBd k S))⟩ = (k.setNt j (sgS S badge (ntBd k S))).cancelE w.on (sgV S (ntBd k S)) from (cancelE_yes hi3 hee (sgV S (ntBd k S))).symm] at hk7
 obtain ⟨hx2, q2⟩ := hx1.cancelE w.on (sgV S (ntBd k S))
 obtain ⟨w2, hem2⟩ := q2.kp.th m w cw sw bw spm hem1
 refine zq [2,5,3,4,0,9,6,6,33] ?_
 refine zC (tr_answered w.regs 0 (by decide)) ?_
 refine zA fun b4 => ?_
 refine zq [14,2,5,3,4,0] ?_
 refine Ops.pv (pv_indexAddrA (i := 5) rfl rfl rfl (by first | omega | (simp; done) | (simp; omega))) rfl ?_
 refine zq [25,2,5,4,0,0,33] ?_
 refine zD (tr_kWake _ A ad kb _ hk7 hx2.kw (sgV S (ntBd k S)) { ansR w.regs 0 with r5 := sgW S badge (ntBd k S) }) ?_
 rintro _ J8 ⟨rfl, hk8⟩
 refine Ops.app ?_
 refine Ops.nil ?_
 rw [notify_yes hj hsB hw1]
 exact zf (L' := J8) ⟨rfl, hk8⟩
def ntOkB (k : Kn) (on : Int) : Bool := match k.ntI on with
  | none => false
  | some (j, S) => !sgB S (ntBd k S) || (k.thr (sgV S (ntBd k S))).isSome
theorem tr_kNotify (k : Kn) (A : KA) (ad : Nat → Ad) (kb : Nat) (L : Hp) (hK : KH k A ad kb L) (hx : KX k) (on badge : Int) (h : ntOkB k on = true) : Tr Tryz.prog 146 [pV kb, .int .i64 on, .int .u64 badge] L (fun u L' => u = .tuple #[] ∧ KH (k.notify on badge) A ad kb L') := by
 unfold ntOkB at h
 split at h
 ·
  cases h
 rename_i j S hj
 obtain ⟨sp, hi2, hen⟩ := ntI_ex hj
 have hq : sgB S (ntBd k S) = true → (k.thr (sgV S (ntBd k S))).isSome = true := fun hm => by rw [hm] at h; simpa using h
 cases hz : k.thr (S.b.headD 0) with
 | none => exact tr_kNotifyZ k A ad kb L hK hx on badge hi2 hen hz hq
 | some x =>
  obtain ⟨ib, spb, hib, heb⟩ := thr_ex hz
  exact tr_kNotifyY k A ad kb L hK hx on badge hi2 hen hib heb hq
def recvOkB (k : Kn) (n : Int) (i : Nat) : Bool := match k.thI i with
  | none => false
  | some (t, c, _, _) => decide ((k.withR c t.regs.r7 4 1).2 ≠ 0) || epOkB (k.orphan i) n (k.withR c t.regs.r7 4 1).1.object 2
theorem recvOk_to {k : Kn} {n : Int} {i : Nat} {t : ThrM} {c : CapM} {s b : Int} {sp : Int × Int} (he : k.ar[i]? = some ⟨.thr t c s b, sp⟩) (h : recvOkB k n i = true) : (k.withR c t.regs.r7 4 1).2 = 0 → epOkB (k.orphan i) n (k.withR c t.regs.r7 4 1).1.object 2 = true := fun h0 => by
 unfold recvOkB at h; rw [thI_eq he] at h
 dsimp only at h
 rw [decide_eq_false (fun e => e h0)] at h; simpa using h
structure CallOk (k : Kn) (n : Int) (i : Nat) (t : ThrM) (c : CapM) (v : Int) : Prop where
  send : (v = 0 ∨ v = 1 ∨ v = 2) → (k.withR c t.regs.r7 4 2).2 = 0 → infE t.regs.r0.toNat = 0 → epOkB k n (k.withR c t.regs.r7 4 2).1.object 1 = true
  recv : (v = 3 ∨ v = 4 ∨ (v = 6 ∧ t.caller = -1)) → recvOkB k n i = true
  rr : v = 6 → t.caller ≠ -1 → (k.reply i).2 = true → recvOkB (k.reply i).1 n i = true
  sig : v = 8 → (k.withR c t.regs.r7 5 2).2 = 0 → ntOkB k (k.withR c t.regs.r7 5 2).1.object = true
  awt : (v = 9 ∨ v = 10) → (k.withR c t.regs.r7 5 1).2 = 0 → (k.ntI (k.withR c t.regs.r7 5 1).1.object).isSome = true
def callOkB (k : Kn) (n : Int) (i : Nat) (v : Int) : Bool := match k.thI i with
  | none => false
  | some (t, c, _, _) =>
    (decide (¬ (v = 0 ∨ v = 1 ∨ v = 2)) || decide (¬ (k.withR c t.regs.r7 4 2).2 = 0) || decide (¬ infE t.regs.r0.toNat = 0) || epOkB k n (k.withR c t.regs.r7 4 2).1.object 1) &&
    (decide (¬ (v = 3 ∨ v = 4 ∨ (v = 6 ∧ t.caller = -1))) || recvOkB k n i) &&
    (decide (¬ (v = 6 ∧ t.caller ≠ -1)) || !(k.reply i).2 || recvOkB (k.reply i).1 n i) &&
    (decide (¬ v = 8) || decide (¬ (k.withR c t.regs.r7 5 2).2 = 0) || ntOkB k (k.withR c t.regs.r7 5 2).1.object) &&
    (decide (¬ (v = 9 ∨ v = 10)) || decide (¬ (k.withR c t.regs.r7 5 1).2 = 0) || (k.ntI (k.withR c t.regs.r7 5 1).1.object).isSome)
theorem CallOk.of {k : Kn} {n : Int} {i : Nat} {t : ThrM} {c : CapM} {s b : Int} {sp : Int × Int} (he : k.ar[i]? = some ⟨.thr t c s b, sp⟩) {v : Int} (h : callOkB k n i v = true) : CallOk k n i t c v := by
 unfold callOkB at h; rw [thI_eq he] at h
 simp only [Bool.and_eq_true, Bool.or_eq_true, decide_eq_true_eq, Bool.not_eq_true'] at h
 obtain ⟨⟨⟨⟨h1, h2⟩, h3⟩, h4⟩, h5⟩ := h
 refine ⟨fun a b d => ?_, fun a => ?_, fun a b d => ?_, fun a b => ?_, fun a b => ?_⟩
 ·
  rcases h1 with ((h1 | h1) | h1) | h1
  ·
   exact absurd a h1
  ·
   exact absurd b h1
  ·
   exact absurd d h1
  exact h1
 ·
  rcases h2 with h2 | h2
  ·
   exact absurd a h2
  exact h2
 ·
  rcases h3 with (h3 | h3) | h3
  ·
   exact absurd ⟨a, b⟩ h3
  ·
   rw [d] at h3; cases h3
  exact h3
 ·
  rcases h4 with (h4 | h4) | h4
  ·
   exact absurd a h4
  ·
   exact absurd b h4
  exact h4
 rcases h5 with (h5 | h5) | h5
 ·
  exact absurd a h5
 ·
  exact absurd b h5
 exact h5
section
variable (k : Kn) (n : Int) (i : Nat) (v : Int) {t : ThrM} {c : CapM} {s b : Int} {sp : Int × Int} (he : k.ar[i]? = some ⟨.thr t c s b, sp⟩)
theorem call_send (h : v = 0 ∨ v = 1 ∨ v = 2) : k.call n i v = k.send n i (decide (v ≠ 1)) (decide (v = 2)) := by unfold Kn.call; rw [if_pos h]
theorem call_recv (h : v = 3 ∨ v = 4) : k.call n i v = k.recv n i (decide (v = 3)) := by unfold Kn.call; rw [if_neg (by omega), if_pos h]
theorem call_reply (h : v = 5) : k.call n i v = (k.reply i).1 := by unfold Kn.call; rw [if_neg (by omega), if_neg (by omega), if_pos h]
include he in
theorem call_rrA (h : v = 6) (h2 : t.caller = -1) : k.call n i v = k.recv n i true := by unfold Kn.call; rw [if_neg (by omega), if_neg (by omega), if_neg (by omega), if_pos h, thI_eq he]; dsimp only; rw [if_pos h2]
include he in
theorem call_rrB (h : v = 6) (h2 : ¬ t.caller = -1) : k.call n i v = if (k.reply i).2 = true then (k.reply i).1.recv n i true else (k.reply i).1 := by unfold Kn.call; rw [if_neg (by omega), if_neg (by omega), if_neg (by omega), if_pos h, thI_eq he]; dsimp only; rw [if_neg h2]
theorem call_yield (h : v = 7) : k.call n i v = ({ k with L := syL k.L n } : Kn).tell i 0 := by unfold Kn.call; rw [if_neg (by omega), if_neg (by omega), if_neg (by omega), if_neg (by omega), if_pos h]
include he in
theorem call_sig (h : v = 8) : k.call n i v = if (k.withR c t.regs.r7 5 2).2 ≠ 0 then k.tell i (k.withR c t.regs.r7 5 2).2 else (k.notify (k.withR c t.regs.r7 5 2).1.object (k.withR c t.regs.r7 5 2).1.badge).tell i 0 := by unfold Kn.call; rw [if_neg (by omega), if_neg (by omega), if_neg (by omega), if_neg (by omega), if_neg (by omega), if_pos h, thI_eq he]
theorem call_awt (h : v = 9 ∨ v = 10) : k.call n i v = k.await n i (decide (v = 9)) := by unfold Kn.call; rw [if_neg (by omega), if_neg (by omega), if_neg (by omega), if_neg (by omega), if_neg (by omega), if_neg (by omega), if_pos h]
theorem call_none (h : ¬ (v = 0 ∨ v = 1 ∨ v = 2 ∨ v = 3 ∨ v = 4 ∨ v = 5 ∨ v = 6 ∨ v = 7 ∨ v = 8 ∨ v = 9 ∨ v = 10)) : k.call n i v = k.tell i 13 := by unfold Kn.call; rw [if_neg (by omega), if_neg (by omega), if_neg (by omega), if_neg (by omega), if_neg (by omega), if_neg (by omega), if_neg (by omega)]
end
set_option maxHeartbeats 32000000 in
theorem tr_cCall (k : Kn) (A : KA) (ad : Nat → Ad) (kb : Nat) (L : Hp) (hK : KH k A ad kb L) (hx : KX k) (hn : k.nk < 2 ^ 18) {i : Nat} {t : ThrM} {c : CapM} {s b : Int} {sp : Int × Int} (he : k.ar[i]? = some ⟨.thr t c s b, sp⟩) (n : Int) (hi : k.ix n = some i) (v : Int) (hq : CallOk k n i t c v) (KI : Kn) (eI : Int) (heI : 0 ≤ eI ∧ eI < 100) (hI : v = 11 → KX KI ∧ (∃ t' s' b', KI.ar[i]? = some ⟨.thr t' c s' b', sp⟩) ∧ ∀ L, KH k A ad kb L → Tr Tryz.prog 148 [clrV kb n (ad i).tb] L (fun u L' => u = .int .i64 eI ∧ KH KI A ad kb L')) : Tr Tryz.prog 79 [clrV kb n (ad i).tb, .int .u64 v] (L) (fun u L' => u = .bool (decide (v = 11 ∧ eI = 11)) ∧ KH (if v = 11 then (if eI = 11 then KI else KI.tell i eI) else k.call n i v) A ad kb L') := by
 haveI := hK.kblk
 haveI := hK.thr he
 refine Tr.enter Tryz.func79 rfl Tryz.ntmps79 rfl (fun W F => ?_)
 refine Wp.app ?_
 refine Wr ?_
 refine zB fun b1 => ?_
 refine zq [1,2,5,3,3,4,0,2,5,20,3,3,4,22,1,2,5] ?_
 refine Wp.cond_dect rfl (fun h1 => ?_) (fun h1 => ?_)
 ·
  refine zq [11,5,18,4,29,0,27,0,22] ?_
  refine zD (tr_cSend k A ad kb _ hK hx he hn n hi (decide (v ≠ 1)) (decide (v = 2)) (hq.send (by omega))) ?_
  rintro _ J1 ⟨rfl, hk1⟩
  refine Ops.app ?_
  refine zq [2,19,5,3,4,1,2,5,10] ?_
  rw [if_neg (by omega : ¬ v = 11), call_send k n i v (by omega)]
  exact Ends.ret (L' := J1) (res1 rfl rfl) ⟨by rw [decide_eq_false (fun e => absurd e.1 (by omega))], hk1⟩
 refine zq [3,4,22,1,2,5] ?_
 refine Wp.cond_dect rfl (fun h2 => ?_) (fun h2 => ?_)
 ·
  refine zq [11,5,18,4,29,0,27,0,22] ?_
  refine zD (tr_cSend k A ad kb _ hK hx he hn n hi (decide (v ≠ 1)) (decide (v = 2)) (hq.send (by omega))) ?_
  rintro _ J2 ⟨rfl, hk2⟩
  refine Ops.app ?_
  refine zq [2,19,5,3,4,1,2,5,10] ?_
  rw [if_neg (by omega : ¬ v = 11), call_send k n i v (by omega)]
  exact Ends.ret (L' := J2) (res1 rfl rfl) ⟨by rw [decide_eq_false (fun e => absurd e.1 (by omega))], hk2⟩
 refine zq [4,22,1,2,5] ?_
 refine Wp.cond_dect rfl (fun h3 => ?_) (fun h3 => ?_)
 ·
  refine zq [4,29,0,27,0,22] ?_
  refine zD (tr_cSend k A ad kb _ hK hx he hn n hi (decide (v ≠ 1)) (decide (v = 2)) (hq.send (by omega))) ?_
  rintro _ J3 ⟨rfl, hk3⟩
  refine Ops.app ?_
  refine zq [2,19,5,3,4,1,2,5,10] ?_
  rw [if_neg (by omega : ¬ v = 11), call_send k n i v (by omega)]
  exact Ends.ret (L' := J3) (res1 rfl rfl) ⟨by rw [decide_eq_false (fun e => absurd e.1 (by omega))], hk3⟩
 refine zq [3,3,4,22,1,2,5] ?_
 refine Wp.cond_dect rfl (fun h4 => ?_) (fun h4 => ?_)
 ·
  refine zq [11,5,18,4,29,0,22] ?_
  refine zD (tr_cRecv k A ad kb _ hK hx hn he n hi (decide (v = 3)) (recvOk_to he (hq.recv (by omega)))) ?_
  rintro _ J4 ⟨rfl, hk4⟩
  refine Ops.app ?_
  refine zq [2,19,5,3,4,1,2,5,10] ?_
  rw [if_neg (by omega : ¬ v = 11), call_recv k n i v (by omega)]
  exact Ends.ret (L' := J4) (res1 rfl rfl) ⟨by rw [decide_eq_false (fun e => absurd e.1 (by omega))], hk4⟩
 refine zq [4,22,1,2,5] ?_
 refine Wp.cond_dect rfl (fun h5 => ?_) (fun h5 => ?_)
 ·
  refine zq [4,29,0,22] ?_
  refine zD (tr_cRecv k A ad kb _ hK hx hn he n hi (decide (v = 3)) (recvOk_to he (hq.recv (by omega)))) ?_
  rintro _ J5 ⟨rfl, hk5⟩
  refine Ops.app ?_
  refine zq [2,19,5,3,4,1,2,5,10] ?_
  rw [if_neg (by omega : ¬ v = 11), call_recv k n i v (by omega)]
  exact Ends.ret (L' := J5) (res1 rfl rfl) ⟨by rw [decide_eq_false (fun e => absurd e.1 (by omega))], hk5⟩
 refine zq [3,4,22,1,2,5] ?_
 refine Wp.cond_dect rfl (fun h6 => ?_) (fun h6 => ?_)
 ·
  refine zq [4,29] ?_
  refine zD (tr_cReply k A ad kb _ hK hx he n) ?_
  rintro _ J6 ⟨rfl, hk6⟩
  refine Ops.app ?_
  refine zq [2,19,5,3,4,1,2,5,10] ?_
  rw [if_neg (by omega : ¬ v = 11), call_reply k n i v (by omega)]
  exact Ends.ret (L' := J6) (res1 rfl rfl) ⟨by rw [decide_eq_false (fun e => absurd e.1 (by omega))], hk6⟩
 refine zq [3,4,22,1,2,5] ?_
 refine Wp.cond_dect rfl (fun h7 => ?_) (fun h7 => ?_)
 ·
  refine zq [3,4,6,8,9,6,6,8,22,0] ?_
  refine Ops.split (t := 41) rfl (fun h8 => ?_) (fun h8 => ?_)
  ·
   refine zq [13,13,24,2,5,18,4,29] ?_
   refine zD (tr_cRecv k A ad kb _ hK hx hn he n hi true (recvOk_to he (hq.recv (by omega)))) ?_
   rintro _ J7 ⟨rfl, hk7⟩
   refine Ops.app ?_
   refine zq [2,19,5,3,4,1,2,5,10] ?_
   rw [if_neg (by omega : ¬ v = 11), call_rrA k n i v he (by omega) (by assumption)]
   exact Ends.ret (L' := J7) (res1 rfl rfl) ⟨by rw [decide_eq_false (fun e => absurd e.1 (by omega))], hk7⟩
  refine Ops.pvg ⟨_, _, rfl, rfl, rfl⟩ (pv_loadK [_, _, _] rfl rfl rfl ⟨rfl, rfl, rfl, trivial⟩) rfl ?_
  refine Ops.efg ⟨_, _, rfl, rfl, rfl⟩ (ef_call (tr_cReply k A ad kb _ hK hx he n) rfl rfl) ?_
  rintro _ _ ⟨_, J8, ⟨rfl, hk8⟩, rfl, rfl⟩
  refine Ops.app ?_
  obtain ⟨hx1, q1⟩ := hx.reply i
  obtain ⟨t1, he1⟩ := q1.kp.th i t c s b sp he
  have hi1 := (q1.kp.ix n).trans hi
  have hn1 : (k.reply i).1.nk < 2 ^ 18 := by have := q1.nk; omega
  refine zq [26,2,5] ?_
  refine Wp.cond_t rfl (fun h9 => ?_) (fun h9 => ?_)
  ·
   refine zq [4,29] ?_
   refine zD (tr_cRecv (k.reply i).1 A ad kb _ hk8 hx1 hn1 he1 n hi1 true (recvOk_to he1 (hq.rr (by omega) (by assumption) (by assumption)))) ?_
   rintro _ J9 ⟨rfl, hk9⟩
   refine Ops.app ?_
   refine zq [2,19,5,3,4,1,2,5,10] ?_
   rw [if_neg (by omega : ¬ v = 11), call_rrB k n i v he (by omega) (by assumption), if_pos (by assumption)]
   exact Ends.ret (L' := J9) (res1 rfl rfl) ⟨by rw [decide_eq_false (fun e => absurd e.1 (by omega))], hk9⟩
  refine zq [11,19,5,3,4,1,2,5,10] ?_
  rw [if_neg (by omega : ¬ v = 11), call_rrB k n i v he (by omega) (by assumption), if_neg (by simp_all)]
  exact Ends.ret (L' := J8) (res1 rfl rfl) ⟨by rw [decide_eq_false (fun e => absurd e.1 (by omega))], hk8⟩
 refine zq [3,4,22,1,2,5] ?_
 refine Wp.cond_dect rfl (fun h10 => ?_) (fun h10 => ?_)
 ·
  refine Wp.seq ?_
  refine AnyH.start [(b1, .cells [pV kb, .int .i64 n, pV (ad i).tb].toArray 174)] 8 rfl ?_
  refine zd [0,0,1,2,2,3,3,0,5,0,6,2] ?_
  refine AnyH.one 4 (by kernel_rfl) ?_
  refine Turn.ef rfl rfl (ef_pv (pv_load rfl rfl rfl) rfl) ?_ ?_
  ·
   rintro _ _ ⟨rfl, rfl⟩; infer_instance
  rintro _ _ ⟨rfl, rfl⟩
  refine AnyH.one 7 (by kernel_rfl) ?_
  refine Turn.ef rfl rfl (ef_call (hK.sYield hx.kw n) rfl rfl) ?_ ?_
  ·
   rintro _ _ ⟨_, J10, ⟨rfl, hk10⟩, rfl, rfl⟩; infer_instance
  rintro _ _ ⟨_, J10, ⟨rfl, hk10⟩, rfl, rfl⟩
  refine AnyH.app ?_
  obtain ⟨hx1, q1⟩ := hx.yield n
  refine AnyH.done (by kernel_rfl) ?_
  refine zq [5,4,29] ?_
  refine zD (tr_cTell { k with L := syL k.L n } A ad kb _ hk10 hx1.kw n he 0 (by decide)) ?_
  rintro _ J11 ⟨rfl, hk11⟩
  refine Ops.app ?_
  refine zq [2,19,5,3,4,1,2,5,10] ?_
  rw [if_neg (by omega : ¬ v = 11), call_yield k n i v (by omega)]
  exact Ends.ret (L' := J11) (res1 rfl rfl) ⟨by rw [decide_eq_false (fun e => absurd e.1 (by omega))], hk11⟩
 refine zq [3,4,22,1,2,5] ?_
 refine Wp.cond_dect rfl (fun h11 => ?_) (fun h11 => ?_)
 ·
  refine zq [3,4,29] ?_
  refine zD (tr_cWith k A ad kb _ hK hx he n 5 2) ?_
  rintro _ J12 ⟨rfl, hk12⟩
  refine Ops.app ?_
  refine zq [0,7,7] ?_
  refine zA fun b2 => ?_
  refine zq [14,1,2,5,3,4,0,2,5] ?_
  refine Wp.cond_dect rfl (fun h12 => ?_) (fun h12 => ?_)
  ·
   have hX : (k.withR c t.regs.r7 5 2).2 = 0 := by assumption
   rw [if_pos hX] at hk12
   refine zq [3,4,6,8,6,8,6,8] ?_
   refine zD (tr_kNotify k A ad kb _ hk12 hx (k.withR c t.regs.r7 5 2).1.object (k.withR c t.regs.r7 5 2).1.badge (hq.sig (by omega) hX)) ?_
   rintro _ J13 ⟨rfl, hk13⟩
   refine Ops.app ?_
   obtain ⟨hx1, q1⟩ := hx.notify (k.withR c t.regs.r7 5 2).1.object (with_badge hx c t.regs.r7 5 2)
   obtain ⟨t1, he1⟩ := q1.kp.th i t c s b sp he
   refine zq [2,5,4,29] ?_
   refine zD (tr_cTell _ A ad kb _ hk13 hx1.kw n he1 0 (by decide)) ?_
   rintro _ J14 ⟨rfl, hk14⟩
   refine Ops.app ?_
   refine zq [2,19,5,3,4,1,2,5,10] ?_
   rw [if_neg (by omega : ¬ v = 11), call_sig k n i v he (by omega), if_neg (by omega)]
   exact Ends.ret (L' := J14) (res1 rfl rfl) ⟨by rw [decide_eq_false (fun e => absurd e.1 (by omega))], hk14⟩
  have hX : ¬ (k.withR c t.regs.r7 5 2).2 = 0 := by assumption
  rw [if_neg hX] at hk12
  refine zq [11,19,5,3,4,1,2,5,10] ?_
  rw [if_neg (by omega : ¬ v = 11), call_sig k n i v he (by omega), if_pos (by omega)]
  exact Ends.ret (L' := J12) (res1 rfl rfl) ⟨by rw [decide_eq_false (fun e => absurd e.1 (by omega))], hk12⟩
 refine zq [3,3,4,22,1,2,5] ?_
 refine Wp.cond_dect rfl (fun h13 => ?_) (fun h13 => ?_)
 ·
  refine zq [11,5,18,4,29,0,22] ?_
  refine zD (tr_cAwait k A ad kb _ hK hx he n hi (decide (v = 9)) (hq.awt (by omega))) ?_
  rintro _ J15 ⟨rfl, hk15⟩
  refine Ops.app ?_
  refine zq [2,19,5,3,4,1,2,5,10] ?_
  rw [if_neg (by omega : ¬ v = 11), call_awt k n i v (by omega)]
  exact Ends.ret (L' := J15) (res1 rfl rfl) ⟨by rw [decide_eq_false (fun e => absurd e.1 (by omega))], hk15⟩
 refine zq [4,22,1,2,5] ?_
 refine Wp.cond_dect rfl (fun h14 => ?_) (fun h14 => ?_)
 ·
  refine zq [4,29,0,22] ?_
  refine zD (tr_cAwait k A ad kb _ hK hx he n hi (decide (v = 9)) (hq.awt (by omega))) ?_
  rintro _ J16 ⟨rfl, hk16⟩
  refine Ops.app ?_
  refine zq [2,19,5,3,4,1,2,5,10] ?_
  rw [if_neg (by omega : ¬ v = 11), call_awt k n i v (by omega)]
  exact Ends.ret (L' := J16) (res1 rfl rfl) ⟨by rw [decide_eq_false (fun e => absurd e.1 (by omega))], hk16⟩
 refine zq [3,4,22,1,2,5] ?_
 refine Wp.cond_dect rfl (fun h15 => ?_) (fun h15 => ?_)
 ·
  obtain ⟨hIx, ⟨tI, sI, bI, hIe⟩, hIt⟩ := hI (by omega)
  refine zq [3,4,29] ?_
  refine zD (hIt _ hK) ?_
  rintro _ J17 ⟨rfl, hk17⟩
  refine Ops.app ?_
  refine zq [1,2,5,3,3,4,0,22,2,5] ?_
  refine Wp.cond_dect rfl (fun h16 => ?_) (fun h16 => ?_)
  ·
   refine zq [3,4,1,2,5,10,12,15,12] ?_
   rw [if_pos (by omega : v = 11), if_pos (by assumption : eI = 11)]
   exact Ends.ret (L' := J17) (res1 rfl rfl) ⟨by rw [decide_eq_true ⟨(by omega : v = 11), by assumption⟩], hk17⟩
  refine zq [11,5,4,29,0] ?_
  refine zD (tr_cTell KI A ad kb _ hk17 hIx.kw n hIe eI heI) ?_
  rintro _ J18 ⟨rfl, hk18⟩
  refine Ops.app ?_
  refine zq [2,19,5,3,4,1,2,5,10] ?_
  rw [if_pos (by omega : v = 11), if_neg (by assumption : ¬ eI = 11)]
  exact Ends.ret (L' := J18) (res1 rfl rfl) ⟨by rw [decide_eq_false (fun e => absurd e.2 (by assumption))], hk18⟩
 refine zq [4,29] ?_
 refine zD (tr_cTell k A ad kb _ hK hx.kw n he 13 (by decide)) ?_
 rintro _ J19 ⟨rfl, hk19⟩
 refine Ops.app ?_
 refine zq [2,19,5,3,4,1,2,5,10] ?_
 rw [if_neg (by omega : ¬ v = 11), call_none k n i v (by omega)]
 exact Ends.ret (L' := J19) (res1 rfl rfl) ⟨by rw [decide_eq_false (fun e => absurd e.1 (by omega))], hk19⟩
end Go.Proofs.YtipncceiekalfaaGreat
end
